/-
  SrvAsked; LSAsked
-/
import Derived.Test.YtlipmlbijddopaaGreatDoorZ28
import Derived.Test.YtlipmlbijddopaaGreatDoorZ03
import Derived.Test.YtlipmlbijddopaaGreatDoorTie
import Derived.Test.YtlipmlbijddopaaGreatDoorCards
set_option linter.unusedVariables false
set_option linter.unusedSimpArgs false
namespace Go.Proofs.YtlipmlbijddopaaGreatDoor
namespace Srv
/-- a message with one question -/
def QM (id fl : Nat) (n : List (List UInt8)) : Ms := ⟨id, fl, [⟨n, 33, 1⟩], [], [], []⟩
theorem QM_fine {id fl : Nat} {n : List (List UInt8)} (hid : id < 65536) (hfl : fl < 65536) (hn : rightN n = true) : Fine (QM id fl n) := by
  have hr : rightM (QM id fl n) = true := by simp [rightM, QM, hn]
  have hs := size_right hn
  refine ⟨hr, ⟨hid, hfl, fun q h => ?_, fun q h => (by cases h), fun q h => (by cases h), fun q h => (by cases h)⟩, by simp [QM, Ms.num], ?_⟩
  · simp only [QM, List.mem_singleton] at h
    subst h
    exact ⟨show 33 < 65536 by decide, show 1 < 65536 by decide⟩
  · have := form_bound (m := QM id fl n) (q := ⟨n, 33, 1⟩) (N := 255) (D := 0) rfl hr hs (fun r h => (by cases h)) (fun r h => (by cases h)) (fun r h => (by cases h))
    simp [QM] at this
    simp [QM]
    omega
def oneMore (l : List (List UInt8)) : List (List UInt8) := madeN l ++ [[115]]
theorem oneMore_right (l : List (List UInt8)) : rightN (oneMore l) = true := by
  have h := made_right l
  have h1 := (made_ok l).2
  have h2 := labS_length (madeN l)
  unfold rightN at h ⊢
  simp only [Bool.and_eq_true, decide_eq_true_eq] at h ⊢
  have h3 := sizeN_append (madeN l) [[115]]
  have h4 : sizeN [[115]] = 3 := rfl
  refine ⟨?_, ?_⟩
  · unfold oneMore
    rw [List.all_append, h.1]
    rfl
  · unfold oneMore
    omega
theorem oneMore_text (l : List (List UInt8)) : textR (oneMore l) = (textN (oneMore l), 0) := by unfold textR; rw [if_pos (oneMore_right l)]
theorem oneMore_ask (id : Nat) (l : List (List UInt8)) (hid : id < 65536) : askN id (textN (oneMore l)) = (formM (askM id (oneMore l)), 0) := by
  rw [ask_eq hid, Tx.parse_of_text _ (oneMore_right l), if_neg]
  simp [oneMore]
theorem asked1 {id : Nat} {n : List (List UInt8)} (hid : id < 65536) (hn : rightN n = true) : takeN (formM (askM id n)) (formM (askM id n)) = ([], 182) := by
  rw [take_fine hid hn (ask_fine hid hn), take_other (.inl (by simp [askM]))]
theorem asked2 {id : Nat} {n : List (List UInt8)} (hid : id < 65536) (hn : rightN n = true) : takeN (formM (askM id n)) (formM (QM id 33024 n)) = ([], 0) := by
  rw [take_fine hid hn (QM_fine hid (by omega) hn), take_reply (id := id) (n := n) (m := QM id 33024 n) rfl rfl (show 33024 / 32768 % 2 = 1 by decide)]
  have h : answersM (QM id 33024 n) n 33 = [] := rfl
  rw [h]
  have h2 : sortA (addA []) = [] := by simp [addA, sortA]
  rw [h2]
  simp [QM, okA, onceA]
theorem asked3 {id : Nat} {n : List (List UInt8)} (hid : id < 65536) (hn : rightN n = true) (r : List UInt8) : takeN (formM (QM id 33024 n)) r = ([], 181) := by
  unfold takeN askedB
  rw [(QM_fine hid (by omega) hn).read]
  exact if_pos (by simp [askedM, QM])
theorem asked4 {id id2 : Nat} {n : List (List UInt8)} (hid : id < 65536) (hid2 : id2 < 65536) (hn : rightN n = true) (hne : id2 ≠ id) : takeN (formM (askM id n)) (formM (QM id2 33024 n)) = ([], 182) := by
  rw [take_fine hid hn (QM_fine hid2 (by omega) hn), take_other (.inr (.inl hne))]
theorem asked5 {id : Nat} {n k : List (List UInt8)} (hid : id < 65536) (hn : rightN n = true) (hk : rightN k = true) (hne : k ≠ n) : takeN (formM (askM id n)) (formM (QM id 33024 k)) = ([], 182) := by
  rw [take_fine hid hn (QM_fine hid (by omega) hk), take_other (.inr (.inr (by simp [QM, hne])))]
theorem xor_ne (a b : Nat) (h : b ≠ 0) : a ^^^ b ≠ a := by
  intro e
  apply h
  have : a ^^^ (a ^^^ b) = a ^^^ a := by rw [e]
  rwa [← Nat.xor_assoc, Nat.xor_self, Nat.zero_xor] at this
theorem xor_lt (a b : Nat) (ha : a < 65536) (hb : b < 65536) : a ^^^ b < 65536 := Nat.xor_lt_two_pow (n := 16) ha hb
end Srv
open Go.RowKit
theorem rd_lt5 {w : World} {A : Option Addr} {n : Nat} {xs : List Value} (h : Rd w w.heap.size A n xs) (h0 : 0 < n) : ∀ a, A = some a → a.block < w.heap.size := fun a ha => by
  obtain ⟨b, o, e, hb, _⟩ := h.2 h0
  rw [e] at ha
  cases ha
  exact hb
theorem OwM.row {w : World} {base b o c n s : Nat} {e : TypeId} {xs : List Value} (h : OwM w base e s (.slice (some ⟨b, o, none⟩) n c) n xs) : o = 0 ∧ base ≤ b ∧ ∃ rest, Vx w b e (xs ++ rest) := by
  rcases h.2 with ⟨h1, _⟩ | ⟨g, cap, cur, h1, h2, h3, _, _, _, h4⟩
  · cases h1
  · injection h1 with h1
    injection h1 with h1
    cases h1
    refine ⟨rfl, h2, cur.toList.drop (n * s), ?_⟩
    unfold Vx
    rw [← h4, List.take_append_drop]
    simpa using h3
structure SA (w : World) (G B5 : Nat) (A5 A3 : Option Addr) (LQ L : Nat) (Q : List UInt8) (N : List (List UInt8)) (b0 : Nat) (cs : List Value) (x : MR) (W : World) : Prop where
  b : Below w.heap.size w W
  g : w.heap.size ≤ G
  lt : G ≤ W.heap.size
  q : Rd W B5 A5 LQ (bc Q)
  a : Rd W B5 A3 L (sc N)
  m : MRd W G x
  v : Vx W b0 76 cs
  bG : b0 < G
  b5 : B5 ≤ b0
theorem SA.go {w : World} {G B5 : Nat} {A5 A3 : Option Addr} {LQ L : Nat} {Q : List UInt8} {N : List (List UInt8)} {b0 : Nat} {cs : List Value} {x : MR} {W W' : World} (h : SA w G B5 A5 A3 LQ L Q N b0 cs x W) (hb : Below G W W') (hl : G ≤ W'.heap.size) : SA w G B5 A5 A3 LQ L Q N b0 cs x W' :=
  ⟨h.b.trans (hb.mono h.g), h.g, hl, h.q.below (hb.mono (by have := h.b5; have := h.bG; omega)), h.a.below (hb.mono (by have := h.b5; have := h.bG; omega)), h.m.below hb, h.v.below hb h.bG, h.bG, h.b5⟩
theorem SA.far {w : World} {G B5 : Nat} {A5 A3 : Option Addr} {LQ L : Nat} {Q : List UInt8} {N : List (List UInt8)} {b0 : Nat} {cs : List Value} {x : MR} {W W' : World} (h : SA w G B5 A5 A3 LQ L Q N b0 cs x W) (hb : Below W.heap.size W W') : SA w G B5 A5 A3 LQ L Q N b0 cs x W' :=
  h.go (hb.mono h.lt) (Nat.le_trans h.lt hb.size)
theorem SA.set_ {w : World} {G B5 : Nat} {A5 A3 : Option Addr} {LQ L : Nat} {Q : List UInt8} {N : List (List UInt8)} {b0 : Nat} {cs : List Value} {x : MR} {W : World} (h : SA w G B5 A5 A3 LQ L Q N b0 cs x W) (k : Nat) (v : Value) : SA w G B5 A5 A3 LQ L Q N b0 cs x (W.setCell ⟨G, k, none⟩ v) :=
  h.go ((Below.refl G W).setCell (Nat.le_refl _) v) (Nat.le_trans h.lt (Only.set_ W G k v).size)
theorem SA.Q {w : World} {G B5 : Nat} {A5 A3 : Option Addr} {LQ L : Nat} {Q : List UInt8} {N : List (List UInt8)} {b0 : Nat} {cs : List Value} {x : MR} {W : World} (h : SA w G B5 A5 A3 LQ L Q N b0 cs x W) : Rd W W.heap.size A5 LQ (bc Q) := h.q.more (by have := h.b5; have := h.bG; have := h.lt; omega)
theorem rd_pre {w : World} {B n m : Nat} {A : Option Addr} {xs ys zs : List Value} (h : Rd w B A n xs) (hx : xs = ys ++ zs) (hm : ys.length = m) : Rd w B A m ys := by
  refine ⟨hm, fun h0 => ?_⟩
  have hn := h.1
  rw [hx, List.length_append] at hn
  obtain ⟨b, o, e, hb, hc⟩ := h.2 (by omega)
  refine ⟨b, o, e, hb, fun j u hu => hc j u ?_⟩
  rw [hx, List.getElem?_append_left]
  · exact hu
  · rcases Nat.lt_or_ge j ys.length with h1 | h1
    · exact h1
    · rw [List.getElem?_eq_none h1] at hu; cases hu
theorem rs_nilA (w : World) (B : Nat) (A : Option Addr) (c : Nat) : RsRd w B A c 0 [] := ⟨by rw [Nat.zero_mul]; exact Rd.nil _ _ _, rfl, Nat.zero_le _, by omega, fun _ h => by cases h⟩
/-- another message over the same lists -/
theorem SA.mr {w : World} {G B5 : Nat} {A5 A3 : Option Addr} {LQ L : Nat} {Q : List UInt8} {N : List (List UInt8)} {b0 : Nat} {cs : List Value} {x : MR} {W : World} (h : SA w G B5 A5 A3 LQ L Q N b0 cs x W) {id fl : Nat} (hid : id < 65536) (hfl : fl < 65536) :
    MRd W W.heap.size ⟨id, fl, x.qA, x.qc, x.qs, x.aA, x.ac, x.r0, x.bA, x.bc, x.r1, x.cA, x.cc, x.r2⟩ := by
  have hm := h.m.more h.lt
  exact ⟨hid, hfl, hm.2.2⟩
set_option maxRecDepth 100000 in
set_option maxHeartbeats 4000000 in
theorem srvAsked_any (id : Nat) (A : Option Addr) (c : Nat) (l : List (List UInt8)) (other : Nat) (w : World) (_ : True) (hid : id < 65536) (h : Rd w w.heap.size A l.length (sc l)) (hc : l.length ≤ c) (hb : l.length * 16 ≤ 140737488351232) (hx : ∀ x ∈ l, x.length ≤ 140737488351232) (hot : other < 65536) :
    Calls Tryz.prog 9 #[.int .u16 (id : Int), .slice A l.length c, .int .u16 (other : Int)] w fun e w' => e = .returned (.bool true) ∧ Below w.heap.size w w' := by
  obtain ⟨i0, hi, hz0, hz1, hz2⟩ := info_parts Tryz.infoStr
  have K1 := Lib.hid (fun (W : World) (hW : Below w.heap.size w W) => made_any A c l W (h.goes hW) hc hb hx)
  have hML := made_len l
  have hNr := Srv.oneMore_right l
  have hNx := Srv.oneMore_text l
  have hNa := Srv.oneMore_ask id l hid
  have hNs : sc (Srv.oneMore l) = sc (madeN l) ++ [.string ⟨#[115]⟩] := by unfold Srv.oneMore; rw [sc_append]; rfl
  have hNl : (Srv.oneMore l).length = (madeN l).length + 1 := by unfold Srv.oneMore; simp
  have hne : madeN l ≠ Srv.oneMore l := fun e => by
    have := congrArg List.length e
    rw [hNl] at this; omega
  have hMr := made_right l
  have hNt : (Srv.oneMore l).take (madeN l).length = madeN l := by unfold Srv.oneMore; simp
  obtain ⟨M, hM⟩ : ∃ M, M = madeN l := ⟨_, rfl⟩
  obtain ⟨N, hN⟩ : ∃ N, N = Srv.oneMore l := ⟨_, rfl⟩
  rw [← hM] at K1 hML hNs hNl hne hMr hNt
  rw [← hN] at hNr hNx hNa hNs hNl hne hNt
  obtain ⟨F, hF⟩ : ∃ F, F = textN N := ⟨_, rfl⟩
  rw [← hF] at hNx hNa
  obtain ⟨Q, hQ⟩ : ∃ Q, Q = formM (Srv.askM id N) := ⟨_, rfl⟩
  rw [← hQ] at hNa
  have hFl : F.length ≤ 1000000 := by
    have h1 := textR_le N
    rw [hNx] at h1
    have : F.length ≤ 1020 := h1
    omega
  have hQ1 : readM Q = (Srv.askM id N, 0) := by rw [hQ]; exact (ask_fine hid hNr).read
  have hQl : Q.length ≤ 4096 := by rw [hQ]; exact (ask_fine hid hNr).len
  have hNz : sizeN N ≤ 255 := size_right hNr
  have hQ12 : 12 ≤ Q.length := (read_ok (b := Q) (by rw [hQ1])).2.2.2.1
  obtain ⟨LQ, hLQ⟩ : ∃ L, L = Q.length := ⟨_, rfl⟩
  obtain ⟨LM, hLM⟩ : ∃ L, L = M.length := ⟨_, rfl⟩
  rw [← hLM] at hML hNl hNt
  have HN := Lib.hid hNr
  have HNX := Lib.hid hNx
  have HNA := Lib.hid hNa
  have HNS := Lib.hid hNs
  have HNL := Lib.hid hNl
  have HNE := Lib.hid hne
  have HMR := Lib.hid hMr
  have HNT := Lib.hid hNt
  have HQ := Lib.hid hQ
  have HQ1 := Lib.hid hQ1
  have HLQ := Lib.hid hLQ
  have HLM := Lib.hid hLM
  have HFL := Lib.hid hFl
  have HNZ := Lib.hid hNz
  rw [← hLQ] at hQl hQ12
  have KRD := Lib.hid (fun (A6 : Option Addr) (c6 : Nat) (W : World) (h1 : Rd W W.heap.size A6 LQ (bc Q)) (h2 : LQ ≤ c6) (h3 : ∀ a, A6 = some a → a.block < W.heap.size) => by
    have h := readO_at A6 c6 Q (Srv.askM id N) 0 hQ1 W (by rw [← hLQ]; exact h1) (by rw [← hLQ]; exact h2) h3 (by rw [← hLQ]; omega)
    rw [← hLQ] at h
    exact h)
  clear hNr hNx hNa hNs hNl hne hMr hNt hQ hQ1 hLQ hLM hM hN hF hFl hNz h hb hx hc
  go_enter Tryz.func9, Tryz.ntmps9
  go_upto_region 4 with (first
    | (at_builtin
       refine wpList_app _ rfl _ _ _ _ rfl w1.heap.size 9 i0 (.string ⟨#[]⟩) 16 Tryz.underlying38 hi hz0 hz1 hz2 rfl (by omega) _ _ (HO2.out.alloc _) rfl 1 [_] (one_src Tryz.underlying38 _ rfl) (by rw [sc_length, ← HLM.out]; omega) (by have := HB12.out.size; simp; omega) ?_
       intro v3 w3 hown3 hgr3 hsz3
       rw [← HNS.out] at hown3
       obtain ⟨A3, c3, rfl, hc3, hr3⟩ := hown3.form7 (LM + 1) (by rw [sc_length]; exact HNL.out)
       have HR3 := Lib.hid hr3
       have HB3 := Lib.hid (HB1.out.trans (((HB12.out.alloc HB12.out.size _).trans (hgr3.below (Ow.lt HO2.out) (by have := HB12.out.size; simp; omega))).mono HB1.out.size))
       clear hown3 hgr3 hr3)
    | (go_at_call 30
       refine (K1.out w1 HB1.out).mono ?_
       rintro e w2 ⟨v2, rfl, ho2, hb2⟩
       obtain ⟨A2, c2, rfl, _, _⟩ := ho2.form7 LM (by rw [sc_length, HLM.out])
       have HO2 := Lib.hid ho2
       have HB12 := Lib.hid hb2
       clear ho2 hb2)
    | (go_at_call 14
       refine (sawake_any w).mono ?_
       rintro e w1 ⟨rfl, hb1⟩
       have HB1 := Lib.hid hb1
       clear hb1))
  go_upto_region 7 with (first
    | (go_at_call 33
       refine (KRD.out A5 c5 w5 HR5.out hc5 HA5.out).mono ?_
       rintro e w6 ⟨x, hxm, rfl, hxo, hxr, hb6⟩
       have HXM := Lib.hid hxm
       have HXO := Lib.hid hxo
       have HXR := Lib.hid hxr
       have HB56 := Lib.hid hb6
       clear hxm hxo hxr hb6
       obtain ⟨idX, flX, qAX, qcX, qsX, aAX, acX, raX, bAX, bdX, rbX, cAX, ccX, rcX⟩ := x
       unfold MR.cells
       dsimp only)
    | (go_at_call 32
       refine (sask_at id F w4 hid HFL.out).mono ?_
       rw [HNA.out]
       rintro e w5 ⟨v5, rfl, ho5, hb5⟩
       have hlt5 := Ow.lt ho5
       obtain ⟨A5, c5, rfl, hc5, hr5⟩ := Ow.form7 ho5 LQ (by rw [bc_length, HLQ.out])
       have HR5 := Lib.hid hr5
       have HA5 : Hid (∀ a, A5 = some a → a.block < w5.heap.size) := Lib.hid (rd_lt5 hr5 (by omega))
       have HB45 := Lib.hid hb5
       clear ho5 hr5 hb5)
    | (go_at_call 31
       refine (text_all w3 A3 c3 (LM + 1) N F 0 HNX.out HNL.out HR3.out (by have := HNZ.out; omega)).mono ?_
       rintro e w4 ⟨rfl, hb4⟩
       have HB34 := Lib.hid hb4
       clear hb4))
  have hxm := HXM.out
  simp only [MR.m, Srv.askM, Ms.mk.injEq, List.map_eq_nil_iff] at hxm
  obtain ⟨h1, h2, hq, h3, h4, h5⟩ := hxm
  have h1 := h1.symm
  subst h1 h2 h3 h4 h5
  obtain ⟨⟨nA, nc, qn⟩, hqs, hqn⟩ := List.map_eq_singleton_iff.1 hq
  dsimp only at hqn
  subst hqs hqn
  have hxr := HXR.out
  obtain ⟨b0, o0, hqA, hbq, hqc⟩ := hxr.2.2.1.at_ (k := 0) (by simp)
  dsimp only at hqA
  subst hqA
  obtain ⟨q0, q1, q2⟩ := hqc (by simp)
  simp only [Nat.zero_mul, Nat.add_zero, List.getElem_cons_zero] at q0 q1 q2
  have hqy := (hxr.2.2.1.2.2.2.2 ⟨nA, nc, ⟨N, 33, 1⟩⟩ (List.mem_cons_self ..)).1
  clear hq hqc HXM
  obtain ⟨ho0, hb05, rest, hvb⟩ := OwM.row HXO.out.q
  subst ho0
  obtain ⟨CS, hCS⟩ : ∃ CS, CS = qcs [⟨nA, nc, ⟨N, 33, 1⟩⟩] ++ rest := ⟨_, rfl⟩
  have hvb : Vx w6 b0 76 (qcs [⟨nA, nc, ⟨N, 33, 1⟩⟩] ++ rest) := hvb
  have hb05 : w5.heap.size ≤ b0 := hb05
  rw [← hCS] at hvb
  have HCS := Lib.hid hCS
  clear hCS
  have hb67 := bl_new w6 (.cells #[.int .u16 (id : Int), .int .u16 256, .slice (some ⟨b0, 0, none⟩) 1 qcX, .slice aAX 0 acX, .slice bAX 0 bdX, .slice cAX 0 ccX] 72)
  have hv12 := Vx.new w6 72 [.int .u16 (id : Int), .int .u16 256, .slice (some ⟨b0, 0, none⟩) 1 qcX, .slice aAX 0 acX, .slice bAX 0 bdX, .slice cAX 0 ccX]
  have hn7 := (hqy.below hb67).more hb67.size
  have q07 := (hb67.cell (p := ⟨b0, 0, none⟩) hbq).trans q0
  have q17 := (hb67.cell (p := ⟨b0, 0 + 1, none⟩) hbq).trans q1
  have ho7 := mow_far HXO.out hb67
  have hB5 := HB3.out.trans ((HB34.out.trans (HB45.out.mono HB34.out.size)).mono HB3.out.size)
  have hB6 := hB5.trans (HB56.out.mono hB5.size)
  have hA3 := ((HR3.out.goes HB34.out).goes HB45.out).goes HB56.out
  have hA3' := hA3.goes hb67
  have hA5' := (HR5.out.goes HB56.out).goes hb67
  have hSA : SA w w6.heap.size w5.heap.size A5 A3 LQ (LM + 1) Q N b0 CS ⟨id, 256, some ⟨b0, 0, none⟩, qcX, [⟨nA, nc, ⟨N, 33, 1⟩⟩], aAX, acX, [], bAX, bdX, [], cAX, ccX, []⟩ (w6.alloc (.cells #[.int .u16 (id : Int), .int .u16 256, .slice (some ⟨b0, 0, none⟩) 1 qcX, .slice aAX 0 acX, .slice bAX 0 bdX, .slice cAX 0 ccX] 72)) := ⟨hB6.trans (hb67.mono hB6.size), hB6.size, hb67.size, (HR5.out.below HB56.out).below (hb67.mono HB56.out.size), (((HR3.out.goes HB34.out).goes HB45.out).below HB56.out).below (hb67.mono HB56.out.size), hxr.below hb67, hvb.below hb67 hbq, hbq, hb05⟩
  have HW5 := Lib.hid hB5.size
  have HB7 := Lib.hid (hB6.trans (hb67.mono hB6.size))
  (try dsimp only at q07 q17)
  rw [show (N.length) = LM + 1 from HNL.out] at q07
  obtain ⟨G, hG⟩ : ∃ G, G = w6.heap.size := ⟨_, rfl⟩
  have hG5 : w5.heap.size ≤ G := by rw [hG]; exact HB56.out.size
  have hbG : b0 < G := by rw [hG]; exact hbq
  have hGw : w.heap.size ≤ G := by rw [hG]; exact hB6.size
  rw [← hG] at hv12 hSA
  (try simp only [List.length_cons, List.length_nil, Nat.zero_add])
  rw [← hG]
  generalize w6.alloc (.cells #[.int .u16 (id : Int), .int .u16 256, .slice (some ⟨b0, 0, none⟩) 1 qcX, .slice aAX 0 acX, .slice bAX 0 bdX, .slice cAX 0 ccX] 72) = w7 at hv12 hSA hn7 q07 q17 ho7 hA3' hA5' HB7 ⊢
  have HV7 := Lib.hid hv12
  have HSA7 := Lib.hid hSA
  have HNM7 := Lib.hid hn7
  have HO7 := Lib.hid ho7
  have HA37 := Lib.hid hA3'
  have HR57 := Lib.hid hA5'
  obtain ⟨m0, m1, m2, m3, m4, m5⟩ := hv12.c6
  clear hxr hbq q0 q1 q2 hqy hb67 hv12 hSA hn7 ho7 hA3 hA3' hA5' hB5 hB6 HXO HXR HR3 HR5 hG HB56 HB45 HB34 HA5 HB3
  go_upto_region 9 with (go_at_call 34
                         refine (seq_at (w := w7) nA A3 nc c3 (LM + 1) (LM + 1) N N true (by simp) HNL.out HNL.out (by have := HNM7.out.1; rwa [HNL.out] at this) HA37.out (by omega) (by omega)).mono ?_
                         rintro e w8 ⟨rfl, qq, hqq⟩
                         have hb78 : Below w7.heap.size w7 w8 := by rw [hqq]; exact bl_drewN (Below.refl _ _) qq
                         have q08 := (hb78.cell (p := ⟨b0, 0, none⟩) (Nat.lt_of_lt_of_le hbG (Nat.le_of_lt HV7.out.lt))).trans q07
                         have q18 := (hb78.cell (p := ⟨b0, 0 + 1, none⟩) (Nat.lt_of_lt_of_le hbG (Nat.le_of_lt HV7.out.lt))).trans q17
                         have HV8 := Lib.hid (HV7.out.below hb78 HV7.out.lt)
                         obtain ⟨e0, e1, e2, e3, e4, e5⟩ := HV8.out.c6
                         have HSA8 := Lib.hid (HSA7.out.far hb78)
                         have HO8 := Lib.hid (mow_far HO7.out hb78))
  clear q07 q17 m0 m1 m2 m3 m4 m5 HV7 HSA7 HNM7 HO7 HA37 HR57 HB7
  have q0l : b0 < w8.heap.size := Nat.lt_of_lt_of_le hbG HSA8.out.lt
  rw [← hqq]
  clear hqq hb78
  have KT1 := Lib.hid (fun (W : World) (h : SA w G w5.heap.size A5 A3 LQ (LM + 1) Q N b0 CS ⟨id, 256, some ⟨b0, 0, none⟩, qcX, [⟨nA, nc, ⟨N, 33, 1⟩⟩], aAX, acX, [], bAX, bdX, [], cAX, ccX, []⟩ W) => by
    have h1 := h.Q
    have k := stake_at A5 A5 c5 c5 LQ LQ Q Q W HLQ.out.symm HLQ.out.symm h1 h1 hc5 hc5 (by omega) (by omega)
    have e : Srv.takeN Q Q = ([], 182) := by rw [HQ.out]; exact Srv.asked1 hid HN.out
    rw [e] at k
    exact k)
  go_upto_region 10 with (go_at_call 35
                          refine (KT1.out w8 HSA8.out).mono ?_
                          rintro e w9 ⟨v9, rfl, _, _, _, hb89⟩
                          have HSA9 := Lib.hid (HSA8.out.far hb89)
                          have HV9 := Lib.hid (HV8.out.below hb89 HV8.out.lt)
                          have HO9 := Lib.hid (mow_far HO8.out hb89)
                          clear hb89)
  have hor : bits .or .u16 256 32768 = 33024 := by rfl
  obtain ⟨m0, m1, m2, m3, m4, m5⟩ := HV9.out.c6
  have f1 := HV9.out.free 1
  clear e0 e1 e2 e3 e4 e5 q08 q18
  go_upto_region 11 with fail
  have hv10 := HV9.out.set_ 1 (.int .u16 33024)
  simp only [List.set_cons_zero, List.set_cons_succ] at hv10
  have HSA10 := Lib.hid (HSA9.out.set_ 1 (.int .u16 33024))
  generalize w9.setCell ⟨G, 1, none⟩ (.int .u16 33024) = w10 at hv10 HSA10 ⊢
  have HV10 := Lib.hid hv10
  clear hv10 m0 m1 m2 m3 m4 m5 f1 hor
  have KW := Lib.hid (fun (id2 : Nat) (W : World) (h1 : id2 < 65536) (h : SA w G w5.heap.size A5 A3 LQ (LM + 1) Q N b0 CS ⟨id, 256, some ⟨b0, 0, none⟩, qcX, [⟨nA, nc, ⟨N, 33, 1⟩⟩], aAX, acX, [], bAX, bdX, [], cAX, ccX, []⟩ W) => by
    have k := write_at _ W (h.mr (id := id2) (fl := 33024) h1 (by omega))
    have e : writeM (MR.m ⟨id2, 33024, some ⟨b0, 0, none⟩, qcX, [⟨nA, nc, ⟨N, 33, 1⟩⟩], aAX, acX, [], bAX, bdX, [], cAX, ccX, []⟩) = (formM (Srv.QM id2 33024 N), 0) := (Srv.QM_fine (fl := 33024) h1 (by omega) HN.out).write
    rw [e] at k
    exact (show Calls Tryz.prog 36 #[.agg #[.int .u16 (id2 : Int), .int .u16 33024, .slice (some ⟨b0, 0, none⟩) 1 qcX, .slice aAX 0 acX, .slice bAX 0 bdX, .slice cAX 0 ccX]] W _ from k))
  obtain ⟨R1, hR1⟩ : ∃ R, R = formM (Srv.QM id 33024 N) := ⟨_, rfl⟩
  have KW1 := Lib.hid (KW.out id w10 hid HSA10.out)
  rw [← hR1] at KW1
  obtain ⟨L1, hL1⟩ : ∃ L, L = R1.length := ⟨_, rfl⟩
  have hL1b : L1 ≤ 4096 := by rw [hL1, hR1]; exact (Srv.QM_fine hid (by omega) HN.out).len
  have ht2 : Srv.takeN Q R1 = ([], 0) := by rw [HQ.out, hR1]; exact Srv.asked2 hid HN.out
  have ht3 : Srv.takeN R1 R1 = ([], 181) := by rw [hR1]; exact Srv.asked3 hid HN.out _
  have HT2 := Lib.hid ht2
  have HT3 := Lib.hid ht3
  have HL1 := Lib.hid hL1
  clear hR1 hL1 ht2 ht3
  obtain ⟨m0, m1, m2, m3, m4, m5⟩ := HV10.out.c6
  go_upto_region 14 with (first
    | (go_at_call 35
       have _t := tok1
       refine (stake_at A11 A11 c11 c11 L1 L1 R1 R1 w12 HL1.out.symm HL1.out.symm HR12.out HR12.out hc11 hc11 (by omega) (by omega)).mono ?_
       rw [HT3.out]
       rintro e w13 ⟨v13, rfl, _, _, _, hb1213⟩
       have HSA13 := Lib.hid (HSA12.out.far hb1213)
       have HV13 := Lib.hid (HV12.out.below hb1213 HV12.out.lt)
       clear hb1213 tok1 _t)
    | (go_at_call 35
       refine (stake_at A5 A11 c5 c11 LQ L1 Q R1 w11 HLQ.out.symm HL1.out.symm HSA11.out.Q HR11.out hc5 hc11 (by omega) (by omega)).mono ?_
       rw [HT2.out]
       rintro e w12 ⟨v12, rfl, ho12, _, _, hb1112⟩
       obtain ⟨A12, c12, rfl, _, _, _⟩ := ho12.form
       have tok1 := True.intro
       have HSA12 := Lib.hid (HSA11.out.far hb1112)
       have HV12 := Lib.hid (HV11.out.below hb1112 HV11.out.lt)
       have HR12 := Lib.hid (HR11.out.goes hb1112)
       clear hb1112 ho12)
    | (go_at_call 36
       refine KW1.out.mono ?_
       rintro e w11 ⟨v11, rfl, ho11, hb1011⟩
       obtain ⟨A11, c11, rfl, hc11, hr11⟩ := Ow.form7 ho11 L1 (by rw [bc_length, HL1.out])
       have HR11 := Lib.hid hr11
       have HSA11 := Lib.hid (HSA10.out.far hb1011)
       have HV11 := Lib.hid (HV10.out.below hb1011 HV10.out.lt)
       clear ho11 hr11 hb1011))
  clear m0 m1 m2 m3 m4 m5
  obtain ⟨m0, m1, m2, m3, m4, m5⟩ := HV13.out.c6
  have f0 := HV13.out.free 0
  obtain ⟨id2, hid2⟩ : ∃ x, x = id ^^^ max other 1 := ⟨_, rfl⟩
  have hxor : bits .xor .u16 (id : Int) (max (other : Int) 1) = (id2 : Int) := by
    have e : max (other : Int) 1 = ((max other 1 : Nat) : Int) := by omega
    rw [e, hid2]
    exact u16_xor_nat id (max other 1) hid (by omega)
  have hid2l : id2 < 65536 := by rw [hid2]; exact Srv.xor_lt _ _ hid (by omega)
  have hid2n : id2 ≠ id := by rw [hid2]; exact Srv.xor_ne _ _ (by omega)
  clear hid2
  go_upto_region 15 with fail
  have hv14 := HV13.out.set_ 0 (.int .u16 (id2 : Int))
  simp only [List.set_cons_zero, List.set_cons_succ] at hv14
  have HSA14 := Lib.hid (HSA13.out.set_ 0 (.int .u16 (id2 : Int)))
  generalize w13.setCell ⟨G, 0, none⟩ (.int .u16 (id2 : Int)) = w14 at hv14 HSA14 ⊢
  have HV14 := Lib.hid hv14
  clear hv14 m0 m1 m2 m3 m4 m5 f0 hxor
  obtain ⟨R2, hR2⟩ : ∃ R, R = formM (Srv.QM id2 33024 N) := ⟨_, rfl⟩
  have KW2 := Lib.hid (KW.out id2 w14 hid2l HSA14.out)
  rw [← hR2] at KW2
  obtain ⟨L2, hL2⟩ : ∃ L, L = R2.length := ⟨_, rfl⟩
  have hL2b : L2 ≤ 4096 := by rw [hL2, hR2]; exact (Srv.QM_fine (fl := 33024) hid2l (by omega) HN.out).len
  have ht4 : Srv.takeN Q R2 = ([], 182) := by rw [HQ.out, hR2]; exact Srv.asked4 hid hid2l HN.out hid2n
  have HT4 := Lib.hid ht4
  have HL2 := Lib.hid hL2
  clear hR2 hL2 ht4
  obtain ⟨m0, m1, m2, m3, m4, m5⟩ := HV14.out.c6
  go_upto_region 17 with (first
    | (go_at_call 35
       refine (stake_at A5 A15 c5 c15 LQ L2 Q R2 w15 HLQ.out.symm HL2.out.symm HSA15.out.Q HR15.out hc5 hc15 (by omega) (by omega)).mono ?_
       rw [HT4.out]
       rintro e w16 ⟨v16, rfl, _, _, _, hb1516⟩
       have HSA16 := Lib.hid (HSA15.out.far hb1516)
       have HV16 := Lib.hid (HV15.out.below hb1516 HV15.out.lt)
       clear hb1516)
    | (go_at_call 36
       refine KW2.out.mono ?_
       rintro e w15 ⟨v15, rfl, ho15, hb1415⟩
       obtain ⟨A15, c15, rfl, hc15, hr15⟩ := Ow.form7 ho15 L2 (by rw [bc_length, HL2.out])
       have HR15 := Lib.hid hr15
       have HSA15 := Lib.hid (HSA14.out.far hb1415)
       have HV15 := Lib.hid (HV14.out.below hb1415 HV14.out.lt)
       clear ho15 hr15 hb1415))
  clear m0 m1 m2 m3 m4 m5
  obtain ⟨m0, m1, m2, m3, m4, m5⟩ := HV16.out.c6
  have f0 := HV16.out.free 0
  go_upto_region 18 with fail
  have hv17 := HV16.out.set_ 0 (.int .u16 (id : Int))
  simp only [List.set_cons_zero, List.set_cons_succ] at hv17
  have HSA17 := Lib.hid (HSA16.out.set_ 0 (.int .u16 (id : Int)))
  generalize w16.setCell ⟨G, 0, none⟩ (.int .u16 (id : Int)) = w17 at hv17 HSA17 ⊢
  have HV17 := Lib.hid hv17
  clear hv17 m0 m1 m2 m3 m4 m5 f0
  have hvb := HSA17.out.v
  rw [HCS.out] at hvb
  have hbc0 : w17.cell? ⟨b0, 0, none⟩ = some (.slice nA N.length nc) := hvb.cell 0
  have hbf0 : w17.frozen? ⟨b0, 0, none⟩ = false := hvb.free 0
  have hm2 : w17.cell? ⟨G, 2, none⟩ = some (.slice (some ⟨b0, 0, none⟩) 1 qcX) := HV17.out.c6.2.2.1
  have hi1 : IntKind.i64.wrap ((LM : Int) + 1 - 1) = (LM : Int) := by rw [IntKind.wrap_i64]; omega
  have hi2 : IntKind.i64.wrap (LM : Int) = (LM : Int) := by rw [IntKind.wrap_i64]; omega
  have hi3 : (0 : Int) ≤ (LM : Int) ∧ (LM : Int) ≤ (c3 : Int) := by omega
  have hsl : ∀ W, (Instr.slice 38 (.slice A3 (LM + 1) c3) none (some (.int .i64 (LM : Int))) none).run Tryz.prog W = .ok (.slice A3 LM c3) W := fun W => run_sl_h (P := Tryz.prog) W 38 9 Tryz.underlying38 (fun w => by kernel_rfl) A3 (LM + 1) c3 LM (by omega)
  refine wp_region_held_drew (S := fun W => W.cell? ⟨G, 2, none⟩ = some (.slice (some ⟨b0, 0, none⟩) 1 qcX) ∧ True ∧ True) (by kernel_rfl) ⟨hm2, trivial, trivial⟩ (fun hH => ?_)
  refine reg_take 0 (v := ?_) rfl (by kernel_rfl) (fun _ _ _ h => h) (by rfl) hH ?_ ?_
  rotate_left
  · intro w hSw; (try dsimp only at hSw); obtain ⟨s0, s1, s2⟩ := hSw; go_simp; (try with_reducible rfl)
  (try simp only [Act.put, List.setIfInBounds_toArray, List.set_cons_zero, List.set_cons_succ])
  refine reg_take 1 (v := ?_) rfl (by kernel_rfl) (fun _ _ _ h => h) (by rfl) hH ?_ ?_
  rotate_left
  · intro w hSw; (try dsimp only at hSw); obtain ⟨s0, s1, s2⟩ := hSw; go_simp; (try with_reducible rfl)
  (try simp only [Act.put, List.setIfInBounds_toArray, List.set_cons_zero, List.set_cons_succ])
  refine reg_take 2 (v := ?_) rfl (by kernel_rfl) (fun _ _ _ h => h) (by rfl) hH ?_ ?_
  rotate_left
  · intro w hSw; (try dsimp only at hSw); obtain ⟨s0, s1, s2⟩ := hSw; go_simp; (try with_reducible rfl)
  (try simp only [Act.put, List.setIfInBounds_toArray, List.set_cons_zero, List.set_cons_succ])
  refine reg_take 3 (v := ?_) rfl (by kernel_rfl) (fun _ _ _ h => h) (by rfl) hH ?_ ?_
  rotate_left
  · intro w hSw; (try dsimp only at hSw); obtain ⟨s0, s1, s2⟩ := hSw; go_simp; (try with_reducible rfl)
  (try simp only [Act.put, List.setIfInBounds_toArray, List.set_cons_zero, List.set_cons_succ])
  refine reg_take 4 (v := ?_) rfl (by kernel_rfl) (fun _ _ _ h => h) (by rfl) hH ?_ ?_
  rotate_left
  · intro w hSw; (try dsimp only at hSw); obtain ⟨s0, s1, s2⟩ := hSw; go_simp; (try with_reducible rfl)
  (try simp only [Act.put, List.setIfInBounds_toArray, List.set_cons_zero, List.set_cons_succ])
  refine reg_take 5 (v := ?_) rfl (by kernel_rfl) (fun _ _ _ h => h) (by rfl) hH ?_ ?_
  rotate_left
  · intro w hSw; (try dsimp only at hSw); obtain ⟨s0, s1, s2⟩ := hSw; go_simp; (try with_reducible rfl)
  (try simp only [Act.put, List.setIfInBounds_toArray, List.set_cons_zero, List.set_cons_succ])
  refine reg_take 6 (v := .slice A3 LM c3) rfl (by kernel_rfl) (fun _ _ _ h => h) (by rfl) hH ?_ ?_
  · intro w hSw; (try dsimp only at hSw); obtain ⟨s0, s1, s2⟩ := hSw; go_simp; (try simp only [hi2]); (try rw [if_pos hi3]); (try simp)
  (try simp only [Act.put, List.setIfInBounds_toArray, List.set_cons_zero, List.set_cons_succ])
  refine reg_take 7 (v := ?_) rfl (by kernel_rfl) (fun _ _ _ h => h) (by rfl) hH ?_ ?_
  rotate_left
  · intro w hSw; (try dsimp only at hSw); obtain ⟨s0, s1, s2⟩ := hSw; go_simp; (try with_reducible rfl)
  (try simp only [Act.put, List.setIfInBounds_toArray, List.set_cons_zero, List.set_cons_succ])
  refine reg_take 8 (v := ?_) rfl (by kernel_rfl) (fun _ _ _ h => h) (by rfl) hH ?_ ?_
  rotate_left
  · intro w hSw; (try dsimp only at hSw); obtain ⟨s0, s1, s2⟩ := hSw; go_simp; (try with_reducible rfl)
  (try simp only [Act.put, List.setIfInBounds_toArray, List.set_cons_zero, List.set_cons_succ])
  refine wpAnyH_ready (rs := [9]) (by kernel_rfl) (by simp) ?_
  refine reg_cons 9 rfl (fun K' hK => ?_) AllReadyH.nil
  rw [if_pos (by rfl)]
  have hbc0' : w17.drew.cell? ⟨b0, 0, none⟩ = some (.slice nA N.length nc) := hbc0
  have hbf0' : w17.drew.frozen? ⟨b0, 0, none⟩ = false := hbf0
  go_simp
  have hGb : G ≠ b0 := by have := HSA17.out.bG; omega
  have hv18 : Vx (w17.setCell ⟨b0, 0, none⟩ (.slice A3 LM c3)).drew G 72 [.int .u16 (id : Int), .int .u16 33024, .slice (some ⟨b0, 0, none⟩) 1 qcX, .slice aAX 0 acX, .slice bAX 0 bdX, .slice cAX 0 ccX] := (HV17.out.setO (g' := b0) hGb 0 (.slice A3 LM c3)).drew
  have hvb8 : Vx (w17.setCell ⟨b0, 0, none⟩ (.slice A3 LM c3)).drew b0 76 ([.slice A3 LM c3, .int .u16 33, .int .u16 1] ++ rest) := (hvb.set_ 0 (.slice A3 LM c3)).drew
  have hbw : Below w5.heap.size w17 (w17.setCell ⟨b0, 0, none⟩ (.slice A3 LM c3)).drew := ((Below.refl w5.heap.size w17).setCell HSA17.out.b5 _).drew
  refine hK.out _ _ ⟨hv18.c6.2.2.1, trivial, trivial⟩ (fun hH => ?_)
  (try simp only [Act.put, List.setIfInBounds_toArray, List.set_cons_zero, List.set_cons_succ])
  clear hK
  refine wpAnyH_done (by kernel_rfl) ?_ _
  have hq18 := HSA17.out.q.below hbw
  have ha18 := HSA17.out.a.below hbw
  have hcap := HSA17.out.m.2.2.1.2.2.1
  have hlt18 : w5.heap.size ≤ (w17.setCell ⟨b0, 0, none⟩ (.slice A3 LM c3)).drew.heap.size := by
    have h1 := HSA17.out.b5
    have h2 := hvb8.lt
    omega
  have hB18 : Below w.heap.size w (w17.setCell ⟨b0, 0, none⟩ (.slice A3 LM c3)).drew := HSA17.out.b.trans (hbw.mono HW5.out)
  generalize (w17.setCell ⟨b0, 0, none⟩ (.slice A3 LM c3)).drew = w18 at hv18 hvb8 hq18 ha18 hlt18 hB18 hH hbw ⊢
  have hm18 : MRd w18 w18.heap.size ⟨id, 33024, some ⟨b0, 0, none⟩, qcX, [⟨A3, c3, ⟨M, 33, 1⟩⟩], aAX, acX, [], bAX, bdX, [], cAX, ccX, []⟩ := by
    have hn : NRd w18 w18.heap.size A3 c3 M := ⟨(rd_pre ha18 HNS.out (by rw [sc_length])).more hlt18, by rw [← HLM.out]; omega, right_small HMR.out⟩
    refine ⟨hid, show 33024 < 65536 by decide, ⟨⟨rfl, fun _ => ⟨b0, 0, rfl, hvb8.lt, fun j u hu => ?_⟩⟩, rfl, hcap, by simp, fun x hx => ?_⟩, rs_nilA _ _ _ _, rs_nilA _ _ _ _, rs_nilA _ _ _ _⟩
    · rw [Nat.zero_add, hvb8.cell]
      have e : qcs [⟨A3, c3, ⟨M, 33, 1⟩⟩] = [.slice A3 LM c3, .int .u16 33, .int .u16 1] := by rw [HLM.out]; rfl
      rw [e] at hu
      rw [List.getElem?_append_left]
      · exact hu
      · rcases Nat.lt_or_ge j 3 with h1 | h1
        · exact h1
        · rw [List.getElem?_eq_none h1] at hu; cases hu
    · rw [List.mem_singleton] at hx
      subst hx
      exact ⟨hn, show 33 < 65536 by decide, show 1 < 65536 by decide⟩
  obtain ⟨R3, hR3⟩ : ∃ R, R = formM (Srv.QM id 33024 M) := ⟨_, rfl⟩
  have kw3 := write_at _ w18 hm18
  have ew3 : writeM (MR.m ⟨id, 33024, some ⟨b0, 0, none⟩, qcX, [⟨A3, c3, ⟨M, 33, 1⟩⟩], aAX, acX, [], bAX, bdX, [], cAX, ccX, []⟩) = (R3, 0) := by rw [hR3]; exact (Srv.QM_fine (fl := 33024) hid (by omega) HMR.out).write
  rw [ew3] at kw3
  have KW3 : Hid (Calls Tryz.prog 36 #[.agg #[.int .u16 (id : Int), .int .u16 33024, .slice (some ⟨b0, 0, none⟩) 1 qcX, .slice aAX 0 acX, .slice bAX 0 bdX, .slice cAX 0 ccX]] w18 fun e w' => ∃ v, e = .returned (.tuple #[v, .int .i64 0]) ∧ Ow w' w18.heap.size 5 v (bc R3) ∧ Below w18.heap.size w18 w') := Lib.hid kw3
  obtain ⟨L3, hL3⟩ : ∃ L, L = R3.length := ⟨_, rfl⟩
  have hL3b : L3 ≤ 4096 := by rw [hL3, hR3]; exact (Srv.QM_fine (fl := 33024) hid (by omega) HMR.out).len
  have ht5 : Srv.takeN Q R3 = ([], 182) := by rw [HQ.out, hR3]; exact Srv.asked5 hid HN.out HMR.out HNE.out
  have HT5 := Lib.hid ht5
  have HL3 := Lib.hid hL3
  have HQ18 := Lib.hid (hq18.more hlt18)
  have HB18 := Lib.hid hB18
  obtain ⟨m0, m1, m2, m3, m4, m5⟩ := hv18.c6
  clear hR3 kw3 ew3 hL3 ht5 hm18 hvb8 hq18 ha18 hcap hH hbw hvb hbc0 hbf0 hbc0' hbf0' hm2 hi1 hi2 hi3 hsl hB18
  go_wp2_with (first
    | (go_at_call 35
       refine (stake_at A5 A19 c5 c19 LQ L3 Q R3 w19 HLQ.out.symm HL3.out.symm HQ19.out HR19.out hc5 hc19 (by omega) (by omega)).mono ?_
       rw [HT5.out]
       rintro e w20 ⟨v20, rfl, _, _, _, hb1920⟩
       have HB20 := Lib.hid (HB19.out.trans (hb1920.mono HB19.out.size))
       clear hb1920)
    | (go_at_call 36
       refine KW3.out.mono ?_
       rintro e w19 ⟨v19, rfl, ho19, hb1819⟩
       obtain ⟨A19, c19, rfl, hc19, hr19⟩ := Ow.form7 ho19 L3 (by rw [bc_length, HL3.out])
       have HR19 := Lib.hid hr19
       have HQ19 := Lib.hid (HQ18.out.goes hb1819)
       have HB19 := Lib.hid (HB18.out.trans (hb1819.mono HB18.out.size))
       clear ho19 hr19 hb1819))
  go_ret
  exact ⟨rfl, HB20.out⟩
end Go.Proofs.YtlipmlbijddopaaGreatDoor
set_option linter.unusedVariables false
namespace Go.Proofs.YtlipmlbijddopaaGreatDoor
open Go.ChangeShapes Go.WideShapes Go.ChangeAt Go.RowKit
set_option maxRecDepth 100000 in
theorem srvAsked_lifted (os : Os) (started : os.Started) (H : Type) (enc : TypeId × Value → H) :
    ReturnsInHanded {} Tryz.checked os 9 .any (fun w args => (Rows.srvAskedSpec.pre enc Tryz.checked.prog Tryz.f9 [] false w args ∧ laidMetH Tryz.checked.prog Rows.srvAskedRow.laid w) ∧ sizedMet enc Tryz.checked.prog Tryz.f9 (OpenSpec.ofChange Rows.srvAskedSpec) false w args) (Rows.srvAskedSpec.post enc Tryz.checked.prog Tryz.f9 false true false false) := by
  refine law_lifted_laid (C := Tryz.checked) (P := Tryz.prog) rfl Tryz.own Tryz.laidOut Tryz.underlying4 started Tryz.func9 rfl (by kernel_rfl) rfl [25, 38, 25] (by rw [Tryz.params9])
    (fun ds h => by
      match ds, h with
      | [d0, d1, d2], _ => rfl) (by kernel_rfl) Rows.srvAskedRow.laid (by kernel_rfl)
    (ChangeSpec.witness_shaped (enc := enc) (C := Tryz.checked) (os := os) (X := fun w _ => laidMetH Tryz.prog Rows.srvAskedRow.laid w) false (World.laidAll Tryz.prog os Rows.srvAskedRow.laid) #[.int .u16 0, .slice none 0 0, .int .u16 0] 8 (World.laidAll_os _ _ _) (World.shaped_of_ZipB (by kernel_rfl) (by kernel_rfl)) (by kernel_rfl) (by kernel_rfl) (by kernel_rfl)
      (by rw [MakeChecks.laidMetH_plain _ _ _ (by kernel_rfl)]; exact laidMet_laidAll _ (by kernel_rfl) (by kernel_rfl))) ?_
  intro W base args ds p hval hA hL hS
  obtain ⟨v0, v1, v2, d0, d1, d2, p0, p1, p2, rfl, rfl, rfl, h0, h1, h2⟩ := trodAll_three hA.trod
  have hre := hA.reach
  rw [Tryz.params9] at hval
  obtain ⟨x0, rfl, rfl, rfl, wx0⟩ := open_int Tryz.underlying25 (hval 0 _ v0 rfl rfl) h0
  have hx0 : 0 ≤ x0 ∧ x0 < 65536 := by simp [Lit.wf, IntKind.min, IntKind.max, IntKind.signed, IntKind.bits] at wx0; omega
  obtain ⟨n0, rfl⟩ : ∃ n0 : Nat, x0 = (n0 : Int) := ⟨x0.toNat, by omega⟩
  have w1 : ∀ n ∈ d1.weights Tryz.prog 38, n ≤ reachBytes := fun n hn => by simpa using List.all_eq_true.1 hre n (DataW.weights_mem_each (j := 1) rfl rfl n hn)
  obtain ⟨A1, c1, l1, rfl, hc1, hb1, r1, hx1⟩ := open_ss Tryz.underlying38 Tryz.underlying9 Tryz.cellsStr Tryz.bytesStr (hval 1 _ v1 rfl rfl) h1 w1
  obtain ⟨x2, rfl, rfl, rfl, wx2⟩ := open_int Tryz.underlying25 (hval 2 _ v2 rfl rfl) h2
  have hx2 : 0 ≤ x2 ∧ x2 < 65536 := by simp [Lit.wf, IntKind.min, IntKind.max, IntKind.signed, IntKind.bits] at wx2; omega
  obtain ⟨n2, rfl⟩ : ∃ n2 : Nat, x2 = (n2 : Int) := ⟨x2.toNat, by omega⟩
  exact srvAsked_any n0 A1 c1 l1 n2 W trivial (by omega) r1 hc1 hb1 hx1 (by omega)

theorem srvAsked_holds : Rows.SrvAskedSaid :=
  OpenClaim.holds_of_wide 9 Tryz.f9 rfl rfl rfl rfl rfl rfl rfl ⟨rfl, rfl, rfl, rfl, rfl⟩ rfl rfl rfl rfl rfl (by kernel_rfl) Tryz.func9 (by kernel_rfl)
    (of_decide_eq_true (by kernel_rfl)) (by unfold Func.isWrapper; first | (rw [if_pos (by decide +kernel)]; kernel_rfl) | (rw [if_neg (by decide +kernel)]; exact ⟨rfl, rfl⟩))
    (fun os started H enc _ => srvAsked_lifted os started H enc)

theorem srvAsked_card : Rows.SrvAskedCardSaid :=
  Claim7.holds_tied_plain_at .later [] [.data, .data, .data] true (true, "62a6199dd28d2a080bed368305dcb87b9b8d93dca5598cd0c61d1c0b6c630e34") false
    srvAsked_holds (fun _ h => by cases h) (by kernel_rfl) (fun _ h => by cases h) srvAsked_row_tie rfl ⟨rfl, rfl⟩ (by kernel_rfl) rfl
    (fun f fn hf hfn => by
      obtain rfl : f = 9 := Option.some.inj ((show Tryz.prog.funcNamed "gauger/gaugerlaw18.SrvAsked" = some 9 by kernel_rfl).symm.trans hf) |>.symm
      obtain rfl : fn = Tryz.f9 := (Option.some.inj (Tryz.func9.symm.trans hfn)).symm
      exact ⟨by kernel_rfl, fun j t ht => by
        rw [Tryz.params9] at ht
        have ht2 : t ∈ ([25, 38, 25] : List TypeId) := by simpa using Array.mem_of_getElem? ht
        have hall : ([25, 38, 25] : List TypeId).all (fun t => Tryz.prog.wantsStandIn t == false) = true := by kernel_rfl
        exact beq_iff_eq.1 (List.all_eq_true.1 hall t ht2)⟩)
    (by kernel_rfl)
end Go.Proofs.YtlipmlbijddopaaGreatDoor
