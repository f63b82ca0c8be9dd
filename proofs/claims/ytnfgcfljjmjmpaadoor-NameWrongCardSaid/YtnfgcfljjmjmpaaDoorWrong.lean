/-
  NameWrong, under the guard.
-/
import Derived.Test.YtnfgcfljjmjmpaaDoorWrongP
import Derived.Test.YtnfgcfljjmjmpaaDoorTells
import Derived.Test.YtnfgcfljjmjmpaaDoorInts
import Derived.Test.YtnfgcfljjmjmpaaDoorAwake
import Derived.Test.YtnfgcfljjmjmpaaDoorAt
import Derived.Deep.RegionLaw
set_option linter.unusedVariables false
set_option linter.unusedSimpArgs false
namespace Go.Proofs.YtnfgcfljjmjmpaaDoor
open Go.RowKit
theorem ow_blk {w : World} {base : Nat} {e : TypeId} {A : Option Addr} {n c : Nat} {xs : List Value} (h : Ow w base e (.slice A n c) xs) (hn : 0 < n) : ∃ g, A = some ⟨g, 0, none⟩ ∧ base ≤ g := by
  have hl := h.len
  rcases h.2 with ⟨h1, h2⟩ | ⟨g, cap, cur, h1, hbg, hg, hnc, hcm, hcs, htake⟩
  · cases h1; omega
  · cases h1
    exact ⟨g, rfl, hbg⟩
theorem rd_lit2 (w : World) (x : Int) : Rd (w.alloc (.cells #[.int .i64 x, .int .i64 0] 3)) (w.alloc (.cells #[.int .i64 x, .int .i64 0] 3)).heap.size (some ⟨w.heap.size, 0, none⟩) 2 (ic [x, 0]) := by
  have h := two_cells w (.int .i64 x) (.int .i64 0) 3
  refine ⟨rfl, fun _ => ⟨w.heap.size, 0, rfl, by simp, fun j u hu => ?_⟩⟩
  match j, hu with
  | 0, hu => cases hu; exact h.1
  | 1, hu => cases hu; exact h.2
theorem ow_rt {w : World} {base : Nat} {e : TypeId} {A : Option Addr} {n c : Nat} {xs : List Value} (h : Ow w base e (.slice A n c) xs) : Rd w w.heap.size A n xs := by
  have hl := h.len
  subst hl
  exact Rd.of_own h
theorem sc_set (n : List (List UInt8)) (k : Nat) (x : List UInt8) : (sc n).set k (.string ⟨x.toArray⟩) = sc (n.set k x) := by simp [sc, strV, List.map_set]
def dotB : ByteArray := ⟨#[46]⟩
def yyB : ByteArray := ⟨(Lib.repeatL [121, 46] 127).toArray⟩
theorem yy_index (r : List UInt8) : Lib.index (121 :: 46 :: r) [46] = 1 := by
  simp [Lib.index, List.isPrefixOf]
theorem yy_splitK : ∀ n, Lib.splitK [46] 0 n (Lib.repeatL [121, 46] n) = List.replicate n [121] ++ [[]]
  | 0 => rfl
  | n + 1 => by
    have e : Lib.repeatL [121, 46] (n + 1) = 121 :: 46 :: Lib.repeatL [121, 46] n := rfl
    rw [e, Lib.splitK, yy_index, if_neg (by decide)]
    have e2 : (121 :: 46 :: Lib.repeatL [121, 46] n).drop ((1 : Int).toNat + ([46] : List UInt8).length) = Lib.repeatL [121, 46] n := rfl
    rw [e2, yy_splitK n, List.replicate_succ]; rfl
theorem yy_countL : ∀ n, Lib.count (Lib.repeatL [121, 46] n) [46] = n
  | 0 => by decide
  | n + 1 => by
    have e : Lib.repeatL [121, 46] (n + 1) = 121 :: 46 :: Lib.repeatL [121, 46] n := rfl
    have h := Lib.count_hit (s := 121 :: 46 :: Lib.repeatL [121, 46] n) (sub := [46]) (i := 1) (by simp) (yy_index _)
    have e2 : (121 :: 46 :: Lib.repeatL [121, 46] n).drop (1 + ([46] : List UInt8).length) = Lib.repeatL [121, 46] n := rfl
    rw [e, h, e2, yy_countL n]; omega
theorem yy_count : Lib.countB yyB dotB = 127 := yy_countL 127
theorem yy_split : (Lib.splitB dotB 0 127 yyB).map Value.string = sc (List.replicate 127 [121] ++ [[]]) := by
  have h := Lib.splitB_data dotB 0 127 yyB
  have h2 := yy_splitK 127
  have e : (Lib.splitB dotB 0 127 yyB).map Value.string = sc ((Lib.splitB dotB 0 127 yyB).map (·.data.toList)) := by
    unfold sc
    rw [List.map_map]
    refine List.map_congr_left fun b _ => ?_
    simp [strV]
  rw [e, h]
  exact congrArg sc h2
theorem yy_size : yyB.size = 254 := by
  show (Lib.repeatL [121, 46] 127).toArray.size = 254
  rw [List.size_toArray, Lib.repeatL_length]; rfl
theorem cat_one (Y : List UInt8) (V : UInt8) : ((⟨Y.toArray⟩ : ByteArray) ++ ⟨#[V]⟩) = ⟨(Y ++ [V]).toArray⟩ := by
  apply ByteArray.ext
  simp [ByteArray.data_append]
theorem rep_a (R : Nat) (XA : List UInt8) (hXA : List.replicate R 97 = XA) (w : World) (h : R ≤ 1000) : Calls Tryd.prog 12 #[.string ⟨#[97]⟩, .int .i64 (R : Int)] w fun e w' => e = .returned (.string ⟨XA.toArray⟩) ∧ Below w.heap.size w w' := by
  have h1 := Tryd.strings_Repeat ⟨#[97]⟩ R w (by omega) (by simp [ByteArray.size]; omega)
  rw [show (Lib.repeatL (⟨#[97]⟩ : ByteArray).data.toList R) = XA from (rep_one 97 R).trans hXA] at h1
  exact h1
theorem rep_x (w : World) (XX : List UInt8) (hX : Lib.repeatL [120] 59 = XX) : Calls Tryd.prog 12 #[.string ⟨#[120]⟩, .int .i64 59] w fun e w' => e = .returned (.string ⟨XX.toArray⟩) ∧ Below w.heap.size w w' := by
  have h1 := Tryd.strings_Repeat ⟨#[120]⟩ 59 w (by omega) (by simp [ByteArray.size])
  rw [show (Lib.repeatL (⟨#[120]⟩ : ByteArray).data.toList 59) = XX from hX] at h1
  exact h1
theorem rep_y (w : World) : Calls Tryd.prog 12 #[.string ⟨#[121, 46]⟩, .int .i64 127] w fun e w' => e = .returned (.string yyB) ∧ Below w.heap.size w w' := by
  have h1 := Tryd.strings_Repeat ⟨#[121, 46]⟩ 127 w (by omega) (by simp [ByteArray.size])
  exact h1
theorem rd_litN (w : World) (xs : List Value) (n : Nat) (hn : xs.length = n) (e : TypeId) : Rd (w.alloc (.cells xs.toArray e)) (w.alloc (.cells xs.toArray e)).heap.size (some ⟨w.heap.size, 0, none⟩) n xs := by
  refine ⟨hn, fun _ => ⟨w.heap.size, 0, rfl, by simp, fun j u hu => ?_⟩⟩
  have h := World.alloc_heap_new w (.cells xs.toArray e)
  simp only [World.cell?, h, Nat.zero_add]
  simpa using hu
def NvOk (w : World) : Prop := ∃ m : Int, w.cell? ⟨5, 0, none⟩ = some (.int .i64 m)
theorem NvOk.below {w w' : World} (h : NvOk w) (hb : Below w.heap.size w w') : NvOk w' := by
  obtain ⟨m, h2⟩ := h
  exact ⟨m, (hb.cell (World.block_lt_of_cell? _ _ h2)).trans h2⟩
theorem split_y (w : World) (h : NvOk w) : Calls Tryd.prog 13 #[.string yyB, .string dotB] w fun e w' => e = .returned (.slice (some ⟨w.heap.size, 0, none⟩) 128 128) ∧ Rd w' w'.heap.size (some ⟨w.heap.size, 0, none⟩) 128 (sc (List.replicate 127 [121] ++ [[]])) ∧ Below w.heap.size w w' := by
  obtain ⟨m, hm⟩ := h
  refine (Tryd.strings_Split yyB dotB m w (by rw [yy_size]; omega) hm (by decide)).mono ?_
  rintro e w' ⟨rfl, rfl⟩
  rw [yy_count, yy_split]
  exact ⟨rfl, rd_litN w _ 128 (by simp) _, (Below.refl _ _).alloc (Nat.le_refl _) _⟩
set_option maxRecDepth 100000 in
set_option maxHeartbeats 8000000 in
theorem nameWrong_any (A0 : Option Addr) (c0 : Nat) (l : List (List UInt8)) (way wh : Nat) (A3 : Option Addr) (c3 : Nat) (b3 : List UInt8) (x : Int) (w : World) (henv : NvOk w)
    (r0 : Rd w w.heap.size A0 l.length (sc l)) (hc0 : l.length ≤ c0) (hb0 : l.length * 16 ≤ 140737488351232) (hx0 : ∀ x ∈ l, x.length ≤ 140737488351232) (hway : way < 256) (hwh : wh < 256)
    (r3 : Rd w w.heap.size A3 b3.length (bc b3)) (hc3 : b3.length ≤ c3) (hb3 : b3.length ≤ 140737488351232) (hx : -9223372036854775808 ≤ x ∧ x ≤ 9223372036854775807) :
    Calls Tryd.prog 4 #[.slice A0 l.length c0, .int .u8 (way : Int), .int .u8 (wh : Int), .slice A3 b3.length c3, .int .i64 x] w fun e w' => e = .returned (.bool true) ∧ Below w.heap.size w w' := by
  obtain ⟨i0, hi, hz0, hz1, hz2⟩ := info_parts Tryd.infoStr
  obtain ⟨K, hK⟩ : ∃ K, K = min b3.length 300 := ⟨_, rfl⟩
  have hmin : min (b3.length : Int) 300 = (K : Int) := by omega
  have hK1 : K ≤ b3.length := by omega
  have hK2 : K ≤ 300 := by omega
  have hKc : K ≤ c3 := by omega
  have ksl : ∀ W, (Instr.slice 28 (.slice A3 b3.length c3) none (some (.int .i64 (K : Int))) none).run Tryd.prog W = .ok (.slice A3 K c3) W := fun W => run_sl_h W _ 5 Tryd.underlying28 (fun w => by kernel_rfl) A3 b3.length c3 K (by omega)
  have rp := r3.preB hK1
  have hbl : (b3.take K).length = K := by rw [List.length_take]; omega
  generalize b3.take K = b at rp hbl
  have hz1' : readZ b (min x (-1)) = ([], 0, 2) := readZ_out b _ (by omega)
  have hz2' : readZ b (max x ((K : Int) + 1)) = ([], 0, 2) := readZ_out b _ (by rw [hbl]; omega)
  have HZ1 := Lib.hid hz1'
  have HZ2 := Lib.hid hz2'
  have HR3 := Lib.hid rp
  have HBl := Lib.hid hbl
  have HR0 := Lib.hid r0
  have HX0 := Lib.hid hx0
  have HEnv := Lib.hid henv
  obtain ⟨N0, hN0⟩ : ∃ N0, N0 = madeN l ++ [[122]] := ⟨_, rfl⟩
  obtain ⟨L, hL⟩ : ∃ L, L = N0.length := ⟨_, rfl⟩
  have hml := made_len l
  have hms := (made_ok l).2
  have hLl : L = (madeN l).length + 1 := by rw [hL, hN0]; simp
  have hL85 : L ≤ 85 := by omega
  have hL1 : 1 ≤ L := by omega
  have hs3 : 3 ≤ sizeN N0 := by
    have h2 := sizeN_append (madeN l) [[122]]
    rw [← hN0] at h2
    have h3 : 1 ≤ sizeN (madeN l) := (by cases madeN l <;> simp only [sizeN] <;> omega)
    simp only [sizeN, List.length_cons, List.length_nil] at h2
    omega
  have hs0 : sizeN N0 ≤ 171 := by
    have h1 := labS_length (madeN l)
    have h2 := sizeN_append (madeN l) [[122]]
    rw [← hN0] at h2
    simp only [sizeN, List.length_cons, List.length_nil] at h2
    omega
  obtain ⟨k, hk⟩ : ∃ k, k = wh % L := ⟨_, rfl⟩
  have hkL : k < L := by rw [hk]; exact Nat.mod_lt _ hL1
  have km1 : (wh : Int) % (L : Int) = (k : Int) := by rw [hk]; exact (Int.natCast_emod wh L).symm
  have km2 : (wh : Int).tmod (L : Int) = (k : Int) := by rw [Int.tmod_eq_emod_of_nonneg (by omega)]; exact km1
  have HN0 := Lib.hid hN0
  have HL := Lib.hid hL.symm
  have HLl := Lib.hid hLl
  clear hz1' hz2' rp hbl r0 r3 hx0 henv hK hk hN0 hL hLl hml hms
  have hq : way % 5 = 0 ∨ way % 5 = 1 ∨ way % 5 = 2 ∨ way % 5 = 3 ∨ way % 5 = 4 := by omega
  rcases hq with hq | hq | hq | hq | hq
  · have kq1 : (way : Int) % 5 = 0 := by omega
    have kq2 : (way : Int).tmod 5 = 0 := by rw [Int.tmod_eq_emod_of_nonneg (by omega)]; exact kq1
    clear hq
    go_enter Tryd.func4, Tryd.ntmps4
    go_upto_region 11 with (first | (at_builtin; refine wpList_app _ rfl _ _ _ _ rfl w.heap.size 9 i0 (.string ⟨#[]⟩) 16 Tryd.underlying22 hi hz0 hz1 hz2 rfl (by omega) _ _ (HO2.out.alloc _) rfl 1 [.string ⟨#[122]⟩] (one_src Tryd.underlying22 _ rfl) (by rw [sc_length]; have := HLl.out; omega) (by simp; omega) ?_; intro v3 w3 hown3 hgr3 hsz3; have e3 : sc (madeN l) ++ [.string ⟨#[122]⟩] = sc N0 := (by rw [HN0.out]; simp [sc, strV]); rw [e3] at hown3; obtain ⟨AN, cN, rfl, hlN, _⟩ := hown3.form7 L (by rw [sc_length]; exact HL.out); have HN := Lib.hid hown3; have HB3 := Lib.hid ((HB2.out.alloc hs2 _).trans (hgr3.below HO2.out.lt (by simp; omega))); clear hown3 hgr3 e3) | (go_at_call 6; refine (made_at w1 A0 c0 l.length l rfl ((HR0.out.below HB1.out).more HB1.out.size) hc0 hb0 HX0.out).mono ?_; rintro e w2 ⟨v2, rfl, ho2, hb2⟩; have HO2 := Lib.hid (ho2.mono HB1.out.size); have HB2 := Lib.hid (HB1.out.trans (hb2.mono HB1.out.size)); have hs2 := HB2.out.size; clear ho2 hb2) | (go_at_call 5; refine (awake_any w).mono ?_; rintro e w1 ⟨rfl, hb1⟩; have HB1 := Lib.hid hb1; clear hb1))
    obtain ⟨g, hAg, hBg⟩ := ow_blk HN.out (by omega)
    subst hAg
    have hc1 := HN.out.cell_at k (by omega)
    have hc2 := HN.out.frozen_at k
    rw [List.getElem?_eq_getElem (by rw [sc_length, HL.out]; omega)] at hc1
    go_upto_region 18 with fail
    obtain ⟨wN, hwN⟩ : ∃ wN, wN = w3.setCell ⟨g, k, none⟩ (.string ⟨#[]⟩) := ⟨_, rfl⟩
    have hO : Ow wN w.heap.size 9 (.slice (some ⟨g, 0, none⟩) L cN) (sc (N0.set k [])) := by rw [hwN, ← sc_set]; exact HN.out.set_at k _
    have hB : Below w.heap.size w wN := by rw [hwN]; exact HB3.out.setCell hBg _
    rw [← hwN]
    have HNN := Lib.hid (ow_rt hO)
    have HBN := Lib.hid hB
    have hwr : rightN (N0.set k []) = false := wrong_set N0 k (by rw [HL.out]; omega) _ okL_nil
    have hnl : (N0.set k []).length = L := by rw [List.length_set]; exact HL.out
    have hsn : sizeN (N0.set k []) ≤ 1000 := by have := wsize_set N0 k []; simp at this; omega
    clear hwN hO hB
    have hF : formR (N0.set k []) = ([], 160) := by unfold formR; rw [if_neg (by rw [hwr]; simp)]
    have hT : textR (N0.set k []) = ([], 160) := by unfold textR; rw [if_neg (by rw [hwr]; simp)]
    have hAp : appR b [x, 0] (N0.set k []) = ([], 160) := by unfold appR; rw [if_neg (by rw [hwr]; simp)]
    have HF := Lib.hid hF
    have HT := Lib.hid hT
    have HAp := Lib.hid hAp
    have HWr := Lib.hid hwr
    have HNL := Lib.hid hnl
    clear hF hT hAp hwr hnl
    go_wp2_with (first
      | (go_at_call 11; refine (right_at wE (some ⟨g, 0, none⟩) cN L (N0.set k []) false HWr.out HNL.out ((HNN.out.below HE4.out).more HE4.out.size) (by omega)).mono ?_; rintro e wF ⟨rfl, hbF⟩; have HBF := Lib.hid (HBE.out.trans (hbF.mono HBE.out.size)); clear hbF)
      | (go_at_call 16; refine (readZ_any A3 c3 K b (max x ((K : Int) + 1)) wD HBl.out ((HR3.out.below HBD.out).more HBD.out.size) (by omega) (by omega)).mono ?_; rw [HZ2.out]; rintro e wE ⟨vE, rfl, _, hbE⟩; have HBE := Lib.hid (HBD.out.trans (hbE.mono HBD.out.size)); have HE4 := Lib.hid (HD4.out.trans (hbE.mono HD4.out.size)); clear hbE)
      | (go_at_call 16; refine (readZ_any A3 c3 K b (min x (-1)) wC HBl.out ((HR3.out.below HBC.out).more HBC.out.size) (by omega) (by omega)).mono ?_; rw [HZ1.out]; rintro e wD ⟨vD, rfl, _, hbD⟩; have HBD := Lib.hid (HBC.out.trans (hbD.mono HBC.out.size)); have HD4 := Lib.hid (HC4.out.trans (hbD.mono HC4.out.size)); clear hbD)
      | (go_at_call 7; refine (text_all wB (some ⟨g, 0, none⟩) cN L (N0.set k []) [] 160 HT.out HNL.out ((HNN.out.below HB4.out).more HB4.out.size) (by omega)).mono ?_; rintro e wC ⟨rfl, hbC⟩; have HBC := Lib.hid (HBB.out.trans (hbC.mono HBB.out.size)); have HC4 := Lib.hid (HB4.out.trans (hbC.mono HB4.out.size)); clear hbC)
      | (go_at_call 15; refine (append_all (wA.alloc (.cells #[.int .i64 x, .int .i64 0] 3)) A3 (some ⟨wA.heap.size, 0, none⟩) (some ⟨g, 0, none⟩) c3 2 cN K 2 L b [x, 0] (N0.set k []) HBl.out rfl HNL.out (((HR3.out.below HBA.out).more HBA.out.size).alloc (Nat.le_refl _) _ |>.more (by simp)) (by omega) (by omega) (rd_lit2 wA x) (by omega) (((HNN.out.below HA4.out).more HA4.out.size).alloc (Nat.le_refl _) _ |>.more (by simp)) (by omega) (by omega)).mono ?_; rw [HAp.out]; rintro e wB ⟨vB, rfl, _, hbB⟩; have HBB := Lib.hid ((HBA.out.alloc HBA.out.size _).trans (hbB.mono (by have := HBA.out.size; simp; omega))); have HB4 := Lib.hid ((HA4.out.alloc HA4.out.size _).trans (hbB.mono (by have := HA4.out.size; simp; omega))); clear hbB)
      | (go_at_call 14; refine (form_all wN (some ⟨g, 0, none⟩) cN L (N0.set k []) [] 160 HF.out HNL.out HNN.out (by omega)).mono ?_; rintro e wA ⟨vA, rfl, _, hbA⟩; have HBA := Lib.hid (HBN.out.trans (hbA.mono HBN.out.size)); have HA4 := Lib.hid hbA; clear hbA))
    go_ret
    exact ⟨rfl, HBF.out⟩
  · have kq1 : (way : Int) % 5 = 1 := by omega
    have kq2 : (way : Int).tmod 5 = 1 := by rw [Int.tmod_eq_emod_of_nonneg (by omega)]; exact kq1
    clear hq
    go_enter Tryd.func4, Tryd.ntmps4
    obtain ⟨R, hR⟩ : ∃ R : Nat, R = 64 + wh := ⟨_, rfl⟩
    have hRi : (64 : Int) + (wh : Int) = (R : Int) := by omega
    have hR1 : 64 ≤ R := by omega
    have hR2 : R ≤ 319 := by omega
    clear hR
    obtain ⟨XA, hXA⟩ : ∃ XA, List.replicate R (97 : UInt8) = XA := ⟨_, rfl⟩
    have hXl : XA.length = R := by rw [← hXA, List.length_replicate]
    have HXA := Lib.hid hXA
    clear hXA
    go_upto_region 13 with (first | (at_builtin; refine wpList_app _ rfl _ _ _ _ rfl w.heap.size 9 i0 (.string ⟨#[]⟩) 16 Tryd.underlying22 hi hz0 hz1 hz2 rfl (by omega) _ _ (HO2.out.alloc _) rfl 1 [.string ⟨#[122]⟩] (one_src Tryd.underlying22 _ rfl) (by rw [sc_length]; have := HLl.out; omega) (by simp; omega) ?_; intro v3 w3 hown3 hgr3 hsz3; have e3 : sc (madeN l) ++ [.string ⟨#[122]⟩] = sc N0 := (by rw [HN0.out]; simp [sc, strV]); rw [e3] at hown3; obtain ⟨AN, cN, rfl, hlN, _⟩ := hown3.form7 L (by rw [sc_length]; exact HL.out); have HN := Lib.hid hown3; have HB3 := Lib.hid ((HB2.out.alloc hs2 _).trans (hgr3.below HO2.out.lt (by simp; omega))); clear hown3 hgr3 e3) | (go_at_call 6; refine (made_at w1 A0 c0 l.length l rfl ((HR0.out.below HB1.out).more HB1.out.size) hc0 hb0 HX0.out).mono ?_; rintro e w2 ⟨v2, rfl, ho2, hb2⟩; have HO2 := Lib.hid (ho2.mono HB1.out.size); have HB2 := Lib.hid (HB1.out.trans (hb2.mono HB1.out.size)); have hs2 := HB2.out.size; clear ho2 hb2) | (go_at_call 5; refine (awake_any w).mono ?_; rintro e w1 ⟨rfl, hb1⟩; have HB1 := Lib.hid hb1; clear hb1))
    obtain ⟨g, hAg, hBg⟩ := ow_blk HN.out (by omega)
    subst hAg
    go_upto_region 18 with (go_at_call 12; refine (rep_a R XA HXA.out w3 (by omega)).mono ?_; rintro e w4 ⟨rfl, hb4⟩; have HN4 := Lib.hid (HN.out.far hb4); have HB4' := Lib.hid (HB3.out.trans (hb4.mono HB3.out.size)); have hc1 := HN4.out.cell_at k (by omega); have hc2 := HN4.out.frozen_at k; rw [List.getElem?_eq_getElem (by rw [sc_length, HL.out]; omega)] at hc1; clear hb4)
    obtain ⟨wN, hwN⟩ : ∃ wN, wN = w4.setCell ⟨g, k, none⟩ (.string ⟨XA.toArray⟩) := ⟨_, rfl⟩
    have hO : Ow wN w.heap.size 9 (.slice (some ⟨g, 0, none⟩) L cN) (sc (N0.set k XA)) := by rw [hwN, ← sc_set]; exact HN4.out.set_at k _
    have hB : Below w.heap.size w wN := by rw [hwN]; exact HB4'.out.setCell hBg _
    rw [← hwN]
    have HNN := Lib.hid (ow_rt hO)
    have HBN := Lib.hid hB
    have hwr : rightN (N0.set k XA) = false := wrong_set N0 k (by rw [HL.out]; omega) _ (okL_long _ (by omega))
    have hnl : (N0.set k XA).length = L := by rw [List.length_set]; exact HL.out
    have hsn : sizeN (N0.set k XA) ≤ 1000 := by have := wsize_set N0 k XA; omega
    clear hwN hO hB
    have hF : formR (N0.set k XA) = ([], 160) := by unfold formR; rw [if_neg (by rw [hwr]; simp)]
    have hT : textR (N0.set k XA) = ([], 160) := by unfold textR; rw [if_neg (by rw [hwr]; simp)]
    have hAp : appR b [x, 0] (N0.set k XA) = ([], 160) := by unfold appR; rw [if_neg (by rw [hwr]; simp)]
    have HF := Lib.hid hF
    have HT := Lib.hid hT
    have HAp := Lib.hid hAp
    have HWr := Lib.hid hwr
    have HNL := Lib.hid hnl
    clear hF hT hAp hwr hnl
    go_wp2_with (first
      | (go_at_call 11; refine (right_at wE (some ⟨g, 0, none⟩) cN L (N0.set k XA) false HWr.out HNL.out ((HNN.out.below HE4.out).more HE4.out.size) (by omega)).mono ?_; rintro e wF ⟨rfl, hbF⟩; have HBF := Lib.hid (HBE.out.trans (hbF.mono HBE.out.size)); clear hbF)
      | (go_at_call 16; refine (readZ_any A3 c3 K b (max x ((K : Int) + 1)) wD HBl.out ((HR3.out.below HBD.out).more HBD.out.size) (by omega) (by omega)).mono ?_; rw [HZ2.out]; rintro e wE ⟨vE, rfl, _, hbE⟩; have HBE := Lib.hid (HBD.out.trans (hbE.mono HBD.out.size)); have HE4 := Lib.hid (HD4.out.trans (hbE.mono HD4.out.size)); clear hbE)
      | (go_at_call 16; refine (readZ_any A3 c3 K b (min x (-1)) wC HBl.out ((HR3.out.below HBC.out).more HBC.out.size) (by omega) (by omega)).mono ?_; rw [HZ1.out]; rintro e wD ⟨vD, rfl, _, hbD⟩; have HBD := Lib.hid (HBC.out.trans (hbD.mono HBC.out.size)); have HD4 := Lib.hid (HC4.out.trans (hbD.mono HC4.out.size)); clear hbD)
      | (go_at_call 7; refine (text_all wB (some ⟨g, 0, none⟩) cN L (N0.set k XA) [] 160 HT.out HNL.out ((HNN.out.below HB4.out).more HB4.out.size) (by omega)).mono ?_; rintro e wC ⟨rfl, hbC⟩; have HBC := Lib.hid (HBB.out.trans (hbC.mono HBB.out.size)); have HC4 := Lib.hid (HB4.out.trans (hbC.mono HB4.out.size)); clear hbC)
      | (go_at_call 15; refine (append_all (wA.alloc (.cells #[.int .i64 x, .int .i64 0] 3)) A3 (some ⟨wA.heap.size, 0, none⟩) (some ⟨g, 0, none⟩) c3 2 cN K 2 L b [x, 0] (N0.set k XA) HBl.out rfl HNL.out (((HR3.out.below HBA.out).more HBA.out.size).alloc (Nat.le_refl _) _ |>.more (by simp)) (by omega) (by omega) (rd_lit2 wA x) (by omega) (((HNN.out.below HA4.out).more HA4.out.size).alloc (Nat.le_refl _) _ |>.more (by simp)) (by omega) (by omega)).mono ?_; rw [HAp.out]; rintro e wB ⟨vB, rfl, _, hbB⟩; have HBB := Lib.hid ((HBA.out.alloc HBA.out.size _).trans (hbB.mono (by have := HBA.out.size; simp; omega))); have HB4 := Lib.hid ((HA4.out.alloc HA4.out.size _).trans (hbB.mono (by have := HA4.out.size; simp; omega))); clear hbB)
      | (go_at_call 14; refine (form_all wN (some ⟨g, 0, none⟩) cN L (N0.set k XA) [] 160 HF.out HNL.out HNN.out (by omega)).mono ?_; rintro e wA ⟨vA, rfl, _, hbA⟩; have HBA := Lib.hid (HBN.out.trans (hbA.mono HBN.out.size)); have HA4 := Lib.hid hbA; clear hbA))
    go_ret
    exact ⟨rfl, HBF.out⟩
  · have kq1 : (way : Int) % 5 = 2 := by omega
    have kq2 : (way : Int).tmod 5 = 2 := by rw [Int.tmod_eq_emod_of_nonneg (by omega)]; exact kq1
    clear hq
    go_enter Tryd.func4, Tryd.ntmps4
    obtain ⟨r, hr⟩ : ∃ r, r = wh % 26 := ⟨_, rfl⟩
    have hr26 : r < 26 := by omega
    have kr1 : (wh : Int) % 26 = (r : Int) := by omega
    have kr2 : (wh : Int).tmod 26 = (r : Int) := by rw [Int.tmod_eq_emod_of_nonneg (by omega)]; exact kr1
    have kr3 : IntKind.u8.wrap (65 + (r : Int)) = 65 + (r : Int) := by rw [IntKind.wrap_u8]; omega
    have kr4 : IntKind.u8.wrap (r : Int) = (r : Int) := by rw [IntKind.wrap_u8]; omega
    obtain ⟨V, hV⟩ : ∃ V, V = UInt8.ofNat (65 + r) := ⟨_, rfl⟩
    have hVn : (V.toNat : Int) = 65 + (r : Int) := by rw [hV, UInt8.toNat_ofNat']; omega
    have hVs : smallB V ≠ V := by rw [hV]; exact small_up ⟨r, hr26⟩
    clear hr hV
    have HVs := Lib.hid hVs
    clear hVs
    go_upto_region 15 with (first | (at_builtin; refine wpList_app _ rfl _ _ _ _ rfl w.heap.size 9 i0 (.string ⟨#[]⟩) 16 Tryd.underlying22 hi hz0 hz1 hz2 rfl (by omega) _ _ (HO2.out.alloc _) rfl 1 [.string ⟨#[122]⟩] (one_src Tryd.underlying22 _ rfl) (by rw [sc_length]; have := HLl.out; omega) (by simp; omega) ?_; intro v3 w3 hown3 hgr3 hsz3; have e3 : sc (madeN l) ++ [.string ⟨#[122]⟩] = sc N0 := (by rw [HN0.out]; simp [sc, strV]); rw [e3] at hown3; obtain ⟨AN, cN, rfl, hlN, _⟩ := hown3.form7 L (by rw [sc_length]; exact HL.out); have HN := Lib.hid hown3; have HB3 := Lib.hid ((HB2.out.alloc hs2 _).trans (hgr3.below HO2.out.lt (by simp; omega))); clear hown3 hgr3 e3) | (go_at_call 6; refine (made_at w1 A0 c0 l.length l rfl ((HR0.out.below HB1.out).more HB1.out.size) hc0 hb0 HX0.out).mono ?_; rintro e w2 ⟨v2, rfl, ho2, hb2⟩; have HO2 := Lib.hid (ho2.mono HB1.out.size); have HB2 := Lib.hid (HB1.out.trans (hb2.mono HB1.out.size)); have hs2 := HB2.out.size; clear ho2 hb2) | (go_at_call 5; refine (awake_any w).mono ?_; rintro e w1 ⟨rfl, hb1⟩; have HB1 := Lib.hid hb1; clear hb1))
    obtain ⟨g, hAg, hBg⟩ := ow_blk HN.out (by omega)
    subst hAg
    obtain ⟨Y, hY⟩ : ∃ Y, N0[k]? = some Y := ⟨_, List.getElem?_eq_getElem (by rw [HL.out]; omega)⟩
    have HY := Lib.hid hY
    have hc1 := HN.out.cell_at k (by omega)
    have hc2 := HN.out.frozen_at k
    rw [show (sc N0)[k]? = some (.string ⟨Y.toArray⟩) by simp [sc, strV, hY]] at hc1
    clear hY
    have hg3 : g < w3.heap.size := HN.out.addr_lt _ rfl
    have kcv : ∀ W, W.heap[w3.heap.size]? = some (.cells #[.int .u8 (65 + (r : Int))] 5) → (convert 28 9 (.slice (some ⟨w3.heap.size, 0, none⟩) 1 1)).run Tryd.prog W = .ok (.string ⟨#[V]⟩) W := fun W hW => by
      have hrd : Rd W W.heap.size (some ⟨w3.heap.size, 0, none⟩) ([V] : List UInt8).length (bc [V]) := by
        have hlt : w3.heap.size < W.heap.size := by
          rcases Nat.lt_or_ge w3.heap.size W.heap.size with h | h
          · exact h
          · rw [Array.getElem?_eq_none h] at hW; cases hW
        refine ⟨rfl, fun _ => ⟨w3.heap.size, 0, rfl, hlt, fun j u hu => ?_⟩⟩
        match j, hu with
        | 0, hu => cases hu; simp [World.cell?, hW, hVn]
      exact conv_bs (P := Tryd.prog) W 28 5 9 (some ⟨w3.heap.size, 0, none⟩) 1 W.heap.size [V] Tryd.underlying28 Tryd.underlying5 Tryd.underlying9 hrd
    have kc1 : (convert 28 9 (.slice (some ⟨w3.heap.size, 0, none⟩) 1 1)).run Tryd.prog (w3.alloc (.cells #[.int .u8 (65 + (r : Int))] 5)).drew = .ok (.string ⟨#[V]⟩) (w3.alloc (.cells #[.int .u8 (65 + (r : Int))] 5)).drew := kcv _ (heap_alloc_new w3 _)
    have kcd : w3.drew.cell? ⟨g, k, none⟩ = some (.string ⟨Y.toArray⟩) := hc1
    have kcf : w3.drew.frozen? ⟨g, k, none⟩ = false := hc2
    have kae : (w3.alloc (.cells #[.int .u8 (65 + (r : Int))] 5)).drew.cell? ⟨g, k, none⟩ = some (.string ⟨Y.toArray⟩) := by
      have := (HN.out.alloc (.cells #[.int .u8 (65 + (r : Int))] 5)).cell_at k (by omega)
      rw [show (sc N0)[k]? = some (.string ⟨Y.toArray⟩) by simp [sc, strV, HY.out]] at this
      exact this
    have kaf : (w3.alloc (.cells #[.int .u8 (65 + (r : Int))] 5)).drew.frozen? ⟨g, k, none⟩ = false := (HN.out.alloc (.cells #[.int .u8 (65 + (r : Int))] 5)).frozen_at k
    have hYl : Y.length ≤ 171 := by have := mem_size (List.mem_of_getElem? HY.out); omega
    go_region
    go_upto_region 18 with fail
    obtain ⟨wN, hwN⟩ : ∃ wN, wN = ((w3.setCell ⟨g, k, none⟩ (.string (⟨Y.toArray⟩ ++ ⟨#[V]⟩))).alloc (.cells #[.int .u8 (65 + (r : Int))] 5)).drew := ⟨_, rfl⟩
    have hcat : ((⟨Y.toArray⟩ : ByteArray) ++ ⟨#[V]⟩) = ⟨(Y ++ [V]).toArray⟩ := cat_one Y V
    have hO : Ow wN w.heap.size 9 (.slice (some ⟨g, 0, none⟩) L cN) (sc (N0.set k (Y ++ [V]))) := by rw [hwN, ← sc_set, hcat]; exact ((HN.out.set_at k _).alloc _).drew
    have hB : Below w.heap.size w wN := by rw [hwN]; exact ((HB3.out.setCell hBg _).alloc (by have := HB3.out.size; simpa using this) _).drew
    rw [← hwN]
    have HNN := Lib.hid (ow_rt hO)
    have HBN := Lib.hid hB
    have hwr : rightN (N0.set k (Y ++ [V])) = false := wrong_set N0 k (by rw [HL.out]; omega) _ (okL_big Y V HVs.out)
    have hnl : (N0.set k (Y ++ [V])).length = L := by rw [List.length_set]; exact HL.out
    have hsn : sizeN (N0.set k (Y ++ [V])) ≤ 1000 := by have := wsize_set N0 k (Y ++ [V]); rw [List.length_append, List.length_singleton] at this; omega
    clear hwN hO hB hcat kc1 kcd kcf kae kaf kcv
    have hF : formR (N0.set k (Y ++ [V])) = ([], 160) := by unfold formR; rw [if_neg (by rw [hwr]; simp)]
    have hT : textR (N0.set k (Y ++ [V])) = ([], 160) := by unfold textR; rw [if_neg (by rw [hwr]; simp)]
    have hAp : appR b [x, 0] (N0.set k (Y ++ [V])) = ([], 160) := by unfold appR; rw [if_neg (by rw [hwr]; simp)]
    have HF := Lib.hid hF
    have HT := Lib.hid hT
    have HAp := Lib.hid hAp
    have HWr := Lib.hid hwr
    have HNL := Lib.hid hnl
    clear hF hT hAp hwr hnl
    go_wp2_with (first
      | (go_at_call 11; refine (right_at wE (some ⟨g, 0, none⟩) cN L (N0.set k (Y ++ [V])) false HWr.out HNL.out ((HNN.out.below HE4.out).more HE4.out.size) (by omega)).mono ?_; rintro e wF ⟨rfl, hbF⟩; have HBF := Lib.hid (HBE.out.trans (hbF.mono HBE.out.size)); clear hbF)
      | (go_at_call 16; refine (readZ_any A3 c3 K b (max x ((K : Int) + 1)) wD HBl.out ((HR3.out.below HBD.out).more HBD.out.size) (by omega) (by omega)).mono ?_; rw [HZ2.out]; rintro e wE ⟨vE, rfl, _, hbE⟩; have HBE := Lib.hid (HBD.out.trans (hbE.mono HBD.out.size)); have HE4 := Lib.hid (HD4.out.trans (hbE.mono HD4.out.size)); clear hbE)
      | (go_at_call 16; refine (readZ_any A3 c3 K b (min x (-1)) wC HBl.out ((HR3.out.below HBC.out).more HBC.out.size) (by omega) (by omega)).mono ?_; rw [HZ1.out]; rintro e wD ⟨vD, rfl, _, hbD⟩; have HBD := Lib.hid (HBC.out.trans (hbD.mono HBC.out.size)); have HD4 := Lib.hid (HC4.out.trans (hbD.mono HC4.out.size)); clear hbD)
      | (go_at_call 7; refine (text_all wB (some ⟨g, 0, none⟩) cN L (N0.set k (Y ++ [V])) [] 160 HT.out HNL.out ((HNN.out.below HB4.out).more HB4.out.size) (by omega)).mono ?_; rintro e wC ⟨rfl, hbC⟩; have HBC := Lib.hid (HBB.out.trans (hbC.mono HBB.out.size)); have HC4 := Lib.hid (HB4.out.trans (hbC.mono HB4.out.size)); clear hbC)
      | (go_at_call 15; refine (append_all (wA.alloc (.cells #[.int .i64 x, .int .i64 0] 3)) A3 (some ⟨wA.heap.size, 0, none⟩) (some ⟨g, 0, none⟩) c3 2 cN K 2 L b [x, 0] (N0.set k (Y ++ [V])) HBl.out rfl HNL.out (((HR3.out.below HBA.out).more HBA.out.size).alloc (Nat.le_refl _) _ |>.more (by simp)) (by omega) (by omega) (rd_lit2 wA x) (by omega) (((HNN.out.below HA4.out).more HA4.out.size).alloc (Nat.le_refl _) _ |>.more (by simp)) (by omega) (by omega)).mono ?_; rw [HAp.out]; rintro e wB ⟨vB, rfl, _, hbB⟩; have HBB := Lib.hid ((HBA.out.alloc HBA.out.size _).trans (hbB.mono (by have := HBA.out.size; simp; omega))); have HB4 := Lib.hid ((HA4.out.alloc HA4.out.size _).trans (hbB.mono (by have := HA4.out.size; simp; omega))); clear hbB)
      | (go_at_call 14; refine (form_all wN (some ⟨g, 0, none⟩) cN L (N0.set k (Y ++ [V])) [] 160 HF.out HNL.out HNN.out (by omega)).mono ?_; rintro e wA ⟨vA, rfl, _, hbA⟩; have HBA := Lib.hid (HBN.out.trans (hbA.mono HBN.out.size)); have HA4 := Lib.hid hbA; clear hbA))
    go_ret
    exact ⟨rfl, HBF.out⟩
  · have kq1 : (way : Int) % 5 = 3 := by omega
    have kq2 : (way : Int).tmod 5 = 3 := by rw [Int.tmod_eq_emod_of_nonneg (by omega)]; exact kq1
    clear hq
    go_enter Tryd.func4, Tryd.ntmps4
    have hwr : rightN (N0 ++ List.replicate 127 [121]) = false := wrong_size _ (by have h1 := size_app N0 (List.replicate 127 [121]); rw [wsize_rep, List.length_singleton] at h1; have h2 : 1 ≤ sizeN N0 := (by cases N0 <;> simp only [sizeN] <;> omega); have h3 := HLl.out; have h4 : 3 ≤ sizeN N0 := hs3; omega)
    have hsn : sizeN (N0 ++ List.replicate 127 [121]) ≤ 1000 := by have h1 := size_app N0 (List.replicate 127 [121]); rw [wsize_rep, List.length_singleton] at h1; omega
    have hnl : (N0 ++ List.replicate 127 [121]).length = L + 127 := by rw [List.length_append, HL.out, List.length_replicate]
    have HW1 := Lib.hid hwr
    have HW2 := Lib.hid hnl
    clear hwr hnl
    go_upto_region 18 with (first | (at_builtin; refine wpList_app _ rfl _ _ _ _ rfl w.heap.size 9 i0 (.string ⟨#[]⟩) 16 Tryd.underlying22 hi hz0 hz1 hz2 rfl (by omega) _ _ HN5.out rfl 127 (sc (List.replicate 127 [121])) (HR6.out.src Tryd.underlying22 (sc_one _)) (by rw [sc_length, HL.out]; omega) hs5 ?_; intro v6 w6 hown6 hgr6 hsz6; rw [← sc_append] at hown6; obtain ⟨A6, c6, rfl, hl6, _⟩ := hown6.form7 (L + 127) (by rw [sc_length, List.length_append, HL.out, List.length_replicate]); have HNN := Lib.hid (ow_rt hown6); have HBN := Lib.hid (HB5.out.trans (hgr6.below HN5.out.lt hs5)); clear hown6 hgr6) | (go_at_call 13; refine (split_y w4 (HEnv.out.below HB4'.out)).mono ?_; rintro e w5 ⟨rfl, hr5, hb5⟩; have HN5 := Lib.hid (HN4.out.far hb5); have HB5 := Lib.hid (HB4'.out.trans (hb5.mono HB4'.out.size)); have hr6 := hr5.pre (k := 127) (by omega); have e6 : (sc (List.replicate 127 [121] ++ [[]])).take 127 = sc (List.replicate 127 [(121 : UInt8)]) := (by kernel_rfl); rw [e6] at hr6; have HR6 := Lib.hid hr6; have hs5 := HB5.out.size; have ksl2 : ∀ W, (Instr.slice 22 (.slice (some ⟨w4.heap.size, 0, none⟩) 128 128) none (some (.int .i64 127)) none).run Tryd.prog W = .ok (.slice (some ⟨w4.heap.size, 0, none⟩) 127 128) W := (fun W => run_sl_h W _ 9 Tryd.underlying22 (fun w => by kernel_rfl) (some ⟨w4.heap.size, 0, none⟩) 128 128 127 (by omega)); clear hr5 hb5 hr6 e6) | (go_at_call 12; refine (rep_y w3).mono ?_; rintro e w4 ⟨rfl, hb4⟩; have HN4 := Lib.hid (HN.out.far hb4); have HB4' := Lib.hid (HB3.out.trans (hb4.mono HB3.out.size)); clear hb4) | (at_builtin; refine wpList_app _ rfl _ _ _ _ rfl w.heap.size 9 i0 (.string ⟨#[]⟩) 16 Tryd.underlying22 hi hz0 hz1 hz2 rfl (by omega) _ _ (HO2.out.alloc _) rfl 1 [.string ⟨#[122]⟩] (one_src Tryd.underlying22 _ rfl) (by rw [sc_length]; have := HLl.out; omega) (by simp; omega) ?_; intro v3 w3 hown3 hgr3 hsz3; have e3 : sc (madeN l) ++ [.string ⟨#[122]⟩] = sc N0 := (by rw [HN0.out]; simp [sc, strV]); rw [e3] at hown3; obtain ⟨AN, cN, rfl, hlN, _⟩ := hown3.form7 L (by rw [sc_length]; exact HL.out); have HN := Lib.hid hown3; have HB3 := Lib.hid ((HB2.out.alloc hs2 _).trans (hgr3.below HO2.out.lt (by simp; omega))); clear hown3 hgr3 e3) | (go_at_call 6; refine (made_at w1 A0 c0 l.length l rfl ((HR0.out.below HB1.out).more HB1.out.size) hc0 hb0 HX0.out).mono ?_; rintro e w2 ⟨v2, rfl, ho2, hb2⟩; have HO2 := Lib.hid (ho2.mono HB1.out.size); have HB2 := Lib.hid (HB1.out.trans (hb2.mono HB1.out.size)); have hs2 := HB2.out.size; clear ho2 hb2) | (go_at_call 5; refine (awake_any w).mono ?_; rintro e w1 ⟨rfl, hb1⟩; have HB1 := Lib.hid hb1; clear hb1))
    have hwr := HW1.out
    have hnl := HW2.out
    obtain ⟨wN, hwN⟩ : ∃ x, x = w6 := ⟨w6, rfl⟩
    subst hwN
    have hF : formR (N0 ++ List.replicate 127 [121]) = ([], 160) := by unfold formR; rw [if_neg (by rw [hwr]; simp)]
    have hT : textR (N0 ++ List.replicate 127 [121]) = ([], 160) := by unfold textR; rw [if_neg (by rw [hwr]; simp)]
    have hAp : appR b [x, 0] (N0 ++ List.replicate 127 [121]) = ([], 160) := by unfold appR; rw [if_neg (by rw [hwr]; simp)]
    have HF := Lib.hid hF
    have HT := Lib.hid hT
    have HAp := Lib.hid hAp
    have HWr := Lib.hid hwr
    have HNL := Lib.hid hnl
    clear hF hT hAp hwr hnl
    go_wp2_with (first
      | (go_at_call 11; refine (right_at wE A6 c6 (L + 127) (N0 ++ List.replicate 127 [121]) false HWr.out HNL.out ((HNN.out.below HE4.out).more HE4.out.size) (by omega)).mono ?_; rintro e wF ⟨rfl, hbF⟩; have HBF := Lib.hid (HBE.out.trans (hbF.mono HBE.out.size)); clear hbF)
      | (go_at_call 16; refine (readZ_any A3 c3 K b (max x ((K : Int) + 1)) wD HBl.out ((HR3.out.below HBD.out).more HBD.out.size) (by omega) (by omega)).mono ?_; rw [HZ2.out]; rintro e wE ⟨vE, rfl, _, hbE⟩; have HBE := Lib.hid (HBD.out.trans (hbE.mono HBD.out.size)); have HE4 := Lib.hid (HD4.out.trans (hbE.mono HD4.out.size)); clear hbE)
      | (go_at_call 16; refine (readZ_any A3 c3 K b (min x (-1)) wC HBl.out ((HR3.out.below HBC.out).more HBC.out.size) (by omega) (by omega)).mono ?_; rw [HZ1.out]; rintro e wD ⟨vD, rfl, _, hbD⟩; have HBD := Lib.hid (HBC.out.trans (hbD.mono HBC.out.size)); have HD4 := Lib.hid (HC4.out.trans (hbD.mono HC4.out.size)); clear hbD)
      | (go_at_call 7; refine (text_all wB A6 c6 (L + 127) (N0 ++ List.replicate 127 [121]) [] 160 HT.out HNL.out ((HNN.out.below HB4.out).more HB4.out.size) (by omega)).mono ?_; rintro e wC ⟨rfl, hbC⟩; have HBC := Lib.hid (HBB.out.trans (hbC.mono HBB.out.size)); have HC4 := Lib.hid (HB4.out.trans (hbC.mono HB4.out.size)); clear hbC)
      | (go_at_call 15; refine (append_all (wA.alloc (.cells #[.int .i64 x, .int .i64 0] 3)) A3 (some ⟨wA.heap.size, 0, none⟩) A6 c3 2 c6 K 2 (L + 127) b [x, 0] (N0 ++ List.replicate 127 [121]) HBl.out rfl HNL.out (((HR3.out.below HBA.out).more HBA.out.size).alloc (Nat.le_refl _) _ |>.more (by simp)) (by omega) (by omega) (rd_lit2 wA x) (by omega) (((HNN.out.below HA4.out).more HA4.out.size).alloc (Nat.le_refl _) _ |>.more (by simp)) (by omega) (by omega)).mono ?_; rw [HAp.out]; rintro e wB ⟨vB, rfl, _, hbB⟩; have HBB := Lib.hid ((HBA.out.alloc HBA.out.size _).trans (hbB.mono (by have := HBA.out.size; simp; omega))); have HB4 := Lib.hid ((HA4.out.alloc HA4.out.size _).trans (hbB.mono (by have := HA4.out.size; simp; omega))); clear hbB)
      | (go_at_call 14; refine (form_all wN A6 c6 (L + 127) (N0 ++ List.replicate 127 [121]) [] 160 HF.out HNL.out HNN.out (by omega)).mono ?_; rintro e wA ⟨vA, rfl, _, hbA⟩; have HBA := Lib.hid (HBN.out.trans (hbA.mono HBN.out.size)); have HA4 := Lib.hid hbA; clear hbA))
    go_ret
    exact ⟨rfl, HBF.out⟩
  · have kq1 : (way : Int) % 5 = 4 := by omega
    have kq2 : (way : Int).tmod 5 = 4 := by rw [Int.tmod_eq_emod_of_nonneg (by omega)]; exact kq1
    clear hq
    go_enter Tryd.func4, Tryd.ntmps4
    obtain ⟨XX, hXX⟩ : ∃ XX, XX = List.replicate 59 (120 : UInt8) := ⟨_, rfl⟩
    have hXl : XX.length = 59 := by rw [hXX, List.length_replicate]
    have HXX := Lib.hid (show Lib.repeatL [120] 59 = XX by rw [hXX]; exact rep_one 120 59)
    have hwr0 : rightN (N0 ++ List.replicate 5 XX) = false := wrong_size _ (by have h1 := size_app N0 (List.replicate 5 XX); rw [wsize_rep, hXl] at h1; have h2 : 1 ≤ sizeN N0 := (by cases N0 <;> simp only [sizeN] <;> omega); omega)
    have hsn : sizeN (N0 ++ List.replicate 5 XX) ≤ 1000 := by have h1 := size_app N0 (List.replicate 5 XX); rw [wsize_rep, hXl] at h1; omega
    have hnl0 : (N0 ++ List.replicate 5 XX).length = L + 5 := by rw [List.length_append, HL.out, List.length_replicate]
    have HW1 := Lib.hid hwr0
    have HW2 := Lib.hid hnl0
    clear hwr0 hnl0 hXX hXl
    go_wp2_with (first | (at_builtin; refine wpList_app _ rfl _ _ _ _ rfl w.heap.size 9 i0 (.string ⟨#[]⟩) 16 Tryd.underlying22 hi hz0 hz1 hz2 rfl (by omega) _ _ (HO2.out.alloc _) rfl 1 [.string ⟨#[122]⟩] (one_src Tryd.underlying22 _ rfl) (by rw [sc_length]; have := HLl.out; omega) (by simp; omega) ?_; intro v3 w3 hown3 hgr3 hsz3; have e3 : sc (madeN l) ++ [.string ⟨#[122]⟩] = sc N0 := (by rw [HN0.out]; simp [sc, strV]); rw [e3] at hown3; obtain ⟨AN, cN, rfl, hlN, _⟩ := hown3.form7 L (by rw [sc_length]; exact HL.out); have HN := Lib.hid hown3; have HB3 := Lib.hid ((HB2.out.alloc hs2 _).trans (hgr3.below HO2.out.lt (by simp; omega))); clear hown3 hgr3 e3) | (go_at_call 6; refine (made_at w1 A0 c0 l.length l rfl ((HR0.out.below HB1.out).more HB1.out.size) hc0 hb0 HX0.out).mono ?_; rintro e w2 ⟨v2, rfl, ho2, hb2⟩; have HO2 := Lib.hid (ho2.mono HB1.out.size); have HB2 := Lib.hid (HB1.out.trans (hb2.mono HB1.out.size)); have hs2 := HB2.out.size; clear ho2 hb2) | (go_at_call 5; refine (awake_any w).mono ?_; rintro e w1 ⟨rfl, hb1⟩; have HB1 := Lib.hid hb1; clear hb1))
    go_loopw [11, 38] (fun v11 v38 wr => ∃ (j : Nat) (A6 : Option Addr) (c6 : Nat), j ≤ 5 ∧ v38 = .int .i64 j ∧ v11 = .slice A6 (L + j) c6 ∧ L + j ≤ c6 ∧ Hid (Ow wr w.heap.size 9 (.slice A6 (L + j) c6) (sc (N0 ++ List.replicate j XX))) ∧ Hid (Below w.heap.size w wr)) (fun _ v38 _ => 5 - (intOf v38).toNat)
    case atStart => exact ⟨0, AN, cN, by omega, rfl, rfl, hlN, Lib.hid (by simpa using HN.out), HB3⟩
    case round =>
      obtain ⟨j, AJ, cJ, hj, rfl, rfl, hlJ, HNr, HBr⟩ := hrel
      by_cases hlj : j < 5
      · go_wp2_with (first | (at_builtin; refine wpList_app _ rfl _ _ _ _ rfl w.heap.size 9 i0 (.string ⟨#[]⟩) 16 Tryd.underlying22 hi hz0 hz1 hz2 rfl (by omega) _ _ (HN4.out.alloc _) rfl 1 [.string ⟨XX.toArray⟩] (one_src Tryd.underlying22 _ rfl) (by rw [sc_length, List.length_append, HL.out, List.length_replicate]; omega) (by simp; omega) ?_; intro v6 w6 hown6 hgr6 hsz6; have e6 : sc (N0 ++ List.replicate j XX) ++ [.string ⟨XX.toArray⟩] = sc (N0 ++ List.replicate (j + 1) XX) := (by rw [List.replicate_succ', ← List.append_assoc]; simp [sc, strV]); rw [e6] at hown6; obtain ⟨A6, c6, rfl, hl6, _⟩ := hown6.form7 (L + (j + 1)) (by rw [sc_length, List.length_append, HL.out, List.length_replicate]); have HN6 := Lib.hid hown6; have HB6 := Lib.hid ((HB4'.out.alloc hs4 _).trans (hgr6.below HN4.out.lt (by simp; omega))); clear hown6 hgr6 e6) | (go_at_call 12; refine (rep_x wr XX HXX.out).mono ?_; rintro e w4 ⟨rfl, hb4⟩; have HN4 := Lib.hid (HNr.out.far hb4); have HB4' := Lib.hid (HBr.out.trans (hb4.mono HBr.out.size)); have hs4 := HB4'.out.size; clear hb4))
        go_roundw
        case rel => exact ⟨j + 1, A6, c6, by omega, by go_num, rfl, hl6, HN6, HB6⟩
        case measure => simp [intOf]; omega
      · obtain rfl : j = 5 := by omega
        have hwr := HW1.out
        have hnl := HW2.out
        obtain ⟨wN, hwN⟩ : ∃ x, x = wr := ⟨wr, rfl⟩
        subst hwN
        have HNN := Lib.hid (ow_rt HNr.out)
        have HBN := HBr
        go_upto_region 18 with fail
        have hF : formR (N0 ++ List.replicate 5 XX) = ([], 160) := by unfold formR; rw [if_neg (by rw [hwr]; simp)]
        have hT : textR (N0 ++ List.replicate 5 XX) = ([], 160) := by unfold textR; rw [if_neg (by rw [hwr]; simp)]
        have hAp : appR b [x, 0] (N0 ++ List.replicate 5 XX) = ([], 160) := by unfold appR; rw [if_neg (by rw [hwr]; simp)]
        have HF := Lib.hid hF
        have HT := Lib.hid hT
        have HAp := Lib.hid hAp
        have HWr := Lib.hid hwr
        have HNL := Lib.hid hnl
        clear hF hT hAp hwr hnl
        go_wp2_with (first
          | (go_at_call 11; refine (right_at wE AJ cJ (L + 5) (N0 ++ List.replicate 5 XX) false HWr.out HNL.out ((HNN.out.below HE4.out).more HE4.out.size) (by omega)).mono ?_; rintro e wF ⟨rfl, hbF⟩; have HBF := Lib.hid (HBE.out.trans (hbF.mono HBE.out.size)); clear hbF)
          | (go_at_call 16; refine (readZ_any A3 c3 K b (max x ((K : Int) + 1)) wD HBl.out ((HR3.out.below HBD.out).more HBD.out.size) (by omega) (by omega)).mono ?_; rw [HZ2.out]; rintro e wE ⟨vE, rfl, _, hbE⟩; have HBE := Lib.hid (HBD.out.trans (hbE.mono HBD.out.size)); have HE4 := Lib.hid (HD4.out.trans (hbE.mono HD4.out.size)); clear hbE)
          | (go_at_call 16; refine (readZ_any A3 c3 K b (min x (-1)) wC HBl.out ((HR3.out.below HBC.out).more HBC.out.size) (by omega) (by omega)).mono ?_; rw [HZ1.out]; rintro e wD ⟨vD, rfl, _, hbD⟩; have HBD := Lib.hid (HBC.out.trans (hbD.mono HBC.out.size)); have HD4 := Lib.hid (HC4.out.trans (hbD.mono HC4.out.size)); clear hbD)
          | (go_at_call 7; refine (text_all wB AJ cJ (L + 5) (N0 ++ List.replicate 5 XX) [] 160 HT.out HNL.out ((HNN.out.below HB4.out).more HB4.out.size) (by omega)).mono ?_; rintro e wC ⟨rfl, hbC⟩; have HBC := Lib.hid (HBB.out.trans (hbC.mono HBB.out.size)); have HC4 := Lib.hid (HB4.out.trans (hbC.mono HB4.out.size)); clear hbC)
          | (go_at_call 15; refine (append_all (wA.alloc (.cells #[.int .i64 x, .int .i64 0] 3)) A3 (some ⟨wA.heap.size, 0, none⟩) AJ c3 2 cJ K 2 (L + 5) b [x, 0] (N0 ++ List.replicate 5 XX) HBl.out rfl HNL.out (((HR3.out.below HBA.out).more HBA.out.size).alloc (Nat.le_refl _) _ |>.more (by simp)) (by omega) (by omega) (rd_lit2 wA x) (by omega) (((HNN.out.below HA4.out).more HA4.out.size).alloc (Nat.le_refl _) _ |>.more (by simp)) (by omega) (by omega)).mono ?_; rw [HAp.out]; rintro e wB ⟨vB, rfl, _, hbB⟩; have HBB := Lib.hid ((HBA.out.alloc HBA.out.size _).trans (hbB.mono (by have := HBA.out.size; simp; omega))); have HB4 := Lib.hid ((HA4.out.alloc HA4.out.size _).trans (hbB.mono (by have := HA4.out.size; simp; omega))); clear hbB)
          | (go_at_call 14; refine (form_all wN AJ cJ (L + 5) (N0 ++ List.replicate 5 XX) [] 160 HF.out HNL.out HNN.out (by omega)).mono ?_; rintro e wA ⟨vA, rfl, _, hbA⟩; have HBA := Lib.hid (HBN.out.trans (hbA.mono HBN.out.size)); have HA4 := Lib.hid hbA; clear hbA))
        go_ret
        exact ⟨rfl, HBF.out⟩
theorem nvOk_of {W : World} (hS : W.ShapedOpen Tryd.prog) : NvOk W := Tryd.laysM146.s1_3 W hS
end Go.Proofs.YtnfgcfljjmjmpaaDoor
