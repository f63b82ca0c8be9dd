/-
  The guard of the laws about chunked bodies.
-/
import Derived.Test.YtkjibnhihdbmdaaDoorChunkAw
import Derived.Deep.RegionHeld3
import Derived.Deep.DeepCutAuto
import Derived.Deep.QuietTactic
import Derived.BigQuiet
import Derived.Lib.SlBytesConst
set_option linter.unusedVariables false
set_option linter.unusedSimpArgs false
namespace Go.Proofs.YtkjibnhihdbmdaaDoor
open Go.RowKit
theorem replace_aw (w : World) (h : EnvOk w) : Calls Tryd.prog 36 #[.string ⟨Aw.wikiL.toArray⟩, .string ⟨#[48, 53, 59, 120]⟩, .string ⟨#[53]⟩, .int .i64 1] w fun e w' => e = .returned (.string ⟨Aw.wikiO.toArray⟩) ∧ Below w.heap.size w w' := by
  obtain ⟨_, m, hm⟩ := h
  refine (Tryd.strings_Replace ⟨Aw.wikiL.toArray⟩ ⟨#[48, 53, 59, 120]⟩ ⟨#[53]⟩ 1 m w (by decide) hm (by decide) (by decide +kernel)).mono ?_
  rintro e w' ⟨rfl, hb⟩
  refine ⟨?_, hb⟩
  have e1 : Lib.replace (⟨Aw.wikiL.toArray⟩ : ByteArray).data.toList (⟨#[48, 53, 59, 120]⟩ : ByteArray).data.toList (⟨#[53]⟩ : ByteArray).data.toList 1 = Aw.wikiO := Aw.rep
  rw [e1]
set_option maxRecDepth 100000 in
set_option maxHeartbeats 1000000 in
theorem awake_any (w : World) (henv : EnvOk w) : Calls Tryd.prog 13 #[] w fun e w' => e = .returned (.bool true) ∧ Below w.heap.size w w' := by
  have HE := Lib.hid henv
  have hcbb := fun (w : World) (C : Array Value) (n c : Nat) => Lib.run_convert_bytes_const (P := Tryd.prog) w 22 5 C n c Tryd.underlying22 Tryd.underlying5
  clear henv
  go_enter Tryd.func13, Tryd.ntmps13
  go_upto_region 3 with (first
    | (go_at_call 15; refine (encode_res A1 (some ⟨w1.heap.size, 0, none⟩) c1 9 2 2 Aw.wikiB [4, 9] (w1.alloc (.cells (ic [4, 9]).toArray 3)) 0 24 Aw.wikiO Aw.e1 Aw.e2 rfl rfl rfl (rd_top (ow_rd HO1.out) _) (rd_lit w1 3 (ic [4, 9]) 2 _ rfl rfl) hc1 (by decide) (by decide) (HE.out.below (HB1.out.alloc HB1.out.size _))).mono ?_; rintro e w2 ⟨A2, c2, rfl, hc2, ho2, hb2⟩; have HO2 := Lib.hid ho2; have HB2 := Lib.hid (((Below.refl w1.heap.size w1).alloc (Nat.le_refl _) _).trans (hb2.mono (by simp))); clear ho2 hb2)
    | (go_at_call 17; refine (decode_res (some ⟨w.heap.size, 0, none⟩) 31 31 Aw.wikiM (w.alloc (.cells (bc Aw.wikiM).toArray 5 (31, 31 + 1))) 27 0 9 Aw.wikiB Aw.d1 Aw.d2 Aw.d3 rfl rfl (rd_litM w 5 (bc Aw.wikiM) 31 _ _ _ rfl rfl) (by decide)).mono ?_; rintro e w1 ⟨A1, c1, rfl, hc1, ho1, hb1⟩; have HO1 := Lib.hid ho1; have HB1 := Lib.hid (((Below.refl w.heap.size w).alloc (Nat.le_refl _) _).trans (hb1.mono (by simp))); clear ho1 hb1))
  go_cut [47] from 1 to 47 (fun v47 wx => v47 = .bool false ∧ Below w.heap.size w wx)
  case first =>
    have hB2 := HB1.out.trans (HB2.out.mono HB1.out.size)
    have hcv1 : ∀ W, Below w2.heap.size w2 W → (convert 22 9 (.slice A1 9 c1)).run Tryd.prog W = .ok (.string ⟨#[87, 105, 107, 105, 112, 101, 100, 105, 97]⟩) W := fun W hW => conv_bs (P := Tryd.prog) W 22 5 9 A1 c1 _ Aw.wikiB Tryd.underlying22 Tryd.underlying5 Tryd.underlying9 (rd_step (rd_step (ow_rd HO1.out) HB2.out) hW)
    have hcv2 : ∀ W, Below w2.heap.size w2 W → (convert 22 9 (.slice A2 24 c2)).run Tryd.prog W = .ok (.string ⟨#[52, 13, 10, 87, 105, 107, 105, 13, 10, 53, 13, 10, 112, 101, 100, 105, 97, 13, 10, 48, 13, 10, 13, 10]⟩) W := fun W hW => conv_bs (P := Tryd.prog) W 22 5 9 A2 c2 _ Aw.wikiO Tryd.underlying22 Tryd.underlying5 Tryd.underlying9 (rd_step (ow_rd HO2.out) hW)
    have hKS : ∀ W, Below w2.heap.size w2 W → (Below w2.heap.size w2 W ∧ (convert 22 9 (.slice A1 9 c1)).run Tryd.prog W = .ok (.string ⟨#[87, 105, 107, 105, 112, 101, 100, 105, 97]⟩) W ∧ (convert 22 9 (.slice A2 24 c2)).run Tryd.prog W = .ok (.string ⟨#[52, 13, 10, 87, 105, 107, 105, 13, 10, 53, 13, 10, 112, 101, 100, 105, 97, 13, 10, 48, 13, 10, 13, 10]⟩) W) := fun W h => ⟨h, hcv1 W h, hcv2 W h⟩
    have hS0 : Below w2.heap.size w2 w2.drew := (Below.refl _ _).drew
    have HEn := Lib.hid (HE.out.below hB2)
    have HB2' := Lib.hid hB2
    clear hcv1 hcv2 hB2
    go_region_held3 (fun W => Below w2.heap.size w2 W ∧ (convert 22 9 (.slice A1 9 c1)).run Tryd.prog W = .ok (.string ⟨#[87, 105, 107, 105, 112, 101, 100, 105, 97]⟩) W ∧ (convert 22 9 (.slice A2 24 c2)).run Tryd.prog W = .ok (.string ⟨#[52, 13, 10, 87, 105, 107, 105, 13, 10, 53, 13, 10, 112, 101, 100, 105, 97, 13, 10, 48, 13, 10, 13, 10]⟩) W) ((first | (refine hKS _ ?_; assumption))) (first
      | (go_at_call 36
         refine (replace_aw _ (HEn.out.below (And.left (by assumption)))).mono ?_
         rintro e w4 ⟨rfl, hb4⟩
         have hS4 : Below w2.heap.size w2 w4 := Below.trans (And.left (by assumption)) (hb4.mono (Below.size (And.left (by assumption))))))
    go_wp2_with fail
    go_meet
    exact ⟨rfl, HB2'.out.trans (hS4.mono HB2'.out.size)⟩
  case rest =>
    obtain ⟨rfl, hcut⟩ := hcut
    clear HO1 HB1 HO2 HB2 hc1 hc2 A1 A2 c1 c2 w1 w2
    go_wp2_with fail
    have hrT := rd_lit wc 59 Aw.tabC 18 wc.heap.size rfl rfl
    have hbT := hcut.alloc hcut.size (.cells Aw.tabC.toArray 59)
    obtain ⟨g, hg⟩ : ∃ g, g = wc.heap.size := ⟨_, rfl⟩
    rw [← hg] at hrT
    rw [← hg]
    go_loopw [56] (fun vi wr => ∃ k : Nat, k ≤ 6 ∧ vi = .int .i64 k ∧ Hid (Rd wr wr.heap.size (some ⟨g, 0, none⟩) 18 Aw.tabC) ∧ Hid (Below w.heap.size w wr)) (fun vi _ => 6 - (intOf vi).toNat)
    case atStart => exact ⟨0, by omega, rfl, Lib.hid hrT, Lib.hid hbT⟩
    case round =>
      clear hrT hbT hg hcut
      obtain ⟨k, hk, rfl, HR, HB⟩ := hrel
      by_cases hlt : k < 6
      · obtain ⟨b, o, hA, hgl, hc⟩ := HR.out.at_ (show 0 < 18 by omega)
        cases hA
        have hBs := HB.out.size
        match k, hlt with
        | 0, _ =>
          have c0 : wr.cell? ⟨g, 0, none⟩ = some (.string ⟨#[103]⟩) := by simpa [Aw.tabC, Aw.T, strV] using hc 0 (.string ⟨#[103]⟩) rfl
          have c1 : wr.cell? ⟨g, 1, none⟩ = some (.int .i64 0) := by simpa using hc 1 (.int .i64 0) rfl
          have c2 : wr.cell? ⟨g, 2, none⟩ = some (.int .i64 190) := by simpa using hc 2 (.int .i64 190) rfl
          have hx := own_new wr [.string ⟨#[103]⟩, .int .i64 0, .int .i64 190] 59
          obtain ⟨cap, w5, hcv, hcap, hb5, hs5, ho5⟩ := conv_sb (P := Tryd.prog) (wr.alloc (.cells #[.string ⟨#[103]⟩, .int .i64 0, .int .i64 190] 59)) 9 22 5 [103] Tryd.underlying9 Tryd.underlying22 Tryd.underlying5
          have hx5 := hx.below hb5 (by simp)
          have hb5' : Below wr.heap.size wr w5 := ((Below.refl _ _).alloc (Nat.le_refl _) _).trans (hb5.mono (by simp))
          simp only [World.size_alloc] at hcv ho5 hs5
          have hT := Aw.t1 ([103], 0, 190) (by simp [Aw.T])
          have hr5 : Rd w5 w5.heap.size (some ⟨wr.heap.size + 1, 0, none⟩) 1 (bc [103]) := ho5.rd (by omega)
          have HT := Lib.hid hT
          have HR5 := Lib.hid hr5
          have HX5 := Lib.hid hx5
          have HB5 := Lib.hid hb5'
          clear hc hT hr5 hx5 hx hb5 hb5' ho5
          go_wp2_with (go_at_call 17; refine (decode_res _ cap 1 [103] w5 0 190 0 [] HT.out.1 HT.out.2.1 HT.out.2.2 rfl rfl HR5.out (by decide)).mono ?_; rintro e w6 ⟨A6, c6, rfl, hc6, ho6, hb6⟩; have hx6 := HX5.out.below hb6 (by omega); have hy1 := (hx6 1 _ rfl).1; have hy2 := (hx6 2 _ rfl).1; have HB6 := Lib.hid (HB5.out.trans (hb6.mono HB5.out.size)); clear ho6 hb6 hx6)
          go_roundw
          case rel => exact ⟨1, by omega, rfl, Lib.hid (rd_step HR.out HB6.out), Lib.hid (HB.out.trans (HB6.out.mono hBs))⟩
          case measure => simp [intOf]
        | 1, _ =>
          have c0 : wr.cell? ⟨g, 3, none⟩ = some (.string ⟨#[52, 10]⟩) := by simpa [Aw.tabC, Aw.T, strV] using hc 3 (.string ⟨#[52, 10]⟩) rfl
          have c1 : wr.cell? ⟨g, 4, none⟩ = some (.int .i64 1) := by simpa using hc 4 (.int .i64 1) rfl
          have c2 : wr.cell? ⟨g, 5, none⟩ = some (.int .i64 190) := by simpa using hc 5 (.int .i64 190) rfl
          have hx := own_new wr [.string ⟨#[52, 10]⟩, .int .i64 1, .int .i64 190] 59
          obtain ⟨cap, w5, hcv, hcap, hb5, hs5, ho5⟩ := conv_sb (P := Tryd.prog) (wr.alloc (.cells #[.string ⟨#[52, 10]⟩, .int .i64 1, .int .i64 190] 59)) 9 22 5 [52, 10] Tryd.underlying9 Tryd.underlying22 Tryd.underlying5
          have hx5 := hx.below hb5 (by simp)
          have hb5' : Below wr.heap.size wr w5 := ((Below.refl _ _).alloc (Nat.le_refl _) _).trans (hb5.mono (by simp))
          simp only [World.size_alloc] at hcv ho5 hs5
          have hT := Aw.t1 ([52, 10], 1, 190) (by simp [Aw.T])
          have hr5 : Rd w5 w5.heap.size (some ⟨wr.heap.size + 1, 0, none⟩) 2 (bc [52, 10]) := ho5.rd (by omega)
          have HT := Lib.hid hT
          have HR5 := Lib.hid hr5
          have HX5 := Lib.hid hx5
          have HB5 := Lib.hid hb5'
          clear hc hT hr5 hx5 hx hb5 hb5' ho5
          go_wp2_with (go_at_call 17; refine (decode_res _ cap 2 [52, 10] w5 1 190 0 [] HT.out.1 HT.out.2.1 HT.out.2.2 rfl rfl HR5.out (by decide)).mono ?_; rintro e w6 ⟨A6, c6, rfl, hc6, ho6, hb6⟩; have hx6 := HX5.out.below hb6 (by omega); have hy1 := (hx6 1 _ rfl).1; have hy2 := (hx6 2 _ rfl).1; have HB6 := Lib.hid (HB5.out.trans (hb6.mono HB5.out.size)); clear ho6 hb6 hx6)
          go_roundw
          case rel => exact ⟨2, by omega, rfl, Lib.hid (rd_step HR.out HB6.out), Lib.hid (HB.out.trans (HB6.out.mono hBs))⟩
          case measure => simp [intOf]
        | 2, _ =>
          have c0 : wr.cell? ⟨g, 6, none⟩ = some (.string ⟨#[49, 13, 10, 97, 98]⟩) := by simpa [Aw.tabC, Aw.T, strV] using hc 6 (.string ⟨#[49, 13, 10, 97, 98]⟩) rfl
          have c1 : wr.cell? ⟨g, 7, none⟩ = some (.int .i64 4) := by simpa using hc 7 (.int .i64 4) rfl
          have c2 : wr.cell? ⟨g, 8, none⟩ = some (.int .i64 191) := by simpa using hc 8 (.int .i64 191) rfl
          have hx := own_new wr [.string ⟨#[49, 13, 10, 97, 98]⟩, .int .i64 4, .int .i64 191] 59
          obtain ⟨cap, w5, hcv, hcap, hb5, hs5, ho5⟩ := conv_sb (P := Tryd.prog) (wr.alloc (.cells #[.string ⟨#[49, 13, 10, 97, 98]⟩, .int .i64 4, .int .i64 191] 59)) 9 22 5 [49, 13, 10, 97, 98] Tryd.underlying9 Tryd.underlying22 Tryd.underlying5
          have hx5 := hx.below hb5 (by simp)
          have hb5' : Below wr.heap.size wr w5 := ((Below.refl _ _).alloc (Nat.le_refl _) _).trans (hb5.mono (by simp))
          simp only [World.size_alloc] at hcv ho5 hs5
          have hT := Aw.t1 ([49, 13, 10, 97, 98], 4, 191) (by simp [Aw.T])
          have hr5 : Rd w5 w5.heap.size (some ⟨wr.heap.size + 1, 0, none⟩) 5 (bc [49, 13, 10, 97, 98]) := ho5.rd (by omega)
          have HT := Lib.hid hT
          have HR5 := Lib.hid hr5
          have HX5 := Lib.hid hx5
          have HB5 := Lib.hid hb5'
          clear hc hT hr5 hx5 hx hb5 hb5' ho5
          go_wp2_with (go_at_call 17; refine (decode_res _ cap 5 [49, 13, 10, 97, 98] w5 4 191 0 [] HT.out.1 HT.out.2.1 HT.out.2.2 rfl rfl HR5.out (by decide)).mono ?_; rintro e w6 ⟨A6, c6, rfl, hc6, ho6, hb6⟩; have hx6 := HX5.out.below hb6 (by omega); have hy1 := (hx6 1 _ rfl).1; have hy2 := (hx6 2 _ rfl).1; have HB6 := Lib.hid (HB5.out.trans (hb6.mono HB5.out.size)); clear ho6 hb6 hx6)
          go_roundw
          case rel => exact ⟨3, by omega, rfl, Lib.hid (rd_step HR.out HB6.out), Lib.hid (HB.out.trans (HB6.out.mono hBs))⟩
          case measure => simp [intOf]
        | 3, _ =>
          have c0 : wr.cell? ⟨g, 9, none⟩ = some (.string ⟨#[49, 48, 48, 48, 49]⟩) := by simpa [Aw.tabC, Aw.T, strV] using hc 9 (.string ⟨#[49, 48, 48, 48, 49]⟩) rfl
          have c1 : wr.cell? ⟨g, 10, none⟩ = some (.int .i64 4) := by simpa using hc 10 (.int .i64 4) rfl
          have c2 : wr.cell? ⟨g, 11, none⟩ = some (.int .i64 3) := by simpa using hc 11 (.int .i64 3) rfl
          have hx := own_new wr [.string ⟨#[49, 48, 48, 48, 49]⟩, .int .i64 4, .int .i64 3] 59
          obtain ⟨cap, w5, hcv, hcap, hb5, hs5, ho5⟩ := conv_sb (P := Tryd.prog) (wr.alloc (.cells #[.string ⟨#[49, 48, 48, 48, 49]⟩, .int .i64 4, .int .i64 3] 59)) 9 22 5 [49, 48, 48, 48, 49] Tryd.underlying9 Tryd.underlying22 Tryd.underlying5
          have hx5 := hx.below hb5 (by simp)
          have hb5' : Below wr.heap.size wr w5 := ((Below.refl _ _).alloc (Nat.le_refl _) _).trans (hb5.mono (by simp))
          simp only [World.size_alloc] at hcv ho5 hs5
          have hT := Aw.t1 ([49, 48, 48, 48, 49], 4, 3) (by simp [Aw.T])
          have hr5 : Rd w5 w5.heap.size (some ⟨wr.heap.size + 1, 0, none⟩) 5 (bc [49, 48, 48, 48, 49]) := ho5.rd (by omega)
          have HT := Lib.hid hT
          have HR5 := Lib.hid hr5
          have HX5 := Lib.hid hx5
          have HB5 := Lib.hid hb5'
          clear hc hT hr5 hx5 hx hb5 hb5' ho5
          go_wp2_with (go_at_call 17; refine (decode_res _ cap 5 [49, 48, 48, 48, 49] w5 4 3 0 [] HT.out.1 HT.out.2.1 HT.out.2.2 rfl rfl HR5.out (by decide)).mono ?_; rintro e w6 ⟨A6, c6, rfl, hc6, ho6, hb6⟩; have hx6 := HX5.out.below hb6 (by omega); have hy1 := (hx6 1 _ rfl).1; have hy2 := (hx6 2 _ rfl).1; have HB6 := Lib.hid (HB5.out.trans (hb6.mono HB5.out.size)); clear ho6 hb6 hx6)
          go_roundw
          case rel => exact ⟨4, by omega, rfl, Lib.hid (rd_step HR.out HB6.out), Lib.hid (HB.out.trans (HB6.out.mono hBs))⟩
          case measure => simp [intOf]
        | 4, _ =>
          have c0 : wr.cell? ⟨g, 12, none⟩ = some (.string ⟨#[48, 48, 48, 48, 48, 48, 48, 48, 49]⟩) := by simpa [Aw.tabC, Aw.T, strV] using hc 12 (.string ⟨#[48, 48, 48, 48, 48, 48, 48, 48, 49]⟩) rfl
          have c1 : wr.cell? ⟨g, 13, none⟩ = some (.int .i64 8) := by simpa using hc 13 (.int .i64 8) rfl
          have c2 : wr.cell? ⟨g, 14, none⟩ = some (.int .i64 3) := by simpa using hc 14 (.int .i64 3) rfl
          have hx := own_new wr [.string ⟨#[48, 48, 48, 48, 48, 48, 48, 48, 49]⟩, .int .i64 8, .int .i64 3] 59
          obtain ⟨cap, w5, hcv, hcap, hb5, hs5, ho5⟩ := conv_sb (P := Tryd.prog) (wr.alloc (.cells #[.string ⟨#[48, 48, 48, 48, 48, 48, 48, 48, 49]⟩, .int .i64 8, .int .i64 3] 59)) 9 22 5 [48, 48, 48, 48, 48, 48, 48, 48, 49] Tryd.underlying9 Tryd.underlying22 Tryd.underlying5
          have hx5 := hx.below hb5 (by simp)
          have hb5' : Below wr.heap.size wr w5 := ((Below.refl _ _).alloc (Nat.le_refl _) _).trans (hb5.mono (by simp))
          simp only [World.size_alloc] at hcv ho5 hs5
          have hT := Aw.t1 ([48, 48, 48, 48, 48, 48, 48, 48, 49], 8, 3) (by simp [Aw.T])
          have hr5 : Rd w5 w5.heap.size (some ⟨wr.heap.size + 1, 0, none⟩) 9 (bc [48, 48, 48, 48, 48, 48, 48, 48, 49]) := ho5.rd (by omega)
          have HT := Lib.hid hT
          have HR5 := Lib.hid hr5
          have HX5 := Lib.hid hx5
          have HB5 := Lib.hid hb5'
          clear hc hT hr5 hx5 hx hb5 hb5' ho5
          go_wp2_with (go_at_call 17; refine (decode_res _ cap 9 [48, 48, 48, 48, 48, 48, 48, 48, 49] w5 8 3 0 [] HT.out.1 HT.out.2.1 HT.out.2.2 rfl rfl HR5.out (by decide)).mono ?_; rintro e w6 ⟨A6, c6, rfl, hc6, ho6, hb6⟩; have hx6 := HX5.out.below hb6 (by omega); have hy1 := (hx6 1 _ rfl).1; have hy2 := (hx6 2 _ rfl).1; have HB6 := Lib.hid (HB5.out.trans (hb6.mono HB5.out.size)); clear ho6 hb6 hx6)
          go_roundw
          case rel => exact ⟨5, by omega, rfl, Lib.hid (rd_step HR.out HB6.out), Lib.hid (HB.out.trans (HB6.out.mono hBs))⟩
          case measure => simp [intOf]
        | 5, _ =>
          have c0 : wr.cell? ⟨g, 15, none⟩ = some (.string ⟨#[52, 13, 10, 87, 105]⟩) := by simpa [Aw.tabC, Aw.T, strV] using hc 15 (.string ⟨#[52, 13, 10, 87, 105]⟩) rfl
          have c1 : wr.cell? ⟨g, 16, none⟩ = some (.int .i64 5) := by simpa using hc 16 (.int .i64 5) rfl
          have c2 : wr.cell? ⟨g, 17, none⟩ = some (.int .i64 192) := by simpa using hc 17 (.int .i64 192) rfl
          have hx := own_new wr [.string ⟨#[52, 13, 10, 87, 105]⟩, .int .i64 5, .int .i64 192] 59
          obtain ⟨cap, w5, hcv, hcap, hb5, hs5, ho5⟩ := conv_sb (P := Tryd.prog) (wr.alloc (.cells #[.string ⟨#[52, 13, 10, 87, 105]⟩, .int .i64 5, .int .i64 192] 59)) 9 22 5 [52, 13, 10, 87, 105] Tryd.underlying9 Tryd.underlying22 Tryd.underlying5
          have hx5 := hx.below hb5 (by simp)
          have hb5' : Below wr.heap.size wr w5 := ((Below.refl _ _).alloc (Nat.le_refl _) _).trans (hb5.mono (by simp))
          simp only [World.size_alloc] at hcv ho5 hs5
          have hT := Aw.t1 ([52, 13, 10, 87, 105], 5, 192) (by simp [Aw.T])
          have hr5 : Rd w5 w5.heap.size (some ⟨wr.heap.size + 1, 0, none⟩) 5 (bc [52, 13, 10, 87, 105]) := ho5.rd (by omega)
          have HT := Lib.hid hT
          have HR5 := Lib.hid hr5
          have HX5 := Lib.hid hx5
          have HB5 := Lib.hid hb5'
          clear hc hT hr5 hx5 hx hb5 hb5' ho5
          go_wp2_with (go_at_call 17; refine (decode_res _ cap 5 [52, 13, 10, 87, 105] w5 5 192 0 [] HT.out.1 HT.out.2.1 HT.out.2.2 rfl rfl HR5.out (by decide)).mono ?_; rintro e w6 ⟨A6, c6, rfl, hc6, ho6, hb6⟩; have hx6 := HX5.out.below hb6 (by omega); have hy1 := (hx6 1 _ rfl).1; have hy2 := (hx6 2 _ rfl).1; have HB6 := Lib.hid (HB5.out.trans (hb6.mono HB5.out.size)); clear ho6 hb6 hx6)
          go_roundw
          case rel => exact ⟨6, by omega, rfl, Lib.hid (rd_step HR.out HB6.out), Lib.hid (HB.out.trans (HB6.out.mono hBs))⟩
          case measure => simp [intOf]
      · have hBs := HB.out.size
        have l1 : Lens Aw.r1 := go_lens Aw.f1 newR 0 lens_new
        have l2 : Lens Aw.r2 := go_lens Aw.f2 Aw.r1 0 l1
        have HL1 := Lib.hid l1
        have HL2 := Lib.hid l2
        clear l1 l2
        go_wp2_with (first
          | (go_at_call 28; refine (eq_s_at A8 (some ⟨w8.heap.size, 0, none⟩) c8 1 1 1 [[97, 58, 32, 98]] [[97, 58, 32, 98]] true (w8.alloc (.cells (sc [[97, 58, 32, 98]]).toArray 9)) (decide_eq_true rfl) rfl rfl (rd_top (ow_rd HO8.out) _) (rd_lit w8 9 (sc [[97, 58, 32, 98]]) 1 _ rfl rfl) (by decide) (by decide)).mono ?_; rintro e w9 ⟨rfl, q9, hq9⟩; have HB9 := Lib.hid (show Below w.heap.size w w9 by rw [hq9]; exact below_dn (HB8.out.alloc HB8.out.size _) q9); clear hq9)
          | (go_at_call 29; refine (trailers_at wr.heap.size wr.heap.size Aw.r2 _ _ _ w7 HI7.out HL2.out.tr).mono ?_; rw [Aw.g6]; rintro e w8 ⟨v8, rfl, ho8, hb8⟩; obtain ⟨A8, c8, rfl, hc8, _⟩ := ow_formL ho8 1 rfl; have HO8 := Lib.hid ho8; have HB8 := Lib.hid (HB7.out.trans (hb8.mono HB7.out.size)); clear ho8 hb8)
          | (go_at_call 26; refine (done_at wr.heap.size wr.heap.size Aw.r2 _ _ _ true w7 HI7.out Aw.g5).mono ?_; rintro e w7 ⟨rfl, rfl⟩)
          | (go_at_call 38; refine (feed_lit (fr := []) wr.heap.size wr.heap.size Aw.r1 vb6 vt6 vl6 3 3 Aw.f2 w6 w6.heap.size rfl rfl HI6.out HL1.out (by decide) 2 Aw.r2 Aw.g3 rfl (Nat.le_of_lt (Nat.lt_of_le_of_lt HI6.out.ge HI6.out.lt))).mono ?_; rw [Aw.g4]; rintro e w7 ⟨vb7, vt7, vl7, rfl, hi7, hb7⟩; have HI7 := Lib.hid hi7; have HB7 := Lib.hid (HB6.out.trans (hb7.mono hBs)); clear hi7 hb7)
          | (go_at_call 38; refine (feed_lit (fr := []) wr.heap.size wr.heap.size newR _ _ _ 9 9 Aw.f1 w5 w5.heap.size rfl rfl HI5.out lens_new (by decide) 9 Aw.r1 Aw.g1 rfl (Nat.le_of_lt (Nat.lt_of_le_of_lt HI5.out.ge HI5.out.lt))).mono ?_; rw [Aw.g2]; rintro e w6 ⟨vb6, vt6, vl6, rfl, hi6, hb6⟩; have HI6 := Lib.hid hi6; have HB6 := Lib.hid (HB5.out.trans (hb6.mono hBs)); clear hi6 hb6 HI5)
          | (go_at_call 37; refine (new_at wr).mono ?_; rintro e w5 ⟨rfl, hi5, hb5⟩; have HI5 := Lib.hid hi5; have HB5 := Lib.hid (HB.out.trans (hb5.mono hBs)); clear hi5 hb5))
        go_ret
        exact ⟨rfl, HB9.out⟩
end Go.Proofs.YtkjibnhihdbmdaaDoor
