import Derived.Test.YtnfgcfljjmjmpaaDoorStr
import Derived.Test.YtnfgcfljjmjmpaaDoorText
import Derived.RegionTactic
import Derived.ChangeAlike
import Derived.StillTailTactics
set_option linter.unusedVariables false
namespace Go.Proofs.YtnfgcfljjmjmpaaDoor
open Go.RowKit

/-- three digits, as a byte -/
def num3 (a b c : UInt8) : UInt8 := UInt8.ofNat ((a - 48).toNat * 100 + (b - 48).toNat * 10 + (c - 48).toNat)
/-- reading on, with fuel -/
def pl (s : List UInt8) : Nat → Nat → List (List UInt8) → List UInt8 → List (List UInt8)
  | 0, _, pre, last => pre ++ [last]
  | f + 1, i, pre, last =>
    if i < s.length then
      if s.getD i 0 = 46 then pl s f (i + 1) (pre ++ [last]) []
      else if s.getD i 0 ≠ 92 then pl s f (i + 1) pre (last ++ [s.getD i 0])
      else if i + 1 < s.length ∧ (s.getD (i + 1) 0 = 46 ∨ s.getD (i + 1) 0 = 92) then pl s f (i + 2) pre (last ++ [s.getD (i + 1) 0])
      else if i + 3 < s.length then pl s f (i + 4) pre (last ++ [num3 (s.getD (i + 1) 0) (s.getD (i + 2) 0) (s.getD (i + 3) 0)])
      else pl s f (i + 1) pre last
    else pre ++ [last]
def parseN (s : List UInt8) : List (List UInt8) × Int :=
  if smallS s = [46] then ([], 0)
  else if 1020 < s.length then ([], 164)
  else if rightN (pl (smallS s) (s.length + 1) 0 [] []) = true ∧ textN (pl (smallS s) (s.length + 1) 0 [] []) = smallS s then (pl (smallS s) (s.length + 1) 0 [] [], 0)
  else ([], 164)

/-- behind a store into the last label -/
theorem last_set {wr : World} {B g cap : Nat} {pre : List (List UInt8)} {last last' : List UInt8} (hown : wr.ownsRow B 9 1 (.slice (some ⟨g, 0, none⟩) (pre.length + 1) cap) (pre.length + 1) (sc (pre ++ [last]))) :
    Ow (wr.setCell ⟨g, pre.length, none⟩ (.string ⟨last'.toArray⟩)) B 9 (.slice (some ⟨g, 0, none⟩) (pre.length + 1) cap) (sc (pre ++ [last'])) := by
  have h := (World.ownsRow.stored hown pre.length (.string ⟨last'.toArray⟩)).1
  have e1 : (sc (pre ++ [last])).set pre.length (.string ⟨last'.toArray⟩) = sc (pre ++ [last']) := by
    unfold sc
    rw [List.map_append, List.map_append, List.set_append_right _ _ (by simp)]
    simp [strV]
  rw [e1] at h
  unfold Ow
  rw [sc_length, List.length_append, List.length_singleton]
  exact h
theorem size_set (pre : List (List UInt8)) (last last' : List UInt8) : sizeN (pre ++ [last']) + last.length = sizeN (pre ++ [last]) + last'.length := by
  have h1 := sizeN_append pre [last]
  have h2 := sizeN_append pre [last']
  simp only [sizeN] at h1 h2
  omega
set_option maxRecDepth 100000 in
set_option maxHeartbeats 4000000 in
theorem parse_any (s : List UInt8) (w : World) (hs : s.length ≤ 140737488355328) :
    Calls Tryd.prog 8 #[.string ⟨s.toArray⟩] w fun e w' => ∃ v, e = .returned (.tuple #[v, .int .i64 (parseN s).2]) ∧ Ow w' w.heap.size 9 v (sc (parseN s).1) ∧ Below w.heap.size w w' := by
  obtain ⟨i0, hi, hz0, hz1, hz2⟩ := info_parts Tryd.infoStr
  generalize ht : smallS s = t
  by_cases h1 : t = [46]
  · have hpar : parseN s = ([], 0) := by unfold parseN; rw [if_pos (by rw [ht]; exact h1)]
    have HP := Lib.hid hpar
    have HT := Lib.hid ht
    subst h1
    clear hpar ht
    go_enter Tryd.func8, Tryd.ntmps8
    go_wp2_with (go_at_call 23; refine (small_any s w (by omega)).mono ?_; rw [HT.out]; rintro e w1 ⟨rfl, hb1⟩)
    go_ret2
    exact ⟨_, by rw [HP.out]; rfl, by rw [HP.out]; exact Ow.nil _ _ _, hb1⟩
  · by_cases h2 : 1020 < s.length
    · have hpar : parseN s = ([], 164) := by unfold parseN; rw [if_neg (by rw [ht]; exact h1), if_pos h2]
      have htl : t.length = s.length := by rw [← ht]; simp
      have hne : (t == [46]) = false := by simp [h1]
      have htl2 : 1020 < t.length := by omega
      have HP := Lib.hid hpar
      have HT := Lib.hid ht
      clear hpar ht htl
      go_enter Tryd.func8, Tryd.ntmps8
      go_wp2_with (go_at_call 23; refine (small_any s w (by omega)).mono ?_; rw [HT.out]; rintro e w1 ⟨rfl, hb1⟩)
      go_ret2
      exact ⟨_, by rw [HP.out]; rfl, by rw [HP.out]; exact Ow.nil _ _ _, hb1⟩
    · have htl : t.length = s.length := by rw [← ht]; simp
      have hne : (t == [46]) = false := by simp [h1]
      have HT := Lib.hid ht
      have htl' : t.length ≤ 1020 := by omega
      have htl1 : t.length ≤ s.length := by omega
      have htl2 : s.length ≤ t.length := by omega
      clear ht htl
      go_enter Tryd.func8, Tryd.ntmps8
      go_wp2_with (go_at_call 23; refine (small_any s w (by omega)).mono ?_; rw [HT.out]; rintro e w1 ⟨rfl, hb1⟩; have hsz1 := hb1.size)
      obtain ⟨B, hB⟩ : ∃ B, B = w1.heap.size := ⟨_, rfl⟩
      have ho0 : Ow (w1.alloc (.cells #[.string ⟨#[]⟩] 9)) w.heap.size 9 (.slice (some ⟨w1.heap.size, 0, none⟩) 1 1) (sc ([] ++ [[]])) := (Ow.lit w1 9 [.string ⟨#[]⟩] (by simp [maxLen])).mono hsz1
      have hbe0 : Below w.heap.size w (w1.alloc (.cells #[.string ⟨#[]⟩] 9)) := hb1.alloc hsz1 _
      rw [← hB] at ho0 ⊢
      generalize w1.alloc (.cells #[.string ⟨#[]⟩] 9) = w0 at ho0 hbe0 ⊢
      clear hB hb1 hsz1
      go_loopw [4, 5] (fun vn vi wr => ∃ (f i : Nat) (pre : List (List UInt8)) (last : List UInt8), vi = .int .i64 i ∧ i ≤ t.length + 3 ∧ t.length + 1 ≤ f + i ∧ Hid (pl t f i pre last = pl t (s.length + 1) 0 [] []) ∧ Ow wr w.heap.size 9 vn (sc (pre ++ [last])) ∧ Below w.heap.size w wr ∧ sizeN (pre ++ [last]) ≤ i + 2) (fun _ vi _ => t.length + 4 - (intOf vi).toNat)
      case atStart => exact ⟨s.length + 1, 0, [], [], rfl, by omega, by omega, rfl, ho0, hbe0, by simp [sizeN]⟩
      case round =>
        clear ho0 hbe0
        obtain ⟨f, i, pre, last, rfl, hi3, hf, HR, hown, hbel, hsz⟩ := hrel
        obtain ⟨g, cap, hv, hBg, hglt⟩ := World.ownsRow.form hown (by simp)
        have hpl : (sc (pre ++ [last])).length = pre.length + 1 := by simp
        rw [hpl] at hv
        subst hv
        have hszb := hbel.size
        by_cases hlt : i < t.length
        · obtain ⟨f', rfl⟩ : ∃ f', f = f' + 1 := ⟨f - 1, by omega⟩
          have e := HR.out
          rw [pl, if_pos hlt] at e
          have hx0 : t[i]? = some (t.getD i 0) := by rw [List.getD_eq_getElem?_getD, List.getElem?_eq_getElem hlt]; rfl
          generalize t.getD i 0 = x at e hx0
          have ix := fun W => idxStr W t i x hx0
          have hll := sizeN_length (pre ++ [last])
          rw [List.length_append, List.length_singleton] at hll
          by_cases x46 : x = 46
          · rw [if_pos x46] at e
            have E := Lib.hid e
            have HI := Lib.hid ix
            clear e
            have t46 : ((x.toNat : Int) == 46) = true := by simp [x46]
            go_wp2_with (at_builtin; refine wpList_app _ rfl _ _ _ _ rfl w.heap.size 9 i0 (.string ⟨#[]⟩) 16 Tryd.underlying22 hi hz0 hz1 hz2 rfl (by omega) _ _ (hown.alloc _) rfl 1 [_] (one_src Tryd.underlying22 _ rfl) (by simp; omega) (by simp; omega) ?_; intro v3 w3 hown3 hgr3 hsz3)
            go_roundw
            case rel =>
              refine ⟨f', i + 1, pre ++ [last], [], by go_num, by omega, by omega, E.out, ?_, hbel.trans ((((Gr.refl wr _).alloc _).trans hgr3).below hown.lt hszb), ?_⟩
              · have e1 : sc (pre ++ [last] ++ [[]]) = sc (pre ++ [last]) ++ [.string ⟨#[]⟩] := by simp [sc, strV]
                rw [e1]; exact hown3
              · have := sizeN_append (pre ++ [last]) [[]]
                simp only [sizeN, List.length_nil] at this
                omega
            case measure => simp [intOf]; omega
          · rw [if_neg x46] at e
            have t46 : ((x.toNat : Int) == 46) = false := by
              simp
              intro h
              exact x46 (by rw [← UInt8.toNat_inj]; simp; omega)
            have hown1 : wr.ownsRow w.heap.size 9 1 (.slice (some ⟨g, 0, none⟩) (pre.length + 1) cap) (pre.length + 1) (sc (pre ++ [last])) := by
              have := hown
              unfold Ow at this
              rw [hpl] at this
              exact this
            have hc1 : wr.cell? ⟨g, pre.length, none⟩ = some (.string ⟨last.toArray⟩) := by
              have := World.ownsRow.cellAt hown1 pre.length (by omega)
              rw [this]
              simp [sc, strV]
            have hc2 : wr.frozen? ⟨g, pre.length, none⟩ = false := World.ownsRow.frozenAt hown1 _
            by_cases x92 : x ≠ 92
            · rw [if_pos x92] at e
              have E := Lib.hid e
              clear e
              have t92 : ((x.toNat : Int) != 92) = true := by
                simp
                intro h
                exact x92 (by rw [← UInt8.toNat_inj]; simp; omega)
              have cx := fun W => cutStr W t i x hx0 (i : Int) ((i : Int) + 1) rfl rfl
              have hlast := mem_size (show last ∈ pre ++ [last] by simp)
              obtain ⟨last', hl'⟩ : ∃ l', l' = last ++ [x] := ⟨_, rfl⟩
              have hcat : (⟨last.toArray⟩ : ByteArray) ++ (⟨#[x]⟩ : ByteArray) = ⟨last'.toArray⟩ := by rw [hl']; exact catStr last [x]
              have HC := Lib.hid hcat
              clear hcat
              have ax : ∀ W, (binOp .add 9 (.string ⟨last.toArray⟩) (.string ⟨#[x]⟩)).run Tryd.prog W = .ok (.string ⟨last'.toArray⟩) W := by
                intro W; rw [hl']; exact addStr W last [x] (by simp; omega)
              have HL' := Lib.hid hl'
              clear hl'
              go_wp2_with fail
              go_region
              rw [HC.out]
              go_wp2
              go_roundw
              case rel =>
                refine ⟨f', i + 1, pre, last', by go_num, by omega, by omega, by rw [HL'.out]; exact E.out, (last_set hown1).drew, (hbel.setCell (p := ⟨g, pre.length, none⟩) hBg _).drew, ?_⟩
                have h1 := size_set pre last last'
                have h2 : last'.length = last.length + 1 := by rw [HL'.out]; simp
                omega
              case measure => simp [intOf]; omega
            · rw [if_neg x92] at e
              have hx92 : x = 92 := by simpa using x92
              have t92 : ((x.toNat : Int) != 92) = false := by rw [hx92]; rfl
              clear x92 x46
              have hlast := mem_size (show last ∈ pre ++ [last] by simp)
              by_cases hi1 : i + 1 < t.length
              · have hy0 : t[i + 1]? = some (t.getD (i + 1) 0) := by rw [List.getD_eq_getElem?_getD, List.getElem?_eq_getElem hi1]; rfl
                generalize t.getD (i + 1) 0 = y at e hy0
                have iy := fun W => idxStr W t (i + 1) y hy0
                have iy' : ∀ W, (Instr.index 9 (.string ⟨t.toArray⟩) (.int .i64 ((i : Int) + 1))).run Tryd.prog W = .ok (.int .u8 (y.toNat : Int)) W := fun W => iy W
                by_cases hy : y = 46 ∨ y = 92
                · rw [if_pos ⟨hi1, hy⟩] at e
                  have E := Lib.hid e
                  clear e iy
                  have hor : ((y.toNat : Int) == 46) = true ∨ (((y.toNat : Int) == 46) = false ∧ ((y.toNat : Int) == 92) = true) := by
                    rcases hy with hy | hy <;> rw [hy]
                    · exact .inl rfl
                    · exact .inr ⟨rfl, rfl⟩
                  have cx : ∀ W, (Instr.slice 9 (.string ⟨t.toArray⟩) (some (.int .i64 ((i : Int) + 1))) (some (.int .i64 ((i : Int) + 2))) none).run Tryd.prog W = .ok (.string ⟨#[y]⟩) W := fun W => cutStr W t (i + 1) y hy0 _ _ (by omega) (by omega)
                  have w1 : IntKind.i64.wrap ((i : Int) + 1) = (i : Int) + 1 := IntWalk.i64_in _ (by omega)
                  have w2 : IntKind.i64.wrap ((i : Int) + 2) = (i : Int) + 2 := IntWalk.i64_in _ (by omega)
                  obtain ⟨last', hl'⟩ : ∃ l', l' = last ++ [y] := ⟨_, rfl⟩
                  have hcat : (⟨last.toArray⟩ : ByteArray) ++ (⟨#[y]⟩ : ByteArray) = ⟨last'.toArray⟩ := by rw [hl']; exact catStr last [y]
                  have HC := Lib.hid hcat
                  clear hcat
                  have ax : ∀ W, (binOp .add 9 (.string ⟨last.toArray⟩) (.string ⟨#[y]⟩)).run Tryd.prog W = .ok (.string ⟨last'.toArray⟩) W := by
                    intro W; rw [hl']; exact addStr W last [y] (by simp; omega)
                  have HL' := Lib.hid hl'
                  have hx92' := Lib.hid hx92
                  clear hl' hx92 hy
                  rcases hor with hor | ⟨hor1, hor2⟩
                  all_goals
                    go_wp2_with fail
                    go_region
                    rw [HC.out]
                    go_wp2
                    go_roundw
                    case rel =>
                      refine ⟨f', i + 2, pre, last', by go_num, by omega, by omega, by rw [HL'.out]; exact E.out, (last_set hown1).drew, (hbel.setCell (p := ⟨g, pre.length, none⟩) hBg _).drew, ?_⟩
                      have h1 := size_set pre last last'
                      have h2 : last'.length = last.length + 1 := by rw [HL'.out]; simp
                      omega
                    case measure => simp [intOf]; omega
                · rw [if_neg (fun h => hy h.2)] at e
                  have hor1 : ((y.toNat : Int) == 46) = false := by
                    simp
                    intro h
                    exact hy (.inl (by rw [← UInt8.toNat_inj]; simp; omega))
                  have hor2 : ((y.toNat : Int) == 92) = false := by
                    simp
                    intro h
                    exact hy (.inr (by rw [← UInt8.toNat_inj]; simp; omega))
                  have hx92' := Lib.hid hx92
                  clear hy hx92
                  by_cases hi3' : i + 3 < t.length
                  · rw [if_pos hi3'] at e
                    have hp0 : t[i + 2]? = some (t.getD (i + 2) 0) := by rw [List.getD_eq_getElem?_getD, List.getElem?_eq_getElem (by omega)]; rfl
                    have hq0 : t[i + 3]? = some (t.getD (i + 3) 0) := by rw [List.getD_eq_getElem?_getD, List.getElem?_eq_getElem hi3']; rfl
                    generalize t.getD (i + 2) 0 = p at e hp0
                    generalize t.getD (i + 3) 0 = q at e hq0
                    have ip : ∀ W, (Instr.index 9 (.string ⟨t.toArray⟩) (.int .i64 ((i : Int) + 2))).run Tryd.prog W = .ok (.int .u8 (p.toNat : Int)) W := fun W => idxStr W t (i + 2) p hp0
                    have iq : ∀ W, (Instr.index 9 (.string ⟨t.toArray⟩) (.int .i64 ((i : Int) + 3))).run Tryd.prog W = .ok (.int .u8 (q.toNat : Int)) W := fun W => idxStr W t (i + 3) q hq0
                    have w1 : IntKind.i64.wrap ((i : Int) + 1) = (i : Int) + 1 := IntWalk.i64_in _ (by omega)
                    have w2 : IntKind.i64.wrap ((i : Int) + 2) = (i : Int) + 2 := IntWalk.i64_in _ (by omega)
                    have w3 : IntKind.i64.wrap ((i : Int) + 3) = (i : Int) + 3 := IntWalk.i64_in _ (by omega)
                    have u1 := subU8 y
                    have u2 := subU8 p
                    have u3 := subU8 q
                    have hnum : num3 y p q = UInt8.ofNat ((y - 48).toNat * 100 + (p - 48).toNat * 10 + (q - 48).toNat) := rfl
                    have b1 := UInt8.toNat_lt (y - 48)
                    have b2 := UInt8.toNat_lt (p - 48)
                    have b3 := UInt8.toNat_lt (q - 48)
                    generalize num3 y p q = z at e hnum
                    generalize (y - 48).toNat = d1 at u1 hnum b1
                    generalize (p - 48).toNat = d2 at u2 hnum b2
                    generalize (q - 48).toNat = d3 at u3 hnum b3
                    have m1 : IntKind.i64.wrap ((d1 : Int) * 100) = (d1 : Int) * 100 := IntWalk.i64_in _ (by omega)
                    have m2 : IntKind.i64.wrap ((d2 : Int) * 10) = (d2 : Int) * 10 := IntWalk.i64_in _ (by omega)
                    have m3 : IntKind.i64.wrap ((d1 : Int) * 100 + (d2 : Int) * 10) = (d1 : Int) * 100 + (d2 : Int) * 10 := IntWalk.i64_in _ (by omega)
                    have m4 : IntKind.i64.wrap ((d1 : Int) * 100 + (d2 : Int) * 10 + (d3 : Int)) = (d1 : Int) * 100 + (d2 : Int) * 10 + (d3 : Int) := IntWalk.i64_in _ (by omega)
                    have hz : ((z.toNat : Nat) : Int) = ((d1 : Int) * 100 + (d2 : Int) * 10 + (d3 : Int)) % 256 := by rw [hnum, UInt8.toNat_ofNat']; omega
                    have hcv : (convert 28 9 (.slice (some ⟨wr.heap.size, 0, none⟩) 1 1)).run Tryd.prog (wr.alloc (.cells #[.int .u8 (((d1 : Int) * 100 + (d2 : Int) * 10 + (d3 : Int)) % 256)] 5)).drew = .ok (.string ⟨#[z]⟩) (wr.alloc (.cells #[.int .u8 (((d1 : Int) * 100 + (d2 : Int) * 10 + (d3 : Int)) % 256)] 5)).drew := by
                      rw [← hz]
                      exact conv_bs (P := Tryd.prog) _ 28 5 9 (some ⟨wr.heap.size, 0, none⟩) 1 (wr.heap.size + 1) [z] Tryd.underlying28 Tryd.underlying5 Tryd.underlying9 (lit_rd wr 5 [.int .u8 z.toNat]).drew
                    have hal1 : (wr.alloc (.cells #[.int .u8 (((d1 : Int) * 100 + (d2 : Int) * 10 + (d3 : Int)) % 256)] 5)).cell? ⟨g, pre.length, none⟩ = some (.string ⟨last.toArray⟩) := (World.cell?_alloc_lt wr _ ⟨g, pre.length, none⟩ hglt).trans hc1
                    have hal2 : (wr.alloc (.cells #[.int .u8 (((d1 : Int) * 100 + (d2 : Int) * 10 + (d3 : Int)) % 256)] 5)).frozen? ⟨g, pre.length, none⟩ = false := (((Below.refl wr.heap.size wr).alloc (Nat.le_refl _) _).frozen (p := ⟨g, pre.length, none⟩) hglt).trans hc2
                    obtain ⟨last', hl'⟩ : ∃ l', l' = last ++ [z] := ⟨_, rfl⟩
                    have hcat : (⟨last.toArray⟩ : ByteArray) ++ (⟨#[z]⟩ : ByteArray) = ⟨last'.toArray⟩ := by rw [hl']; exact catStr last [z]
                    have ax : ∀ W, (binOp .add 9 (.string ⟨last.toArray⟩) (.string ⟨#[z]⟩)).run Tryd.prog W = .ok (.string ⟨last'.toArray⟩) W := by
                      intro W; rw [hl']; exact addStr W last [z] (by simp; omega)
                    have HC := Lib.hid hcat
                    have HL' := Lib.hid hl'
                    have E := Lib.hid e
                    have HN := Lib.hid hnum
                    have HZ := Lib.hid hz
                    clear e hnum hz hcat hl'
                    go_wp2_with fail
                    go_region
                    rw [HC.out]
                    clear u1 u2 u3 m1 m2 m3 m4 hcv hal1 hal2 w1 w2 w3
                    go_wp2
                    go_roundw
                    case rel =>
                      refine ⟨f', i + 4, pre, last', by go_num, by omega, by omega, by rw [HL'.out]; exact E.out, ((last_set hown1).alloc _).drew, ((hbel.setCell (p := ⟨g, pre.length, none⟩) hBg _).alloc (by simp; omega) _).drew, ?_⟩
                      have h1 := size_set pre last last'
                      have h2 : last'.length = last.length + 1 := by rw [HL'.out]; simp
                      omega
                    case measure => simp [intOf]; omega
                  · rw [if_neg hi3'] at e
                    have E := Lib.hid e
                    clear e
                    go_wp2
                    go_roundw
                    case rel => exact ⟨f', i + 1, pre, last, by go_num, by omega, by omega, E.out, hown, hbel, by omega⟩
                    case measure => simp [intOf]; omega
              · rw [if_neg (fun h => hi1 h.1), if_neg (by omega)] at e
                have E := Lib.hid e
                clear e
                have hx92' := Lib.hid hx92
                clear hx92
                go_wp2
                go_roundw
                case rel => exact ⟨f', i + 1, pre, last, by go_num, by omega, by omega, E.out, hown, hbel, by omega⟩
                case measure => simp [intOf]; omega
        · have hres : pre ++ [last] = pl t (s.length + 1) 0 [] [] := by
            rw [← HR.out]
            cases f with
            | zero => rfl
            | succ f => rw [pl, if_neg hlt]
          have hlen : (pre ++ [last]).length = pre.length + 1 := by simp
          have hrd : Rd wr wr.heap.size (some ⟨g, 0, none⟩) (pre.length + 1) (sc (pre ++ [last])) := by
            have := hown
            unfold Ow at this
            rw [hpl] at this
            exact Rd.of_own this
          generalize pre ++ [last] = nn at hown hres hsz hlen hrd
          rw [← hlen] at hown hrd ⊢
          clear hlen hpl
          have h1' : ¬ smallS s = [46] := by rw [HT.out]; exact h1
          have h2' := Lib.hid h2
          by_cases hright : rightN nn = true
          · by_cases htx : textN nn = t
            · have hpar : parseN s = (nn, 0) := by
                unfold parseN
                rw [if_neg h1', if_neg h2'.out, HT.out, ← hres, if_pos ⟨hright, htx⟩]
              have HP := Lib.hid hpar
              have HX := Lib.hid htx
              clear hpar htx hres
              go_wp2_with (go_at_call 7; refine (text_ok (some ⟨g, 0, none⟩) cap nn wr hrd hright).mono ?_; rw [HX.out]; rintro e w5 ⟨rfl, hb5⟩)
              go_ret2
              exact ⟨_, by rw [HP.out]; rfl, by rw [HP.out]; exact hown.far hb5, hbel.trans (hb5.mono hszb)⟩
            · have hpar : parseN s = ([], 164) := by
                unfold parseN
                rw [if_neg h1', if_neg h2'.out, HT.out, ← hres, if_neg (fun h => htx h.2)]
              have HP := Lib.hid hpar
              have hbt : (textN nn == t) = false := by simp [htx]
              clear hpar htx hres
              go_wp2_with (go_at_call 7; refine (text_ok (some ⟨g, 0, none⟩) cap nn wr hrd hright).mono ?_; rintro e w5 ⟨rfl, hb5⟩)
              go_ret2
              exact ⟨_, by rw [HP.out]; rfl, by rw [HP.out]; exact Ow.nil _ _ _, hbel.trans (hb5.mono hszb)⟩
          · have hpar : parseN s = ([], 164) := by
              unfold parseN
              rw [if_neg h1', if_neg h2'.out, HT.out, ← hres, if_neg (fun h => hright h.1)]
            have HP := Lib.hid hpar
            have hright' : rightN nn = false := by simpa using hright
            clear hpar hres hright
            go_wp2_with (go_at_call 7; refine (text_bad (some ⟨g, 0, none⟩) cap nn wr hrd hright' (by omega)).mono ?_; rintro e w5 ⟨rfl, hb5⟩)
            go_ret2
            exact ⟨_, by rw [HP.out]; rfl, by rw [HP.out]; exact Ow.nil _ _ _, hbel.trans (hb5.mono hszb)⟩
end Go.Proofs.YtnfgcfljjmjmpaaDoor
