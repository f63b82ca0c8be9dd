/-
  dns: numbers are appended; a record's data.
-/
import Derived.Test.YtlipmlbijddopaaDnsR2
import Derived.Test.YtlipmlbijddopaaKnows
import Derived.Test.YtlipmlbijddopaaDnsP
set_option linter.unusedVariables false
set_option linter.unusedSimpArgs false
namespace Go.Proofs.Ytlipmlbijddopaa
open Go.RowKit
def uc (l : List Nat) : List Value := l.map fun (n : Nat) => Value.int .u16 (n : Int)
@[simp] theorem uc_length (l : List Nat) : (uc l).length = l.length := by simp [uc]
theorem bc_app (a b : List UInt8) : bc (a ++ b) = bc a ++ bc b := by simp [bc]
theorem bc_two (x : Nat) (h : x < 65536) : bc (two x) = [.int .u8 ((x : Int) / 256), .int .u8 ((x : Int) % 256)] := by
  have e : (x / 256 % 256 : Nat) = x / 256 := by omega
  simp [bc, two, e]
theorem twos_take (l : List Nat) (k : Nat) (h : k < l.length) : twos (l.take (k + 1)) = twos (l.take k) ++ two l[k] := by
  rw [List.take_succ_eq_append_getElem h, twos_snoc]
theorem lit_src {P : Program} {w : World} {tx e' : TypeId} (hk : P.underlying tx = some (.slice e')) (e : TypeId) (cs : List Value) (n : Nat) (hn : cs.length = n) (hm : cs.length ≤ maxLen) (h1 : ∀ u ∈ cs, u.oneCell' = true) :
    Src P 1 tx (.slice (some ⟨w.heap.size, 0, none⟩) n n) n cs (w.alloc (.cells cs.toArray e)) := (Rd.lit w e cs n hn hm).src hk h1
/-- a slice that lies apart from a row -/
def Off (A : Option Addr) (v : Value) : Prop := ∀ g b o, v.ownBlock = some g → A = some ⟨b, o, none⟩ → b ≠ g
theorem Off.gr {w w' : World} {A : Option Addr} {v v' : Value} {n : Nat} {xs : List Value} (h : Off A v) (hr : Rd w w.heap.size A n xs) (hg : Gr w w' v v') : Rd w' w'.heap.size A n xs := by
  refine ⟨hr.1, fun hn => ?_⟩
  obtain ⟨b, o, rfl, hb, hc⟩ := hr.2 hn
  refine ⟨b, o, rfl, Nat.lt_of_lt_of_le hb hg.1.size, fun j u hu => (World.cell?_of_block (hg.1.block b hb (fun e => ?_))).trans (hc j u hu)⟩
  exact h b b o e.symm rfl rfl
/-- what lies apart from a row stays as it is when the row grows -/
theorem Rd.grA {w w' : World} {A : Option Addr} {v v' : Value} {n : Nat} {xs : List Value} (hr : Rd w w.heap.size A n xs) (hg : Gr w w' v v') (h : 0 < n → ∀ a, A = some a → v.ownBlock ≠ some a.block) : Rd w' w'.heap.size A n xs := by
  refine ⟨hr.1, fun hn => ?_⟩
  obtain ⟨b, o, rfl, hb, hc⟩ := hr.2 hn
  refine ⟨b, o, rfl, Nat.lt_of_lt_of_le hb hg.1.size, fun j u hu => (World.cell?_of_block (hg.1.block b hb (fun e => h hn _ rfl e.symm))).trans (hc j u hu)⟩
theorem Off.lit {w : World} {base : Nat} {e : TypeId} {v : Value} {xs : List Value} (h : Ow w base e v xs) : Off (some ⟨w.heap.size, 0, none⟩) v := by
  intro g b o hg e
  have := ow_block_lt h g hg
  cases e
  omega
set_option maxRecDepth 100000 in
set_option maxHeartbeats 400000 in
theorem numbers_at (v : Value) (b : List UInt8) (base : Nat) (A : Option Addr) (c n : Nat) (l : List Nat) (w : World) (hO : Ow w base 5 v (bc b)) (hr : Rd w w.heap.size A n (uc l)) (hl : l.length = n) (hx : ∀ x ∈ l, x < 65536) (hB : base ≤ w.heap.size) (hof : Off A v) (hs : b.length + 2 * n ≤ 1000000000000) :
    Calls Try.prog 35 #[v, .slice A n c] w fun e w' => ∃ v', e = .returned v' ∧ Ow w' base 5 v' (bc (b ++ twos l)) ∧ Gr w w' v v' := by
  obtain ⟨i0, hi, hz0, hz1, hz2⟩ := info_parts Try.infoByte
  have HO := Lib.hid hO
  have HR := Lib.hid hr
  have HF := Lib.hid hof
  clear hO hr hof
  go_enter Try.func35, Try.ntmps35
  go_wp2_with fail
  go_loopw [0, 6, 9] (fun v0 _ i wr => ∃ k : Nat, k ≤ n ∧ i = .int .i64 k ∧ Hid (Ow wr base 5 v0 (bc (b ++ twos (l.take k)))) ∧ Hid (Gr w wr v v0)) (fun _ _ i _ => n - (intOf i).toNat)
  case atStart => exact ⟨0, Nat.zero_le _, rfl, Lib.hid (by simpa [twos] using HO.out), Lib.hid (Gr.refl _ _)⟩
  case round =>
    obtain ⟨k, hk, rfl, HO1, HG1⟩ := hrel
    rcases Nat.lt_or_ge k n with hlt | hge
    · have hkl : k < l.length := by omega
      obtain ⟨b2, o2, rfl, _, hc⟩ := (HF.out.gr HR.out HG1.out).at_ hlt
      have hc0 := hc k (.int .u16 (l[k] : Int)) (by simp [uc, hkl])
      have hx0 := hx _ (List.getElem_mem hkl)
      have htw := twos_length (l.take k)
      have htl : (l.take k).length = k := by rw [List.length_take]; omega
      have hsz := HG1.out.1.size
      clear hc
      go_wp2_with (at_builtin; refine wpList_app _ rfl _ _ _ _ rfl base 5 i0 (.int .u8 0) 1 Try.underlying22 hi hz0 hz1 hz2 rfl (Nat.le_refl _) _ _ (HO1.out.alloc _) rfl 2 [.int .u8 ((l[k] : Int) / 256), .int .u8 ((l[k] : Int) % 256)] (lit_src Try.underlying22 _ _ 2 rfl (by simp [maxLen]) (by simp; exact ⟨rfl, rfl⟩)) (by simp; omega) (by simp; omega) ?_; intro v2 w2 hown2 hgr2 hsz2)
      go_roundw
      case rel =>
        refine ⟨k + 1, by omega, by go_num, Lib.hid ?_, Lib.hid ?_⟩
        · rw [twos_take l k hkl, ← List.append_assoc, bc_app, bc_two _ hx0]; exact hown2
        · exact ((HG1.out.alloc _).trans hgr2)
      case measure => simp [intOf]; omega
    · go_wp2_with fail
      go_ret
      refine ⟨_, rfl, ?_, HG1.out⟩
      have := HO1.out
      rwa [List.take_of_length_le (by omega)] at this
theorem Off.none (A : Option Addr) (n c : Nat) : Off A (.slice none n c) := by
  intro g b o h; simp [Value.ownBlock] at h
theorem form_len {n : List (List UInt8)} (h : rightN n = true) : (formN n).length ≤ 255 := by rw [formN_length]; exact size_right h
theorem dataR_len {r : Rc} (h : rightR r = true) : (dataR r).length ≤ 4096 := by
  unfold rightR at h
  unfold dataR
  split at h
  · split
    · rw [if_pos (by assumption)] at h
      split at h
      · have := form_len h
        simp [two]; omega
      · cases h
    · rw [if_neg (by assumption)] at h
      simp at h
      exact h.1
  · cases h
theorem Gr.below0 {w w' : World} {v' : Value} {n c : Nat} (h : Gr w w' (.slice none n c) v') : Below w.heap.size w w' := h.below (fun g hg => by simp [Value.ownBlock] at hg) (Nat.le_refl _)
set_option maxRecDepth 100000 in
set_option maxHeartbeats 400000 in
theorem data_at (x : RR) (w : World) (h : RRd w w.heap.size x) (hr : rightR x.r = true) :
    Calls Try.prog 37 #[.agg x.cells.toArray] w fun e w' => ∃ A c, e = .returned (.slice A (dataR x.r).length c) ∧ (dataR x.r).length ≤ c ∧ Rd w' w'.heap.size A (dataR x.r).length (bc (dataR x.r)) ∧ Below w.heap.size w w' ∧ ((A = x.dA ∧ dataR x.r = x.r.d) ∨ ∀ a, A = some a → w.heap.size ≤ a.block) := by
  obtain ⟨A, c, dA, dc, tA, tc, ⟨⟨nm, ty, cl⟩, ttl, d, pr, we, po, tg⟩⟩ := x
  obtain ⟨⟨⟨hn, hnc, hns⟩, hty, hcl⟩, ⟨hd, hdc, hdl⟩, ⟨ht, htc, hts⟩, httl, hpr, hwe, hpo⟩ := h
  simp only [RR.qr] at hn hnc hns hty hcl hd hdc hdl ht htc hts httl hpr hwe hpo
  simp only at hr
  obtain ⟨i0, hi, hz0, hz1, hz2⟩ := info_parts Try.infoByte
  have H2 := Lib.hid ht
  have H3 := Lib.hid hd
  have hb0 : ∀ o : Obj, Below w.heap.size w (w.alloc o) := fun o => (Below.refl _ w).alloc (Nat.le_refl _) o
  clear hn ht hd
  unfold RR.cells
  simp only
  by_cases h33 : ty = 33
  · subst h33
    have htr : rightN tg = true := by
      simp [rightR] at hr
      exact hr.2.2
    have hfl := form_len htr
    have hD : dataR ⟨⟨nm, 33, cl⟩, ttl, d, pr, we, po, tg⟩ = twos [pr, we, po] ++ formN tg := by simp [dataR, twos]
    rw [hD]
    clear hr hD
    go_enter Try.func37, Try.ntmps37
    go_wp2_with (first
      | (at_builtin; refine wpList_app _ rfl _ _ _ _ rfl w2.heap.size 5 i0 (.int .u8 0) 1 Try.underlying22 hi hz0 hz1 hz2 rfl (Nat.le_refl _) _ _ hown3 rfl (formN tg).length (bc (formN tg)) (HFm.out.src Try.underlying22 (bc_one _)) (by simp [twos_length]; omega) hsz3 ?_; intro v4 w4 hown4 hgr4 hsz4)
      | (go_at_call 35; refine (numbers_at (.slice none 0 0) [] w2.heap.size _ _ 3 [pr, we, po] _ (Ow.nil _ _ _) (Rd.lit_top w2 _ (uc [pr, we, po]) 3 _ rfl rfl (by simp [maxLen])) rfl (by simp; omega) (by simp) (Off.none _ _ _) (by simp)).mono ?_; rintro e w3 ⟨v3, rfl, hown3, hgr3⟩; have HFm := Lib.hid ((hrf.alloc_top' _).goes hgr3.below0); have hsz3 : w2.heap.size ≤ w3.heap.size := by (have := hgr3.1.size; simp at this; omega))
      | (go_at_call 66; refine (form_ok tA tc tg _ (H2.out.alloc_top' _) htr).mono ?_; rintro e w2 ⟨vf, rfl, hof, hb2⟩; obtain ⟨Af, cf, rfl, hcf, hrf⟩ := hof.form6 _ (bc_length _); obtain ⟨c0, c1, c2, c3, c4, c5, c6, c7, c8⟩ := (Vx.below (Vx.new w 41 (RR.cells ⟨A, c, dA, dc, tA, tc, ⟨⟨nm, 33, cl⟩, ttl, d, pr, we, po, tg⟩⟩)) hb2 (by simp)).c9))
    rw [← bc_app, List.nil_append] at hown4
    obtain ⟨A4, c4, rfl, hc4, hr4⟩ := hown4.form6 _ (bc_length _)
    have hB2 : Below w.heap.size w w2 := (hb0 _).trans (hb2.mono (by simp))
    have hB4 : Below w2.heap.size w2 w4 := (((Below.refl _ w2).alloc (Nat.le_refl _) _).trans (hgr3.below0.mono (by simp))).trans (hgr4.below hown3.lt hsz3)
    go_ret
    exact ⟨A4, c4, rfl, hc4, hr4, hB2.trans (hB4.mono hB2.size), Or.inr (fun a ha => by subst ha; exact Nat.le_trans hB2.size (hown4.lt a.block rfl))⟩
  · have hD : dataR ⟨⟨nm, ty, cl⟩, ttl, d, pr, we, po, tg⟩ = d := by simp [dataR, h33]
    rw [hD]
    clear hr hD
    have h33' : ¬ (ty : Int) = 33 := by omega
    go_enter Try.func37, Try.ntmps37
    go_wp2_with fail
    go_ret
    exact ⟨dA, dc, rfl, hdc, H3.out.alloc_top' _, hb0 _, Or.inl (by simp)⟩
end Go.Proofs.Ytlipmlbijddopaa
