/-
  SrvBb; SrvBack; LSBack
-/
import Derived.Test.YtlipmlbijddopaaGreatDoorZ25
import Derived.BigQuiet
import Derived.Test.YtlipmlbijddopaaGreatDoorZ29
import Derived.Test.YtlipmlbijddopaaGreatDoorZ03
import Derived.Test.YtlipmlbijddopaaGreatDoorTie
import Derived.Test.YtlipmlbijddopaaGreatDoorCards
set_option linter.unusedVariables false
set_option linter.unusedSimpArgs false
namespace Go.Proofs.YtlipmlbijddopaaGreatDoor
open Go.RowKit
namespace Srv
theorem ci_le (a b : Int) : cmpI a b ≤ 0 ↔ a ≤ b := by
  unfold cmpI
  split
  · omega
  · split <;> omega
theorem ci_ne {a b : Int} (h : a ≠ b) : cmpI a b ≠ 0 := fun e => h (cmpI_zero e)
theorem ci_self (a : Int) : cmpI a a = 0 := by
  unfold cmpI
  rw [if_neg (Int.lt_irrefl a), if_neg (Int.lt_irrefl a)]
theorem lx_ne {α : Type} {c d : α → α → Int} {a b : α} (h : c a b ≠ 0) : lexC c d a b = c a b := if_neg h
theorem lx_eq {α : Type} {c d : α → α → Int} {a b : α} (h : c a b = 0) : lexC c d a b = d a b := if_pos h
theorem le_pr {x y : Ad} (h : x.pr ≠ y.pr) : cmpA x y ≤ 0 ↔ x.pr < y.pr := by
  have e : cmpA x y = cmpI x.pr y.pr := lx_ne (ci_ne h)
  rw [e, ci_le]; omega
theorem le_we {x y : Ad} (h0 : x.pr = y.pr) (h : x.we ≠ y.we) : cmpA x y ≤ 0 ↔ y.we < x.we := by
  have e : cmpA x y = cmpI y.we x.we := (lx_eq (by show cmpI x.pr y.pr = 0; rw [h0, ci_self])).trans (lx_ne (ci_ne (Ne.symm h)))
  rw [e, ci_le]; omega
theorem le_h {x y : Ad} (h0 : x.pr = y.pr) (h1 : x.we = y.we) (h : x.h ≠ y.h) : cmpA x y ≤ 0 ↔ Lib.compareBytes x.h y.h < 0 := by
  have hn : Lib.compareBytes x.h y.h ≠ 0 := fun e => h (Ord.cb_eq _ _ e)
  have e : cmpA x y = Lib.compareBytes x.h y.h := (lx_eq (by show cmpI x.pr y.pr = 0; rw [h0, ci_self])).trans ((lx_eq (by show cmpI y.we x.we = 0; rw [h1, ci_self])).trans (lx_ne hn))
  rw [e]; omega
theorem le_po {x y : Ad} (h0 : x.pr = y.pr) (h1 : x.we = y.we) (h2 : x.h = y.h) (h : x.po ≠ y.po) : cmpA x y ≤ 0 ↔ x.po < y.po := by
  have e : cmpA x y = cmpI x.po y.po := (lx_eq (by show cmpI x.pr y.pr = 0; rw [h0, ci_self])).trans ((lx_eq (by show cmpI y.we x.we = 0; rw [h1, ci_self])).trans ((lx_eq (by show Lib.compareBytes x.h y.h = 0; rw [h2, Ord.cb_self])).trans (lx_ne (ci_ne h))))
  rw [e, ci_le]; omega
theorem le_ttl {x y : Ad} (h0 : x.pr = y.pr) (h1 : x.we = y.we) (h2 : x.h = y.h) (h3 : x.po = y.po) : cmpA x y ≤ 0 ↔ x.ttl ≤ y.ttl := by
  have e : cmpA x y = cmpI x.ttl y.ttl := (lx_eq (by show cmpI x.pr y.pr = 0; rw [h0, ci_self])).trans ((lx_eq (by show cmpI y.we x.we = 0; rw [h1, ci_self])).trans ((lx_eq (by show Lib.compareBytes x.h y.h = 0; rw [h2, Ord.cb_self])).trans (lx_eq (by show cmpI x.po y.po = 0; rw [h3, ci_self]))))
  rw [e, ci_le]
  omega
/-- of the same place, and not after it -/
def firstB (a b : Ad) : Bool := plA a b && decide (cmpA b a ≤ 0)
end Srv
theorem grow2_ (w : World) (a b : Obj) : (w.alloc a).alloc b = Sort.grow (w.drewN 0) #[a, b] := by
  rw [Sort.alloc_eq_grow, Sort.alloc_eq_grow, Sort.grow_grow]; rfl
set_option maxRecDepth 100000 in
set_option maxHeartbeats 1000000 in
theorem before_at (x y : Ad) (w : World) :
    Calls Tryz.prog 39 #[.agg x.cells.toArray, .agg y.cells.toArray] w fun e w' => e = .returned (.bool (decide (Srv.cmpA x y ≤ 0))) ∧ ∃ q os, w' = Sort.grow (w.drewN q) os := by
  obtain ⟨r, hr⟩ : ∃ r, r = decide (Srv.cmpA x y ≤ 0) := ⟨_, rfl⟩
  have h1 := @Srv.le_pr x y
  have h2 := @Srv.le_we x y
  have h3 := @Srv.le_h x y
  have h4 := @Srv.le_po x y
  have h5 := @Srv.le_ttl x y
  have hi : Srv.cmpA x y ≤ 0 ↔ r = true := by rw [hr]; simp
  rw [hi] at h1 h2 h3 h4 h5
  rw [← hr]
  clear hr hi
  obtain ⟨xh, xpo, xpr, xwe, xttl⟩ := x
  obtain ⟨yh, ypo, ypr, ywe, yttl⟩ := y
  unfold Ad.cells strV
  dsimp only at h1 h2 h3 h4 h5 ⊢
  by_cases e1 : xpr = ypr
  · subst e1
    by_cases e2 : xwe = ywe
    · subst e2
      by_cases e3 : xh = yh
      · subst e3
        by_cases e4 : xpo = ypo
        · subst e4
          have hR : decide (xttl ≤ yttl) = r := by rw [Bool.eq_iff_iff, decide_eq_true_iff]; exact (h5 rfl rfl rfl rfl).symm
          clear h1 h2 h3 h4 h5
          go_enter Tryz.func39, Tryz.ntmps39
          go_wp2_with fail
          go_ret
          exact ⟨rfl, 0, #[_, _], grow2_ _ _ _⟩
        · have hR : decide (xpo < ypo) = r := by rw [Bool.eq_iff_iff, decide_eq_true_iff]; exact (h4 rfl rfl rfl e4).symm
          have hN : (xpo != ypo) = true := by simpa using e4
          clear h1 h2 h3 h4 h5 e4
          go_enter Tryz.func39, Tryz.ntmps39
          go_wp2_with fail
          go_ret
          exact ⟨rfl, 0, #[_, _], grow2_ _ _ _⟩
      · have hN : (xh != yh) = true := by simpa using e3
        have hN2 : (xh == yh) = false := by simpa using e3
        have hR : Op.bytesLess xh yh = r := by rw [Srv.bl_iff, Bool.eq_iff_iff, decide_eq_true_iff]; exact (h3 rfl rfl e3).symm
        clear h1 h2 h3 h4 h5 e3
        go_enter Tryz.func39, Tryz.ntmps39
        go_wp2_with fail
        go_ret
        exact ⟨rfl, 0, #[_, _], grow2_ _ _ _⟩
    · have hR : decide (ywe < xwe) = r := by rw [Bool.eq_iff_iff, decide_eq_true_iff]; exact (h2 rfl e2).symm
      have hN : (xwe != ywe) = true := by simpa using e2
      clear h1 h2 h3 h4 h5 e2
      go_enter Tryz.func39, Tryz.ntmps39
      go_wp2_with fail
      go_ret
      exact ⟨rfl, 0, #[_, _], grow2_ _ _ _⟩
  · have hR : decide (xpr < ypr) = r := by rw [Bool.eq_iff_iff, decide_eq_true_iff]; exact (h1 e1).symm
    have hN : (xpr != ypr) = true := by simpa using e1
    clear h1 h2 h3 h4 h5 e1
    go_enter Tryz.func39, Tryz.ntmps39
    go_wp2_with fail
    go_ret
    exact ⟨rfl, 0, #[_, _], grow2_ _ _ _⟩
set_option maxRecDepth 100000 in
set_option maxHeartbeats 1000000 in
theorem first_at (g : Nat) (a x : Ad) (w : World) (hg : Vx w g 31 a.cells) :
    Calls Tryz.prog 40 #[.agg x.cells.toArray, .pointer (some ⟨g, 0, none⟩)] w fun e w' => e = .returned (.bool (Srv.firstB a x)) ∧ Below w.heap.size w w' := by
  have hgl := hg.lt
  obtain ⟨r, hr⟩ : ∃ r, r = Srv.firstB a x := ⟨_, rfl⟩
  rw [← hr]
  have HP := Lib.hid (fun W => before_at x a W)
  have hxr : x.cells = [strV x.h, .int .i64 x.po, .int .i64 x.pr, .int .i64 x.we, .int .u32 (x.ttl : Int)] := rfl
  have hbx := Vx.new w 31 x.cells
  have hgx := hg.alloc (.cells x.cells.toArray 31)
  have hbl := bl_new w (.cells x.cells.toArray 31)
  obtain ⟨z, hz⟩ : ∃ z, z = decide (Srv.cmpA x a ≤ 0) := ⟨_, rfl⟩
  unfold Srv.firstB Srv.plA at hr
  rw [← hz] at HP hr
  have HZ := Lib.hid hz
  clear hz hxr
  obtain ⟨h, po, pr, we, ttl⟩ := x
  obtain ⟨h', po', pr', we', ttl'⟩ := a
  unfold Ad.cells strV at hg HP hgx hbx hbl ⊢
  dsimp only at hg HP hgx hbx hbl hr ⊢
  obtain ⟨c0, c1, c2, c3, c4⟩ := hgx.c5
  have HBL := Lib.hid hbl
  have HR := Lib.hid hr
  clear hg hgx hbx hbl hr
  by_cases e1 : h' = h
  · subst e1
    by_cases e2 : po' = po
    · subst e2
      have hr := HR.out
      go_enter Tryz.func40, Tryz.ntmps40
      go_wp2_with (go_at_call 39
                   refine (HP.out _).mono ?_
                   rintro e w2 ⟨rfl, q, os, rfl⟩)
      go_ret
      exact ⟨by rw [HR.out]; simp, HBL.out.trans (below_grow _ _ _ HBL.out.size)⟩
    · have hN : (po' == po) = false := by simpa using e2
      clear e2
      go_enter Tryz.func40, Tryz.ntmps40
      go_wp2_with fail
      go_ret
      exact ⟨by rw [HR.out]; simp; intro h; simp [h] at hN, HBL.out⟩
  · have hN : (h' == h) = false := by simpa using e1
    clear e1
    go_enter Tryz.func40, Tryz.ntmps40
    go_wp2_with fail
    go_ret
    exact ⟨by rw [HR.out]; simp; intro h; simp [h] at hN, HBL.out⟩
theorem first_any (g : Nat) (a : Ad) (A : Option Addr) (c n : Nat) (l : List Ad) (w : World) (hg : Vx w g 31 a.cells) (h : AsRd w w.heap.size A c n l) :
    Calls Tryz.prog 16 #[.slice A n c, .func (.func 40) #[] #[.pointer (some ⟨g, 0, none⟩)]] w fun e w' => e = .returned (.bool (l.any (fun b => Srv.firstB a b))) ∧ Below w.heap.size w w' := by
  have eg : ∀ args w, (callFunc 40 args).run Tryz.prog w = .ok (.enter 40 args) w := enters_of Tryz.func40 (by kernel_rfl) rfl
  refine has_at (fun b => Srv.firstB a b) 40 #[.pointer (some ⟨g, 0, none⟩)] eg A c n l w (fun W x hb => ?_) h
  refine (first_at g a x W (hg.below hb hg.lt)).mono ?_
  rintro e w' ⟨rfl, hb'⟩
  exact ⟨rfl, hb.trans (hb'.mono hb.size)⟩
theorem grown_alloc (w : World) (o : Obj) (q : Nat) (os : Array Obj) : Sort.grow ((w.alloc o).drewN q) os = Sort.grow (w.drewN q) (#[o] ++ os) := by
  rw [Sort.alloc_eq_grow, show (Sort.grow w #[o]).drewN q = Sort.grow (w.drewN q) #[o] from rfl, Sort.grow_grow]
theorem grown_drewN (w : World) (o : Obj) (q : Nat) : (w.alloc o).drewN q = Sort.grow (w.drewN q) #[o] := by
  rw [Sort.alloc_eq_grow]; rfl
set_option maxRecDepth 100000 in
set_option maxHeartbeats 1000000 in
theorem index_at (A : Option Addr) (c n : Nat) (l : List Ad) (a : Ad) (w : World) (h : AsRd w w.heap.size A c n l) :
    Calls Tryz.prog 91 #[.slice A n c, .agg a.cells.toArray] w fun e w' => (∃ z : Int, e = .returned (.int .i64 z) ∧ (0 ≤ z ↔ a ∈ l)) ∧ ∃ q os, w' = Sort.grow (w.drewN q) os := by
  have hnl := h.2.2.2.1
  have HLN := Lib.hid h.2.1
  obtain ⟨ah, apo, apr, awe, attl⟩ := a
  have hbx := Vx.new w 31 [.string ⟨ah.toArray⟩, .int .i64 apo, .int .i64 apr, .int .i64 awe, .int .u32 (attl : Int)]
  have ha1 := h.goes (bl_new w (.cells #[.string ⟨ah.toArray⟩, .int .i64 apo, .int .i64 apr, .int .i64 awe, .int .u32 (attl : Int)] 31))
  obtain ⟨W1, hgw⟩ : ∃ W1, W1 = w.alloc (.cells #[.string ⟨ah.toArray⟩, .int .i64 apo, .int .i64 apr, .int .i64 awe, .int .u32 (attl : Int)] 31) := ⟨_, rfl⟩
  rw [← hgw] at hbx ha1
  have HBX := Lib.hid hbx
  have HA1 := Lib.hid ha1
  have HGW := Lib.hid hgw
  clear h hbx ha1 hgw
  have mixed : Tryz.prog.follows .mixedOrders = true := by kernel_rfl
  unfold Ad.cells strV
  dsimp only
  go_enter Tryz.func91, Tryz.ntmps91
  go_wp2_with fail
  rw [← HGW.out]
  obtain ⟨gb, hgb⟩ : ∃ x, x = w.heap.size := ⟨_, rfl⟩
  rw [← hgb] at HBX ⊢
  clear hgb
  go_loopw [8] (fun vk wr => ∃ k : Nat, k ≤ n ∧ vk = .int .i64 k ∧ Hid (∃ q os, wr = Sort.grow (W1.drewN q) os) ∧ Hid (∀ x ∈ l.take k, x ≠ ⟨ah, apo, apr, awe, attl⟩)) (fun vk _ => n - (intOf vk).toNat)
  case atStart => exact ⟨0, Nat.zero_le _, rfl, Lib.hid ⟨0, #[], by rw [Sort.grow_empty]; rfl⟩, Lib.hid (fun x hx => by simp at hx)⟩
  case round =>
    obtain ⟨k, hk, rfl, HW, HZ⟩ := hrel
    obtain ⟨q, os0, hW⟩ := HW.out
    have HW := Lib.hid hW
    clear hW
    have hbw : Below W1.heap.size W1 wr := by rw [HW.out]; exact below_grow W1 q os0 (Nat.le_refl _)
    rcases Nat.lt_or_ge k n with hlt | hge
    · have hkl : k < l.length := by rw [HLN.out]; exact hlt
      have r1 := HA1.out.goes hbw
      have v1 := HBX.out.below hbw HBX.out.lt
      obtain ⟨b, o, rfl, hb, hc⟩ := r1.at_ hlt
      have f1 := hc hkl
      obtain ⟨x, hx⟩ : ∃ x, x = l[k] := ⟨_, rfl⟩
      rw [← hx] at f1
      obtain ⟨b0, b1, b2, b3, b4⟩ := v1.c5
      obtain ⟨c0, c1, c2, c3, c4⟩ := f1.cells
      have hgb := v1.lt
      have HX := Lib.hid hx
      clear hx hc r1 v1 f1 hbw
      obtain ⟨xh, xpo, xpr, xwe, xttl⟩ := x
      dsimp only at c0 c1 c2 c3 c4
      have b0' := fun n os => cell_grown (w := wr) hgb b0 n os
      have b1' := fun n os => cell_grown (w := wr) hgb b1 n os
      have b2' := fun n os => cell_grown (w := wr) hgb b2 n os
      have b3' := fun n os => cell_grown (w := wr) hgb b3 n os
      have b4' := fun n os => cell_grown (w := wr) hgb b4 n os
      have c0' := fun n os => cell_grown (w := wr) hb c0 n os
      have c1' := fun n os => cell_grown (w := wr) hb c1 n os
      have c2' := fun n os => cell_grown (w := wr) hb c2 n os
      have c3' := fun n os => cell_grown (w := wr) hb c3 n os
      have c4' := fun n os => cell_grown (w := wr) hb c4 n os
      clear b0 b1 b2 b3 b4 c0 c1 c2 c3 c4
      obtain ⟨r, hr⟩ : ∃ r, r = (decide (ah = xh) && (decide (apo = xpo) && (decide (apr = xpr) && (decide (awe = xwe) && decide (attl = xttl))))) := ⟨_, rfl⟩
      have HRR := Lib.hid hr
      clear hr
      go_upto_region 4 with fail
      refine wp_region_quiet_grown mixed (by kernel_rfl) ?_
      repeat (quiet_step (fail))
      refine wpQuiet_step (fun K hK => ?_)
      go_simp
      refine ⟨.bool r, fun gb => ?_, hK _ ?_⟩
      · rw [HRR.out]
        by_cases h1 : ah = xh
        · by_cases h2 : apo = xpo
          · by_cases h3 : apr = xpr
            · by_cases h4 : awe = xwe
              · by_cases h5 : attl = xttl
                · simp [h1, h2, h3, h4, h5]
                · have h5' : ¬ (attl : Int) = (xttl : Int) := by omega
                  simp [h1, h2, h3, h4, h5, h5']
              · simp [h1, h2, h3, h4]
            · simp [h1, h2, h3]
          · simp [h1, h2]
        · simp [h1]
      clear hK K
      refine wpQuiet_nil ?_
      intro _ hw'
      obtain ⟨⟨nq, osq⟩, hw''⟩ := hw'
      subst hw''
      dsimp only
      have HW2 : Hid (∃ q os, Sort.grow (wr.drewN nq) osq = Sort.grow (W1.drewN q) os) := Lib.hid ⟨q + nq, os0 ++ osq, by rw [HW.out, show (Sort.grow (W1.drewN q) os0).drewN nq = Sort.grow ((W1.drewN q).drewN nq) os0 from rfl, Sort.grow_grow]; simp⟩
      generalize Sort.grow (wr.drewN nq) osq = w5 at HW2 ⊢
      cases r with
      | true =>
        go_wp2_with fail
        go_ret
        refine ⟨⟨_, rfl, ?_⟩, ?_⟩
        · have e := HRR.out.symm
          simp only [Bool.and_eq_true, decide_eq_true_eq] at e
          obtain ⟨rfl, rfl, rfl, rfl, rfl⟩ := e
          have : (⟨ah, apo, apr, awe, attl⟩ : Ad) ∈ l := by rw [HX.out]; exact List.getElem_mem hkl
          exact ⟨fun _ => this, fun _ => by omega⟩
        · obtain ⟨q2, os2, e⟩ := HW2.out
          rw [e, HGW.out]
          exact ⟨_, _, grown_alloc _ _ _ _⟩
      | false =>
        go_wp2_with fail
        go_roundw
        case rel =>
          refine ⟨k + 1, by omega, by go_num, HW2, Lib.hid fun x hx => ?_⟩
          rw [List.take_succ_eq_append_getElem hkl, List.mem_append] at hx
          rcases hx with hx | hx
          · exact HZ.out x hx
          · rw [List.mem_singleton] at hx
            rw [hx, ← HX.out]
            intro e
            have e2 := HRR.out
            injection e with e3 e4 e5 e6 e7
            subst e3 e4 e5 e6 e7
            simp at e2
        case measure => simp [intOf]; omega
    · have hkn : n ≤ k := hge
      go_wp2_with fail
      go_ret
      refine ⟨⟨_, rfl, ?_⟩, ?_⟩
      · have : ¬ (⟨ah, apo, apr, awe, attl⟩ : Ad) ∈ l := fun hm => HZ.out _ (by rw [List.take_of_length_le (by rw [HLN.out]; exact hge)]; exact hm) rfl
        exact ⟨fun h => absurd h (by omega), fun h => absurd h this⟩
      · rw [HW.out, HGW.out]
        exact ⟨_, _, grown_alloc _ _ _ _⟩
set_option maxRecDepth 100000 in
set_option maxHeartbeats 1000000 in
theorem contains_at (A : Option Addr) (c n : Nat) (l : List Ad) (a : Ad) (w : World) (h : AsRd w w.heap.size A c n l) (hm : a ∈ l) :
    Calls Tryz.prog 38 #[.slice A n c, .agg a.cells.toArray] w fun e w' => e = .returned (.bool true) ∧ ∃ q os, w' = Sort.grow (w.drewN q) os := by
  have K := Lib.hid (index_at A c n l a (w.alloc (.cells a.cells.toArray 31)) (h.goes (bl_new w _)))
  have HMM := Lib.hid hm
  clear h hm
  obtain ⟨ah, apo, apr, awe, attl⟩ := a
  unfold Ad.cells strV at K ⊢
  dsimp only at K ⊢
  go_enter Tryz.func38, Tryz.ntmps38
  go_wp2_with (go_at_call 91
               refine K.out.mono ?_
               rintro e w2 ⟨⟨z, rfl, hz⟩, q, os, hw2⟩
               have HW2 := Lib.hid hw2
               have hz0 := hz.2 HMM.out
               clear hw2 hz)
  go_ret
  exact ⟨rfl, by rw [HW2.out]; exact ⟨_, _, grown_alloc _ _ _ _⟩⟩
end Go.Proofs.YtlipmlbijddopaaGreatDoor
set_option linter.unusedVariables false
set_option linter.unusedSimpArgs false
namespace Go.Proofs.YtlipmlbijddopaaGreatDoor
open Go.RowKit
namespace Srv
theorem Stays.next {l o : List Ad} (h : Stays l o) {k : Nat} (hk : k + 1 < o.length) : cmpA o[k] o[k + 1] ≤ 0 := List.pairwise_iff_getElem.1 h.ord k (k + 1) (by omega) hk (by omega)
theorem Stays.apart {l o : List Ad} (h : Stays l o) {j k : Nat} (hj : j < k) (hk : k < o.length) : plA o[k] o[j] = false := by
  have h1 := List.pairwise_iff_getElem.1 h.one j k (by omega) hk hj
  rw [Bool.eq_false_iff] at h1 ⊢
  exact fun e => h1 (plA_symm e)
theorem Stays.first {l o : List Ad} (h : Stays l o) {a : Ad} (ha : a ∈ l) : (o.any fun b => firstB a b) = true := by
  obtain ⟨b, hb, h1, h2⟩ := h.all a ha
  exact List.any_eq_true.2 ⟨b, hb, by unfold firstB; rw [h1, decide_eq_true h2]; rfl⟩
end Srv
set_option maxRecDepth 100000 in
set_option maxHeartbeats 4000000 in
theorem srvBack_any (id : Nat) (A : Option Addr) (c : Nat) (l : List Sv.Sa) (w : World) (_ : True) (hid : id < 65536) (h : Rd w w.heap.size A (l.length * 6) (Sv.scs l)) (hc : l.length ≤ c) (hx : ∀ s ∈ l, Sv.okS s) :
    Calls Tryz.prog 12 #[.int .u16 (id : Int), .slice A l.length c] w fun e w' => e = .returned (.bool true) ∧ Below w.heap.size w w' := by
  obtain ⟨O, hO⟩ : ∃ O, O = Sv.outM l := ⟨_, rfl⟩
  obtain ⟨G, hG⟩ : ∃ G, G = Srv.onceA (Srv.sortA O) := ⟨_, rfl⟩
  have hst : Srv.Stays O G := by rw [hG]; exact Srv.sortA_stays O
  obtain ⟨Q, hQ⟩ : ∃ Q, Q = formM (Srv.askM id Sv.svc) := ⟨_, rfl⟩
  obtain ⟨R, hR⟩ : ∃ R, R = formM (Sv.ansM id l) := ⟨_, rfl⟩
  have hT : Srv.takeN Q R = (G, 0) := by rw [hQ, hR, hG, hO]; exact Sv.take_ans hid hx
  obtain ⟨LQ, hLQ⟩ : ∃ L, L = Q.length := ⟨_, rfl⟩
  obtain ⟨LR, hLR⟩ : ∃ L, L = R.length := ⟨_, rfl⟩
  have hfa := Sv.ansM_fine hid hx
  have hQl : LQ ≤ 4096 := by rw [hLQ, hQ]; exact (ask_fine hid Sv.svc_right).len
  have hRl : LR ≤ 4096 := by rw [hLR, hR]; exact hfa.len
  have hOl : O.length ≤ 20 := by rw [hO]; exact Sv.outM_len l
  have KA := Lib.hid (fun (W : World) (hW : Below w.heap.size w W) => Sv.answer_any id l.length A c l W hid (h.goes hW) rfl hc hx)
  have KQ := Lib.hid (fun (W : World) => Sv.ask_query id Q LQ W hid hQ hLQ)
  have KW := Lib.hid (fun (x : MR) (W0 W : World) (b : Nat) (h1 : x.m = Sv.ansM id l) (h2 : MOw W0 b x) (h3 : Below W0.heap.size W0 W) => Sv.fine_write x (Sv.ansM id l) R LR W0 W b h1 hfa hR hLR h2 h3)
  have KT := Lib.hid (fun (A1 A2 : Option Addr) (c1 c2 : Nat) (W : World) h1 h2 (h3 : LQ ≤ c1) (h4 : LR ≤ c2) => Sv.take_got A1 A2 c1 c2 LQ LR Q R G 0 W hT hLQ hLR h1 h2 h3 h4 (by omega) (by omega))
  obtain ⟨g, hg⟩ : ∃ g, g = G.length := ⟨_, rfl⟩
  obtain ⟨o, ho⟩ : ∃ o, o = O.length := ⟨_, rfl⟩
  rw [← hO, ← ho] at KA
  rw [← hg] at KT
  rw [← ho] at hOl
  have HG := Lib.hid hg.symm
  have HO := Lib.hid ho.symm
  have HST := Lib.hid hst
  have HAW := Lib.hid (sawake_any w)
  have mixed : Tryz.prog.follows .mixedOrders = true := by kernel_rfl
  have hslg : ∀ (A5 : Option Addr) (k c5 : Nat), k ≤ c5 → ∀ W, (Instr.slice 27 (.slice A5 g c5) none (some (.int .i64 (k : Int))) none).run Tryz.prog W = .ok (.slice A5 k c5) W := fun A5 k c5 hk W => Sv.run_slS_h W _ _ 5 Tryz.underlying27 szA A5 g c5 k hk
  clear h hc hx hO hG hst hQ hR hT hLQ hLR hfa hg ho
  generalize l.length = n at KA ⊢
  go_enter Tryz.func12, Tryz.ntmps12
  go_wp2_with (first
    | (go_at_call 35
       refine (KT.out A2 A4 c2 c4 w4 HR2.out HR4.out hc2 hc4).mono ?_
       rintro e w5 ⟨A5, c5, rfl, hg5, hgl, hb5⟩
       have HG5 := Lib.hid hg5
       have HO5 := Lib.hid (HO4.out.goes hb5)
       have HB5 := Lib.hid (HB4.out.trans (hb5.mono HB4.out.size))
       clear hb5 hg5)
    | (go_at_call 36
       refine (KW.out ⟨idX, flX, qAX, qcX, qsX, aAX, acX, raX, bAX, bdX, rbX, cAX, ccX, rcX⟩ w3 (w3.alloc (.cells #[.int .u16 (idX : Int), .int .u16 (flX : Int), .slice qAX qsX.length qcX, .slice aAX raX.length acX, .slice bAX rbX.length bdX, .slice cAX rcX.length ccX] 72)) w2.heap.size HXM.out HXO.out (bl_new w3 _)).mono ?_
       rintro e w4 ⟨A4, c4, rfl, hc4, hr4, hb4⟩
       have hb34 : Below w3.heap.size w3 w4 := (bl_new w3 _).trans (hb4.mono (bl_new w3 _).size)
       have HR4 := Lib.hid hr4
       have HR2 := Lib.hid (HR23.out.goes hb34)
       have HO4 := Lib.hid (HO3.out.goes hb34)
       have HB4 := Lib.hid (HB3.out.trans (hb34.mono HB3.out.size))
       clear hb4 hr4 hb34)
    | (go_at_call 37
       refine (KA.out w2 HB2.out).mono ?_
       rintro e w3 ⟨x, Ao, co, rfl, hxm, hxo, ho3, hb3⟩
       have HXM := Lib.hid hxm
       have HXO := Lib.hid hxo
       have HO3 := Lib.hid ho3
       have HR23 := Lib.hid (HR22.out.goes hb3)
       have HB3 := Lib.hid (HB2.out.trans (hb3.mono HB2.out.size))
       clear hxm hxo ho3 hb3
       obtain ⟨idX, flX, qAX, qcX, qsX, aAX, acX, raX, bAX, bdX, rbX, cAX, ccX, rcX⟩ := x
       unfold MR.cells
       dsimp only)
    | (go_at_call 32
       refine (KQ.out w1).mono ?_
       rintro e w2 ⟨A2, c2, rfl, hc2, hr2, hb2⟩
       have HR22 := Lib.hid hr2
       have HB2 := Lib.hid (HB1.out.trans (hb2.mono HB1.out.size))
       clear hr2 hb2)
    | (go_at_call 14
       refine HAW.out.mono ?_
       rintro e w1 ⟨rfl, hb1⟩
       have HB1 := Lib.hid hb1
       clear hb1))
  have hgc : g ≤ c5 := HG5.out.2.2.1
  go_loopw [51] (fun vk wr => ∃ k : Nat, k ≤ g ∧ vk = .int .i64 k ∧ Hid (Below w5.heap.size w5 wr)) (fun vk _ => g - (intOf vk).toNat)
  case atStart => exact ⟨0, Nat.zero_le _, rfl, Lib.hid (Below.refl _ _)⟩
  case round =>
    obtain ⟨k, hk, rfl, HB⟩ := hrel
    obtain ⟨W0, hW0⟩ : ∃ x, x = wr := ⟨wr, rfl⟩
    subst hW0
    have hgr := HG5.out.goes HB.out
    have HOr := Lib.hid (HO5.out.goes HB.out)
    rcases Nat.lt_or_ge k g with hlt | hge
    · have hkl : k < G.length := by rw [HG.out]; exact hlt
      obtain ⟨b, q, rfl, hb, hcs⟩ := hgr.base (by omega)
      have HCS := Lib.hid hcs
      have hf := hcs k hkl
      have hmem : G[k] ∈ O := HST.out.mem _ (List.getElem_mem hkl)
      have hap : ∀ j, j < k → ∀ hj : j < G.length, Srv.plA G[k] G[j] = false := fun j hj _ => HST.out.apart hj hkl
      have hpr : ∀ j, k = j + 1 → ∃ hj : j < G.length, Srv.cmpA G[j] G[k] ≤ 0 := fun j e => by
        subst e
        exact ⟨by omega, HST.out.next hkl⟩
      obtain ⟨a, ha⟩ : ∃ a, a = G[k] := ⟨_, rfl⟩
      rw [← ha] at hf hmem hap hpr
      have HMEM := Lib.hid hmem
      have HAP := Lib.hid hap
      have HPR := Lib.hid hpr
      clear hcs ha hmem hap hpr hgr
      obtain ⟨ah, apo, apr, awe, attl⟩ := a
      obtain ⟨c0, c1, c2', c3, c4'⟩ := hf.cells
      have hbx := Vx.new W0 31 [.string ⟨ah.toArray⟩, .int .i64 apo, .int .i64 apr, .int .i64 awe, .int .u32 (attl : Int)]
      have hbl := bl_new W0 (.cells #[.string ⟨ah.toArray⟩, .int .i64 apo, .int .i64 apr, .int .i64 awe, .int .u32 (attl : Int)] 31)
      dsimp only at c0 c1 c2' c3 c4'
      have HBX := Lib.hid hbx
      have HBL := Lib.hid hbl
      have HWB := Lib.hid (HB.out.size)
      clear hf hbx hbl
      go_upto_region 12 with fail
      obtain ⟨gb, hgb⟩ : ∃ x, x = W0.heap.size := ⟨_, rfl⟩
      rw [← hgb] at HBX ⊢
      have HGB := Lib.hid hgb
      generalize W0.alloc (.cells #[.string ⟨ah.toArray⟩, .int .i64 apo, .int .i64 apr, .int .i64 awe, .int .u32 (attl : Int)] 31) = W1 at HBX HBL ⊢
      have HC := Lib.hid (fun (m : Nat) (os : Array Obj) => by
        have hk := contains_at Ao co o O ⟨ah, apo, apr, awe, attl⟩ (Sort.grow (W1.drewN m) os) ((HOr.out.goes HBL.out).goes (below_grow W1 m os (Nat.le_refl _))) HMEM.out
        exact hk)
      unfold Ad.cells strV at HC
      dsimp only at HC
      obtain ⟨b0, b1, b2, b3, b4⟩ := HBX.out.c5
      have hb1' := HBX.out.lt
      have b0' := fun n os => cell_grown (w := W1) hb1' b0 n os
      have b1' := fun n os => cell_grown (w := W1) hb1' b1 n os
      have b2' := fun n os => cell_grown (w := W1) hb1' b2 n os
      have b3' := fun n os => cell_grown (w := W1) hb1' b3 n os
      have b4' := fun n os => cell_grown (w := W1) hb1' b4 n os
      clear hgb c0 c1 c2' c3 c4' b0 b1 b2 b3 b4
      rcases Nat.eq_zero_or_pos k with h0 | h0
      case' inl =>
        have hk0 : decide ((0 : Int) < (k : Int)) = false := by simp only [decide_eq_false_iff_not]; omega
        refine wp_region_quiet_grown mixed (by kernel_rfl) ?_
        repeat (go_big_quiet_step ((go_at_call 38; exact Calls.grown_of (HC.out _ _))))
        refine wpQuiet_nil ?_
        intro _ hw'
        obtain ⟨⟨nq, osq⟩, hw''⟩ := hw'
        subst hw''
        dsimp only
        clear h0 hk0
      case' inr =>
        have hk0 : decide ((0 : Int) < (k : Int)) = true := by simp only [decide_eq_true_eq]; omega
        obtain ⟨i, hi⟩ : ∃ i, i + 1 = k := ⟨k - 1, by omega⟩
        have hi1 : IntKind.i64.wrap ((k : Int) - 1) = (i : Int) := by rw [IntKind.wrap_i64]; omega
        obtain ⟨hil, hcm⟩ := HPR.out i hi.symm
        have hfp := (HCS.out i hil).below HBL.out hb
        obtain ⟨p, hp⟩ : ∃ p, p = G[i] := ⟨_, rfl⟩
        rw [← hp] at hcm hfp
        have HBF := Lib.hid (fun (W : World) => by
          have hk := before_at p ⟨ah, apo, apr, awe, attl⟩ W
          rw [decide_eq_true hcm] at hk
          exact hk)
        obtain ⟨xh, xpo, xpr, xwe, xttl⟩ := p
        unfold Ad.cells strV at HBF
        obtain ⟨p0, p1, p2, p3, p4⟩ := hfp.cells
        dsimp only at HBF p0 p1 p2 p3 p4
        have hbW : b < W1.heap.size := Nat.lt_of_lt_of_le hb HBL.out.size
        have p0' := fun n os => cell_grown (w := W1) hbW p0 n os
        have p1' := fun n os => cell_grown (w := W1) hbW p1 n os
        have p2' := fun n os => cell_grown (w := W1) hbW p2 n os
        have p3' := fun n os => cell_grown (w := W1) hbW p3 n os
        have p4' := fun n os => cell_grown (w := W1) hbW p4 n os
        have hig : i < g := by omega
        clear hp hcm hfp hil p0 p1 p2 p3 p4 hi
        refine wp_region_quiet_grown mixed (by kernel_rfl) ?_
        repeat (go_big_quiet_step (first | (go_at_call 38; exact Calls.grown_of (HC.out _ _)) | (go_at_call 39; exact Calls.grown_of (HBF.out _))))
        refine wpQuiet_nil ?_
        intro _ hw'
        obtain ⟨⟨nq, osq⟩, hw''⟩ := hw'
        subst hw''
        dsimp only
        clear p0' p1' p2' p3' p4' hbW HBF h0 hk0
      all_goals
        have hb2 := below_grow W1 nq osq (Nat.le_refl _)
        have HV2 := Lib.hid (HBX.out.below hb2 HBX.out.lt)
        have HB2' := Lib.hid (HBL.out.trans (hb2.mono HBL.out.size))
        clear b0' b1' b2' b3' b4' HC hb2
        generalize Sort.grow (W1.drewN nq) osq = W2 at HV2 HB2' ⊢
        have hsk : k ≤ c5 := by omega
        have hsl := hslg (some ⟨b, q, none⟩) k c5 hsk
        go_wp2_with fail
        go_loopw [78] (fun vj wr => ∃ j : Nat, j ≤ k ∧ vj = .int .i64 j ∧ Hid (Below W2.heap.size W2 wr)) (fun vj _ => k - (intOf vj).toNat)
        case atStart => exact ⟨0, Nat.zero_le _, rfl, Lib.hid (Below.refl _ _)⟩
        case round =>
          obtain ⟨j, hj, rfl, HJ⟩ := hrel
          rcases Nat.lt_or_ge j k with hlj | hgj
          · have hjl : j < G.length := by omega
            have hb2j : Below W0.heap.size W0 wr := HB2'.out.trans (HJ.out.mono HB2'.out.size)
            have hfj := (HCS.out j hjl).below hb2j hb
            have hpl := HAP.out j hlj hjl
            obtain ⟨x, hx⟩ : ∃ x, x = G[j] := ⟨_, rfl⟩
            rw [← hx] at hfj hpl
            obtain ⟨yh, ypo, ypr, ywe, yttl⟩ := x
            obtain ⟨d0, d1, d2, d3, d4⟩ := hfj.cells
            dsimp only at d0 d1 d2 d3 d4
            have hvj := HV2.out.below HJ.out HV2.out.lt
            obtain ⟨v0, v1, v2, v3, v4⟩ := (hvj.alloc (.cells #[.string ⟨yh.toArray⟩, .int .i64 ypo, .int .i64 ypr, .int .i64 ywe, .int .u32 (yttl : Int)] 31)).c5
            have HBN := Lib.hid (bl_new wr (.cells #[.string ⟨yh.toArray⟩, .int .i64 ypo, .int .i64 ypr, .int .i64 ywe, .int .u32 (yttl : Int)] 31))
            unfold Srv.plA at hpl
            dsimp only at hpl
            have hjg : j < g := by omega
            clear hx hfj hvj hb2j
            by_cases e1 : ah = yh
            · subst e1
              have hN : (apo == ypo) = false := by simpa using hpl
              clear hpl
              go_wp2_with fail
              go_roundw
              case rel => exact ⟨j + 1, by omega, by go_num, Lib.hid (HJ.out.trans (HBN.out.mono HJ.out.size))⟩
              case measure => simp [intOf]; omega
            · have hN : (ah == yh) = false := by simpa using e1
              clear hpl e1
              go_wp2_with fail
              go_roundw
              case rel => exact ⟨j + 1, by omega, by go_num, Lib.hid (HJ.out.trans (HBN.out.mono HJ.out.size))⟩
              case measure => simp [intOf]; omega
          · obtain rfl : j = k := by omega
            go_wp2_with fail
            go_roundw
            case rel => exact ⟨j + 1, by omega, by go_num, Lib.hid (HB.out.trans ((HB2'.out.trans (HJ.out.mono HB2'.out.size)).mono HB.out.size))⟩
            case measure => simp [intOf]; omega
    · obtain rfl : k = g := by omega
      have HG7 := Lib.hid hgr
      clear hgr
      go_wp2_with fail
      go_loopw [98] (fun vj wr => ∃ j : Nat, j ≤ o ∧ vj = .int .i64 j ∧ Hid (Below W0.heap.size W0 wr)) (fun vj _ => o - (intOf vj).toNat)
      case atStart => exact ⟨0, Nat.zero_le _, rfl, Lib.hid (Below.refl _ _)⟩
      case round =>
        obtain ⟨j, hj, rfl, HJ⟩ := hrel
        rcases Nat.lt_or_ge j o with hlj | hgj
        · have hjl : j < O.length := by rw [HO.out]; exact hlj
          have hoj := HOr.out.goes HJ.out
          have HGJ := Lib.hid (HG7.out.goes HJ.out)
          obtain ⟨b, q, rfl, hb, hcs⟩ := hoj.base (by omega)
          have hf := hcs j hjl
          have hfi := HST.out.first (List.getElem_mem hjl)
          obtain ⟨a, ha⟩ : ∃ a, a = O[j] := ⟨_, rfl⟩
          rw [← ha] at hf hfi
          have HFI := Lib.hid hfi
          clear hcs ha hfi hoj
          obtain ⟨ah, apo, apr, awe, attl⟩ := a
          obtain ⟨c0, c1, c2', c3, c4'⟩ := hf.cells
          dsimp only at c0 c1 c2' c3 c4'
          clear hf
          go_wp2_with (go_at_call 16
                       have hk := first_any wr.heap.size ⟨ah, apo, apr, awe, attl⟩ A5 c5 k G (wr.alloc (.cells #[.string ⟨ah.toArray⟩, .int .i64 apo, .int .i64 apr, .int .i64 awe, .int .u32 (attl : Int)] 31)) (Vx.new wr _ _) (HGJ.out.goes (bl_new wr _))
                       rw [HFI.out] at hk
                       refine hk.mono ?_
                       rintro e w8 ⟨rfl, hb8⟩
                       have HB8 := Lib.hid ((bl_new wr (.cells #[.string ⟨ah.toArray⟩, .int .i64 apo, .int .i64 apr, .int .i64 awe, .int .u32 (attl : Int)] 31)).trans (hb8.mono (bl_new wr _).size))
                       clear hk hb8)
          go_roundw
          case rel => exact ⟨j + 1, by omega, by go_num, Lib.hid (HJ.out.trans (HB8.out.mono HJ.out.size))⟩
          case measure => simp [intOf]; omega
        · obtain rfl : j = o := by omega
          go_wp2_with fail
          go_ret
          exact ⟨rfl, HB5.out.trans ((HB.out.trans (HJ.out.mono HB.out.size)).mono HB5.out.size)⟩
end Go.Proofs.YtlipmlbijddopaaGreatDoor
set_option linter.unusedVariables false
namespace Go.Proofs.YtlipmlbijddopaaGreatDoor
open Go.ChangeShapes Go.WideShapes Go.ChangeAt Go.RowKit
set_option maxRecDepth 100000 in
theorem srvBack_lifted (os : Os) (started : os.Started) (H : Type) (enc : TypeId × Value → H) :
    ReturnsInHanded {} Tryz.checked os 12 .any (fun w args => (Rows.srvBackSpec.pre enc Tryz.checked.prog Tryz.f12 [] false w args ∧ laidMetH Tryz.checked.prog Rows.srvBackRow.laid w) ∧ sizedMet enc Tryz.checked.prog Tryz.f12 (OpenSpec.ofChange Rows.srvBackSpec) false w args) (Rows.srvBackSpec.post enc Tryz.checked.prog Tryz.f12 false true false false) := by
  refine law_lifted_laid (C := Tryz.checked) (P := Tryz.prog) rfl Tryz.own Tryz.laidOut Tryz.underlying4 started Tryz.func12 rfl (by kernel_rfl) rfl [25, 81] (by rw [Tryz.params12])
    (fun ds h => by
      match ds, h with
      | [d0, d1], _ => rfl) (by kernel_rfl) Rows.srvBackRow.laid (by kernel_rfl)
    (ChangeSpec.witness_shaped (enc := enc) (C := Tryz.checked) (os := os) (X := fun w _ => laidMetH Tryz.prog Rows.srvBackRow.laid w) false (World.laidAll Tryz.prog os Rows.srvBackRow.laid) #[.int .u16 0, .slice none 0 0] 8 (World.laidAll_os _ _ _) (World.shaped_of_ZipB (by kernel_rfl) (by kernel_rfl)) (by kernel_rfl) (by kernel_rfl) (by kernel_rfl)
      (by rw [MakeChecks.laidMetH_plain _ _ _ (by kernel_rfl)]; exact laidMet_laidAll _ (by kernel_rfl) (by kernel_rfl))) ?_
  intro W base args ds p hval hA hL hS
  obtain ⟨v0, v1, d0, d1, p0, p1, rfl, rfl, rfl, h0, h1⟩ := trodAll_two hA.trod
  have hre := hA.reach
  rw [Tryz.params12] at hval
  obtain ⟨x0, rfl, rfl, rfl, wx0⟩ := open_int Tryz.underlying25 (hval 0 _ v0 rfl rfl) h0
  have hx0 : 0 ≤ x0 ∧ x0 < 65536 := by simp [Lit.wf, IntKind.min, IntKind.max, IntKind.signed, IntKind.bits] at wx0; omega
  obtain ⟨n0, rfl⟩ : ∃ n0 : Nat, x0 = (n0 : Int) := ⟨x0.toNat, by omega⟩
  have w1 : ∀ n ∈ d1.weights Tryz.prog 81, n ≤ reachBytes := fun n hn => by simpa using List.all_eq_true.1 hre n (DataW.weights_mem_each (j := 1) rfl rfl n hn)
  obtain ⟨A1, c1, l1, rfl, hc1, r1, hx1⟩ := open_sas (hval 1 _ v1 rfl rfl) h1 w1
  exact srvBack_any n0 A1 c1 l1 W trivial (by omega) r1 hc1 hx1

theorem srvBack_holds : Rows.SrvBackSaid :=
  OpenClaim.holds_of_wide 12 Tryz.f12 rfl rfl rfl rfl rfl rfl rfl ⟨rfl, rfl, rfl, rfl, rfl⟩ rfl rfl rfl rfl rfl (by kernel_rfl) Tryz.func12 (by kernel_rfl)
    (of_decide_eq_true (by kernel_rfl)) (by unfold Func.isWrapper; first | (rw [if_pos (by decide +kernel)]; kernel_rfl) | (rw [if_neg (by decide +kernel)]; exact ⟨rfl, rfl⟩))
    (fun os started H enc _ => srvBack_lifted os started H enc)

theorem srvBack_card : Rows.SrvBackCardSaid :=
  Claim7.holds_tied_plain_at .later [] [.data, .data, .data] true (true, "62a6199dd28d2a080bed368305dcb87b9b8d93dca5598cd0c61d1c0b6c630e34") false
    srvBack_holds (fun _ h => by cases h) (by kernel_rfl) (fun _ h => by cases h) srvBack_row_tie rfl ⟨rfl, rfl⟩ (by kernel_rfl) rfl
    (fun f fn hf hfn => by
      obtain rfl : f = 12 := Option.some.inj ((show Tryz.prog.funcNamed "gauger/gaugerlaw18.SrvBack" = some 12 by kernel_rfl).symm.trans hf) |>.symm
      obtain rfl : fn = Tryz.f12 := (Option.some.inj (Tryz.func12.symm.trans hfn)).symm
      exact ⟨by kernel_rfl, fun j t ht => by
        rw [Tryz.params12] at ht
        have ht2 : t ∈ ([25, 81] : List TypeId) := by simpa using Array.mem_of_getElem? ht
        have hall : ([25, 81] : List TypeId).all (fun t => Tryz.prog.wantsStandIn t == false) = true := by kernel_rfl
        exact beq_iff_eq.1 (List.all_eq_true.1 hall t ht2)⟩)
    (by kernel_rfl)
end Go.Proofs.YtlipmlbijddopaaGreatDoor
