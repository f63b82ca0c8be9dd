/-
  SrvTk; SrvTp; SrvTk2; SrvTakes; LSTakes
-/
import Derived.Test.YtlipmlbijddopaaGreatDoorZ28
import Derived.Test.YtlipmlbijddopaaGreatDoorZ27
import Derived.BigQuiet
import Derived.Test.YtlipmlbijddopaaGreatDoorZ03
import Derived.Test.YtlipmlbijddopaaGreatDoorTie
import Derived.Test.YtlipmlbijddopaaGreatDoorCards
set_option linter.unusedVariables false
set_option linter.unusedSimpArgs false
namespace Go.Proofs.YtlipmlbijddopaaGreatDoor
open Go.RowKit
namespace Srv
/-! ### the reference takes what the program takes: plain -/
theorem own_iff {q m : Ms} (hq : askedM q = true) : sameM (ownM q m) q = true ↔ m.id = q.id ∧ m.qs.length = 1 ∧ (q0 m).ty = 33 ∧ (q0 m).cl = 1 ∧ (q0 m).nm = (q0 q).nm := by
  rw [sameM_iff]
  obtain ⟨qi, qf, qq, qa, qb, qc⟩ := q
  obtain ⟨mi, mf, mq, ma, mb, mc⟩ := m
  simp only [askedM, Bool.and_eq_true, decide_eq_true_eq] at hq
  obtain ⟨h1, h2, h3, h4, h5⟩ := hq
  obtain rfl : qa = [] := List.eq_nil_of_length_eq_zero (by omega)
  obtain rfl : qb = [] := List.eq_nil_of_length_eq_zero (by omega)
  obtain rfl : qc = [] := List.eq_nil_of_length_eq_zero (by omega)
  obtain ⟨⟨yn, yt, yc⟩, rfl⟩ := List.length_eq_one_iff.1 h2
  simp only [q0, List.getD_cons_zero] at h4 h5 ⊢
  subst h4 h5
  simp only [ownM]
  constructor
  · intro h
    injection h with e1 e2 e3
    subst e1 e3
    exact ⟨rfl, rfl, rfl, rfl, rfl⟩
  · rintro ⟨rfl, h, a, b, c⟩
    obtain ⟨⟨zn, zt, zc⟩, rfl⟩ := List.length_eq_one_iff.1 h
    simp only [List.getD_cons_zero] at a b c
    subst a b c
    rfl
theorem cb_step {a b : List UInt8} {k : Nat} (h : k < a.length) (h2 : k < b.length) (he : a[k] = b[k]) : Lib.compareBytes (a.drop (k + 1)) (b.drop (k + 1)) = Lib.compareBytes (a.drop k) (b.drop k) := by
  rw [List.drop_eq_getElem_cons h, List.drop_eq_getElem_cons h2, Ord.cb_cons, he]
  have hn : ¬ b[k] < b[k] := fun hh => by have := UInt8.lt_iff_toNat_lt.1 hh; omega
  rw [if_neg hn, if_neg hn]
theorem cb_ne {a b : List UInt8} {k : Nat} (h : k < a.length) (h2 : k < b.length) (he : a[k].toNat ≠ b[k].toNat) : Lib.compareBytes (a.drop k) (b.drop k) < 0 ↔ a[k].toNat < b[k].toNat := by
  rw [List.drop_eq_getElem_cons h, List.drop_eq_getElem_cons h2, Ord.cb_cons]
  by_cases h1 : a[k] < b[k]
  · have := UInt8.lt_iff_toNat_lt.1 h1
    rw [if_pos h1]; omega
  · have h3 : ¬ a[k].toNat < b[k].toNat := fun hh => h1 (UInt8.lt_iff_toNat_lt.2 hh)
    have h4 : b[k] < a[k] := UInt8.lt_iff_toNat_lt.2 (by omega)
    rw [if_neg h1, if_pos h4]; omega
theorem cb_end {a b : List UInt8} {k : Nat} (hk : k = a.length ∨ k = b.length) (h1 : k ≤ a.length) (h2 : k ≤ b.length) : Lib.compareBytes (a.drop k) (b.drop k) < 0 ↔ a.length < b.length := by
  rcases Nat.lt_or_ge k a.length with h3 | h3
  · have e : b.drop k = [] := List.drop_of_length_le (by omega)
    rw [e, List.drop_eq_getElem_cons h3]
    simp only [Lib.compareBytes]; omega
  · have e : a.drop k = [] := List.drop_of_length_le (by omega)
    rw [e]
    rcases Nat.lt_or_ge k b.length with h4 | h4
    · rw [List.drop_eq_getElem_cons h4]
      simp only [Lib.compareBytes]; omega
    · have e2 : b.drop k = [] := List.drop_of_length_le (by omega)
      rw [e2]
      simp only [Lib.compareBytes]; omega
theorem cmpI_neg_iff (a b : Int) : cmpI a b < 0 ↔ a < b := by
  unfold cmpI
  split
  · omega
  · split <;> omega
theorem cmpI_ne0 {a b : Int} (h : a ≠ b) : cmpI a b ≠ 0 := fun e => h (cmpI_zero e)
theorem cmpI_self0 (a : Int) : cmpI a a = 0 := by
  unfold cmpI
  rw [if_neg (Int.lt_irrefl a), if_neg (Int.lt_irrefl a)]
theorem lex_ne {α : Type} {c d : α → α → Int} {a b : α} (h : c a b ≠ 0) : lexC c d a b = c a b := if_neg h
theorem lex_eq {α : Type} {c d : α → α → Int} {a b : α} (h : c a b = 0) : lexC c d a b = d a b := if_pos h
theorem lt_pr {x y : Ad} (h : x.pr ≠ y.pr) : cmpA x y < 0 ↔ x.pr < y.pr := by
  have e : cmpA x y = cmpI x.pr y.pr := lex_ne (cmpI_ne0 h)
  rw [e, cmpI_neg_iff]
theorem lt_we {x y : Ad} (h0 : x.pr = y.pr) (h : x.we ≠ y.we) : cmpA x y < 0 ↔ y.we < x.we := by
  have e : cmpA x y = cmpI y.we x.we := (lex_eq (by show cmpI x.pr y.pr = 0; rw [h0, cmpI_self0])).trans (lex_ne (cmpI_ne0 (Ne.symm h)))
  rw [e, cmpI_neg_iff]
theorem lt_h {x y : Ad} (h0 : x.pr = y.pr) (h1 : x.we = y.we) (h : x.h ≠ y.h) : cmpA x y < 0 ↔ Lib.compareBytes x.h y.h < 0 := by
  have e : cmpA x y = Lib.compareBytes x.h y.h := (lex_eq (by show cmpI x.pr y.pr = 0; rw [h0, cmpI_self0])).trans ((lex_eq (by show cmpI y.we x.we = 0; rw [h1, cmpI_self0])).trans (lex_ne (fun e => h (Ord.cb_eq _ _ e))))
  rw [e]
theorem lt_po {x y : Ad} (h0 : x.pr = y.pr) (h1 : x.we = y.we) (h2 : x.h = y.h) (h : x.po ≠ y.po) : cmpA x y < 0 ↔ x.po < y.po := by
  have e : cmpA x y = cmpI x.po y.po := (lex_eq (by show cmpI x.pr y.pr = 0; rw [h0, cmpI_self0])).trans ((lex_eq (by show cmpI y.we x.we = 0; rw [h1, cmpI_self0])).trans ((lex_eq (by show Lib.compareBytes x.h y.h = 0; rw [h2, Ord.cb_self])).trans (lex_ne (cmpI_ne0 h))))
  rw [e, cmpI_neg_iff]
theorem lt_ttl {x y : Ad} (h0 : x.pr = y.pr) (h1 : x.we = y.we) (h2 : x.h = y.h) (h3 : x.po = y.po) : cmpA x y < 0 ↔ x.ttl < y.ttl := by
  have e : cmpA x y = cmpI x.ttl y.ttl := (lex_eq (by show cmpI x.pr y.pr = 0; rw [h0, cmpI_self0])).trans ((lex_eq (by show cmpI y.we x.we = 0; rw [h1, cmpI_self0])).trans ((lex_eq (by show Lib.compareBytes x.h y.h = 0; rw [h2, Ord.cb_self])).trans (lex_eq (by show cmpI x.po y.po = 0; rw [h3, cmpI_self0]))))
  rw [e, cmpI_neg_iff]
  omega
theorem putA_len (a : Ad) : ∀ (th : Bool) (l : List Ad), (putA a th l).length ≤ l.length + 1
  | th, [] => by unfold putA; split <;> simp
  | th, x :: l => by
    have h1 := putA_len a true l
    have h2 := putA_len a false l
    have h3 : (putA a true l).length ≤ l.length := by rw [putA_true]; exact List.length_filter_le _ _
    rw [putA]
    by_cases hc : cmpA a x < 0 <;> cases th <;> cases plA x a <;> simp [hc] <;> omega
theorem putsA_len : ∀ (n : Nat) (l : List Ad), l.length = n → (putsA l).length ≤ l.length
  | 0, l, hn => by
    have : l = [] := List.eq_nil_of_length_eq_zero hn
    subst this; exact Nat.le_refl _
  | n + 1, l, hn => by
    obtain ⟨k, a, rfl⟩ : ∃ k a, l = k ++ [a] := ⟨l.dropLast, l.getLast (by intro e; subst e; simp at hn), (List.dropLast_concat_getLast _).symm⟩
    rw [putsA_snoc, List.length_append]
    have h1 := putsA_len n k (by simpa using hn)
    have h2 := putA_len a false (putsA k)
    simp only [List.length_singleton]
    omega
theorem putsA_mem {l : List Ad} {x : Ad} (h : x ∈ putsA l) : x ∈ l := (puts_stays _ l rfl).mem x h
theorem addA_len (l : List Rc) : (addA l).length ≤ l.length := by
  unfold addA
  rw [List.length_map]
  exact List.length_filter_le _ _
theorem addA_mem {l : List Rc} {x : Ad} (h : x ∈ addA l) : ∃ r ∈ l, x = adR r := by
  obtain ⟨r, hr, rfl⟩ := List.mem_map.1 h
  exact ⟨r, (List.mem_filter.1 hr).1, rfl⟩
end Srv
namespace Srv
/-- what is behind one address when one more is put -/
def restA (a : Ad) (th : Bool) (x : Ad) (l : List Ad) : List Ad := if plA x a = true then (if th = true then putA a th l else x :: putA a true l) else x :: putA a th l
theorem putA_true_c (a x : Ad) (l : List Ad) : putA a true (x :: l) = restA a true x l := by simp [putA, restA]
theorem putA_lt_c {a x : Ad} (l : List Ad) (h : cmpA a x < 0) : putA a false (x :: l) = a :: restA a true x l := by simp [putA, restA, h]
theorem putA_ge_c {a x : Ad} (l : List Ad) (h : ¬ cmpA a x < 0) : putA a false (x :: l) = restA a false x l := by simp [putA, restA, h]
theorem rest_skip {a x : Ad} (l : List Ad) (h : plA x a = true) : restA a true x l = putA a true l := by simp [restA, h]
theorem rest_first {a x : Ad} (l : List Ad) (h : plA x a = true) : restA a false x l = x :: putA a true l := by simp [restA, h]
theorem rest_other {a x : Ad} (th : Bool) (l : List Ad) (h : plA x a = false) : restA a th x l = x :: putA a th l := by simp [restA, h]
end Srv
/-! ### flags, texts, hosts -/
set_option maxRecDepth 100000 in
set_option maxHeartbeats 400000 in
theorem rbit15_at (fl : Nat) (w : World) (hf : fl < 65536) : Calls Tryz.prog 93 #[.int .u16 (fl : Int), .int .u16 32768] w fun e w' => e = .returned (.bool (decide (fl / 32768 % 2 = 1))) ∧ w = w' := by
  obtain ⟨r, hr⟩ : ∃ r, r = decide (fl / 32768 % 2 = 1) := ⟨_, rfl⟩
  have h1 : ((fl : Int) / 32768 % 2 == 1) = r := by rw [hr, Bool.eq_iff_iff]; simp; omega
  have h2 : IntKind.u16.wrap ((fl : Int) / 32768) = (fl : Int) / 32768 := by rw [IntKind.wrap_u16]; omega
  rw [← hr]
  clear hr
  go_enter Tryz.func93, Tryz.ntmps93
  go_wp2
  go_ret
  exact ⟨rfl, rfl⟩
set_option maxRecDepth 100000 in
set_option maxHeartbeats 400000 in
theorem rbit9_at (fl : Nat) (w : World) (hf : fl < 65536) : Calls Tryz.prog 93 #[.int .u16 (fl : Int), .int .u16 512] w fun e w' => e = .returned (.bool (decide (fl / 512 % 2 = 1))) ∧ w = w' := by
  obtain ⟨r, hr⟩ : ∃ r, r = decide (fl / 512 % 2 = 1) := ⟨_, rfl⟩
  have h1 : ((fl : Int) / 512 % 2 == 1) = r := by rw [hr, Bool.eq_iff_iff]; simp; omega
  have h2 : IntKind.u16.wrap ((fl : Int) / 512) = (fl : Int) / 512 := by rw [IntKind.wrap_u16]; omega
  rw [← hr]
  clear hr
  go_enter Tryz.func93, Tryz.ntmps93
  go_wp2
  go_ret
  exact ⟨rfl, rfl⟩
set_option maxRecDepth 100000 in
set_option maxHeartbeats 1000000 in
theorem rlt_at (a b : List UInt8) (w : World) (ha : a.length ≤ 140737488355328) (hb : b.length ≤ 140737488355328) :
    Calls Tryz.prog 167 #[.string ⟨a.toArray⟩, .string ⟨b.toArray⟩] w fun e w' => ∃ z : Int, e = .returned (.int .i64 z) ∧ (z < 0 ↔ Lib.compareBytes a b < 0) ∧ ∃ q, w' = w.drewN q := by
  go_enter Tryz.func167, Tryz.ntmps167
  go_wp2_with fail
  go_loopw [5] (fun i wr => ∃ k q : Nat, k ≤ a.length ∧ k ≤ b.length ∧ i = .int .i64 k ∧ Hid (Lib.compareBytes (a.drop k) (b.drop k) = Lib.compareBytes a b) ∧ wr = w.drewN q) (fun i _ => a.length - (intOf i).toNat)
  case atStart => exact ⟨0, 0, by omega, by omega, rfl, rfl, rfl⟩
  case round =>
    obtain ⟨k, q, hk1, hk2, rfl, HR, hwr⟩ := hrel
    have HW := Lib.hid hwr
    clear hwr
    by_cases hlt : k < a.length ∧ k < b.length
    · obtain ⟨hka, hkb⟩ := hlt
      have ix := fun W => idxStr W a k a[k] (by simp [hka])
      have iy := fun W => idxStr W b k b[k] (by simp [hkb])
      have hs := @Srv.cb_step a b k hka hkb
      have hn := @Srv.cb_ne a b k hka hkb
      rw [HR.out] at hs hn
      generalize a[k] = x at ix hs hn
      generalize b[k] = y at iy hs hn
      have hx1 := x.toNat_lt
      have hy1 := y.toNat_lt
      by_cases hxy : (x.toNat : Int) = (y.toNat : Int)
      · have b1 : ((x.toNat : Int) != (y.toNat : Int)) = false := by simp; omega
        have E := Lib.hid (hs (UInt8.toNat_inj.1 (by omega)))
        clear hs hn hxy
        go_wp2_with fail
        go_quiet (fail)
        go_wp2_with fail
        go_roundw
        case rel => exact ⟨k + 1, q + nq, by omega, by omega, by go_num, E, by rw [HW.out]; simp⟩
        case measure => simp [intOf]; omega
      · have b1 : ((x.toNat : Int) != (y.toNat : Int)) = true := by simp; omega
        have E := Lib.hid (hn (by omega))
        have z1 : IntKind.i64.wrap ((x.toNat : Int) - (y.toNat : Int)) = (x.toNat : Int) - (y.toNat : Int) := by rw [IntKind.wrap_i64]; omega
        have z2 : IntKind.i64.wrap (x.toNat : Int) = (x.toNat : Int) := by rw [IntKind.wrap_i64]; omega
        have z3 : IntKind.i64.wrap (y.toNat : Int) = (y.toNat : Int) := by rw [IntKind.wrap_i64]; omega
        clear hs hn hxy
        go_wp2_with fail
        go_quiet (fail)
        go_wp2_with fail
        go_quiet (fail)
        go_wp2_with fail
        go_ret
        exact ⟨_, rfl, by rw [E.out]; omega, _, by rw [HW.out]; simp; rfl⟩
    · have e := @Srv.cb_end a b k (by omega) hk1 hk2
      rw [HR.out] at e
      have E := Lib.hid e
      clear e
      have z1 : IntKind.i64.wrap ((a.length : Int) - (b.length : Int)) = (a.length : Int) - (b.length : Int) := by rw [IntKind.wrap_i64]; omega
      by_cases hka : k < a.length
      · have hkb : k = b.length := by omega
        subst hkb
        go_wp2
        go_ret
        exact ⟨_, rfl, by rw [E.out]; omega, q, HW.out⟩
      · have hkb : k = a.length := by omega
        subst hkb
        go_wp2
        go_ret
        exact ⟨_, rfl, by rw [E.out]; omega, q, HW.out⟩
set_option maxRecDepth 100000 in
set_option maxHeartbeats 1000000 in
theorem rhost_at (A : Option Addr) (c L : Nat) (n : List (List UInt8)) (r : Bool) (hr : Srv.hostN n = r) (w : World) (B : Nat) (hL : n.length = L) (h : Rd w B A L (sc n)) (hl : L ≤ 140737488355328) (hs : ∀ x ∈ n, x.length ≤ 140737488355328) :
    Calls Tryz.prog 96 #[.slice A L c] w fun e w' => e = .returned (.bool r) ∧ w = w' := by
  have HR := Lib.hid hr
  have HRD := Lib.hid h
  have HL := Lib.hid hL
  have HS := Lib.hid hs
  clear hr h hL hs
  go_enter Tryz.func96, Tryz.ntmps96
  go_wp2_with fail
  go_loopw [3] (fun v wr => ∃ k : Nat, k ≤ L ∧ v = .int .i64 k ∧ Hid ((n.take k).all Srv.hostL = true) ∧ wr = w) (fun v _ => L - (intOf v).toNat)
  case atStart => exact ⟨0, Nat.zero_le _, rfl, Lib.hid (by simp), rfl⟩
  case round =>
    obtain ⟨k, hk, rfl, HT, hwr⟩ := hrel
    subst hwr
    rcases Nat.lt_or_ge k L with hlt | hge
    · obtain ⟨b, o, rfl, hb, hc⟩ := HRD.out.at_ hlt
      have hkn : k < n.length := by rw [HL.out]; exact hlt
      have hcell := hc k _ (sc_get n k hkn)
      obtain ⟨x, hx⟩ : ∃ x, x = n[k] := ⟨_, rfl⟩
      rw [← hx] at hcell
      have hxl : x.length ≤ 140737488355328 := HS.out x (by rw [hx]; exact List.getElem_mem hkn)
      have HX := Lib.hid hx
      have HKN := Lib.hid hkn
      clear hx hc
      obtain ⟨W1, hW1⟩ : ∃ x, x = wr := ⟨wr, rfl⟩
      subst hW1
      go_wp2_with fail
      go_loopw [4] (fun v wx => ∃ j : Nat, j ≤ x.length ∧ v = .int .i64 j ∧ Hid ((x.take j).all Srv.hostB = true) ∧ wx = W1) (fun v _ => x.length - (intOf v).toNat)
      case atStart => exact ⟨0, Nat.zero_le _, rfl, Lib.hid (by simp), rfl⟩
      case round =>
        obtain ⟨j, hj, rfl, HJ, hwx⟩ := hrel
        subst hwx
        rcases Nat.lt_or_ge j x.length with hltj | hgej
        · have ix := fun W => idxStr W x j x[j] (by simp [hltj])
          obtain ⟨u, hu⟩ : ∃ u, u = x[j] := ⟨_, rfl⟩
          rw [← hu] at ix
          have HU := Lib.hid hu
          have hu1 := u.toNat_lt
          clear hu
          by_cases hok : Srv.hostB u = true
          · have HOK := Lib.hid hok
            simp only [Srv.hostB, decide_eq_true_eq] at hok
            go_wp2_with fail
            all_goals first
              | (exfalso; omega)
              | (exfalso; simp only [beq_eq_false_iff_ne, ne_eq] at *; omega)
              | skip
            all_goals clear hok
            all_goals
              go_roundw
              case rel => exact ⟨j + 1, by omega, by go_num, Lib.hid (allS_take _ _ _ hltj HJ.out (by rw [← HU.out]; exact HOK.out)), by trivial⟩
              case measure => simp [intOf]; omega
          · have hob : Srv.hostB u = false := by simpa using hok
            have HOB := Lib.hid hob
            simp only [Srv.hostB, decide_eq_true_eq] at hok
            clear hob
            go_wp2_with fail
            all_goals first
              | (exfalso; omega)
              | (exfalso; simp only [beq_iff_eq] at *; omega)
              | skip
            all_goals clear hok
            all_goals go_ret
            all_goals exact ⟨ret_bool (by
              rw [← HR.out, Srv.hostN, allS_not _ _ k hkn]
              rw [← HX.out]
              exact allS_not _ _ j hltj (by rw [← HU.out]; exact HOB.out)), rfl⟩
        · have : j = x.length := by omega
          subst this
          have hx1 : Srv.hostL x = true := by rw [Srv.hostL]; have := HJ.out; rwa [List.take_length] at this
          have HX1 := Lib.hid hx1
          clear hx1
          go_wp2_with fail
          go_roundw
          case rel => exact ⟨k + 1, by omega, by go_num, Lib.hid (allS_take _ _ _ hkn HT.out (by rw [← HX.out]; exact HX1.out)), by trivial⟩
          case measure => simp [intOf]; omega
    · have : k = L := by omega
      subst this
      go_wp2_with fail
      go_ret
      exact ⟨ret_bool (by rw [← HR.out, Srv.hostN]; have := HT.out; rw [List.take_of_length_le (by rw [HL.out]; exact Nat.le_refl _)] at this; exact this.symm), rfl⟩
theorem grow2N (w : World) (a b : Obj) (q : Nat) : ((w.alloc a).alloc b).drewN q = Sort.grow (w.drewN q) #[a, b] := by
  rw [Sort.alloc_eq_grow, Sort.alloc_eq_grow, Sort.grow_grow]
  rfl
set_option maxRecDepth 100000 in
set_option maxHeartbeats 1000000 in
theorem rbefore_at (x y : Ad) (w : World) (hx : x.h.length ≤ 140737488355328) (hy : y.h.length ≤ 140737488355328) :
    Calls Tryz.prog 138 #[.agg x.cells.toArray, .agg y.cells.toArray] w fun e w' => e = .returned (.bool (decide (Srv.cmpA x y < 0))) ∧ ∃ q os, w' = Sort.grow (w.drewN q) os := by
  obtain ⟨r, hr⟩ : ∃ r, r = decide (Srv.cmpA x y < 0) := ⟨_, rfl⟩
  have h1 := @Srv.lt_pr x y
  have h2 := @Srv.lt_we x y
  have h3 := @Srv.lt_h x y
  have h4 := @Srv.lt_po x y
  have h5 := @Srv.lt_ttl x y
  have hi : Srv.cmpA x y < 0 ↔ r = true := by rw [hr]; simp
  rw [hi] at h1 h2 h3 h4 h5
  rw [← hr]
  clear hr hi
  obtain ⟨xh, xpo, xpr, xwe, xttl⟩ := x
  obtain ⟨yh, ypo, ypr, ywe, yttl⟩ := y
  have K := Lib.hid (fun W => rlt_at xh yh W hx hy)
  unfold Ad.cells strV
  dsimp only at h1 h2 h3 h4 h5 ⊢
  clear hx hy
  by_cases e1 : xpr = ypr
  · subst e1
    by_cases e2 : xwe = ywe
    · subst e2
      by_cases e3 : xh = yh
      · subst e3
        by_cases e4 : xpo = ypo
        · subst e4
          have hR : decide (xttl < yttl) = r := by rw [Bool.eq_iff_iff, h5 rfl rfl rfl rfl]; simp
          clear h1 h2 h3 h4 h5
          go_enter Tryz.func138, Tryz.ntmps138
          go_wp2_with fail
          go_ret
          exact ⟨rfl, 0, #[_, _], grow2N _ _ _ 0⟩
        · have hR : decide (xpo < ypo) = r := by rw [Bool.eq_iff_iff, h4 rfl rfl rfl e4]; simp
          have hN : (xpo != ypo) = true := by simpa using e4
          clear h1 h2 h3 h4 h5 e4
          go_enter Tryz.func138, Tryz.ntmps138
          go_wp2_with fail
          go_ret
          exact ⟨rfl, 0, #[_, _], grow2N _ _ _ 0⟩
      · have hN : (xh != yh) = true := by simpa using e3
        have hN2 : (xh == yh) = false := by simpa using e3
        have HZ := Lib.hid (h3 rfl rfl e3)
        clear h1 h2 h3 h4 h5 e3
        go_enter Tryz.func138, Tryz.ntmps138
        go_wp2_with (go_at_call 167
                     refine (K.out _).mono ?_
                     rintro e w2 ⟨z, rfl, hz, q, rfl⟩
                     have hR : decide (z < 0) = r := by rw [Bool.eq_iff_iff, HZ.out, ← hz]; simp
                     clear hz)
        go_ret
        exact ⟨rfl, q, #[_, _], grow2N _ _ _ q⟩
    · have hR : decide (ywe < xwe) = r := by rw [Bool.eq_iff_iff, h2 rfl e2]; simp
      have hN : (xwe != ywe) = true := by simpa using e2
      clear h1 h2 h3 h4 h5 e2
      go_enter Tryz.func138, Tryz.ntmps138
      go_wp2_with fail
      go_ret
      exact ⟨rfl, 0, #[_, _], grow2N _ _ _ 0⟩
  · have hR : decide (xpr < ypr) = r := by rw [Bool.eq_iff_iff, h1 e1]; simp
    have hN : (xpr != ypr) = true := by simpa using e1
    clear h1 h2 h3 h4 h5 e1
    go_enter Tryz.func138, Tryz.ntmps138
    go_wp2_with fail
    go_ret
    exact ⟨rfl, 0, #[_, _], grow2N _ _ _ 0⟩
end Go.Proofs.YtlipmlbijddopaaGreatDoor
set_option linter.unusedVariables false
set_option linter.unusedSimpArgs false
namespace Go.Proofs.YtlipmlbijddopaaGreatDoor
open Go.RowKit
/-! ### one more is put in order -/
theorem Tryz.infoB : (Tryz.prog.info? 102).map (fun i => (i.zero, i.size, i.bytes)) = some (some (.agg zA.cells.toArray), 5, 48) := by kernel_rfl
set_option maxRecDepth 100000 in
set_option maxHeartbeats 8000000 in
theorem rput_at (A : Option Addr) (c n : Nat) (l : List Ad) (a : Ad) (w : World) (h : AsRd w w.heap.size A c n l) (ha : a.h.length ≤ 140737488351232) (hn1 : n ≤ 1000000000000) :
    Calls Tryz.prog 98 #[.slice A n c, .agg a.cells.toArray] w fun e w' => ∃ v, e = .returned v ∧ OwM w' w.heap.size 102 5 v (Srv.putA a false l).length (acs (Srv.putA a false l)) ∧ Below w.heap.size w w' := by
  obtain ⟨j0, hj', hy0, hy1, hy2⟩ := info_parts Tryz.infoB
  have H := Lib.hid h
  have HLN := Lib.hid h.2.1
  have HOKS := Lib.hid h.2.2.2.2
  have KB := Lib.hid (fun (x : Ad) (hx : x.h.length ≤ 140737488355328) W => rbefore_at a x W (by omega) hx)
  have HSK := Lib.hid (fun (x : Ad) (q : List Ad) => @Srv.rest_skip a x q)
  have HSF := Lib.hid (fun (x : Ad) (q : List Ad) => @Srv.rest_first a x q)
  have HSO := Lib.hid (fun (x : Ad) (th : Bool) (q : List Ad) => @Srv.rest_other a x th q)
  have HPT := Lib.hid (fun (x : Ad) (q : List Ad) => Srv.putA_true_c a x q)
  have HPL := Lib.hid (fun (x : Ad) (q : List Ad) => @Srv.putA_lt_c a x q)
  have HPG := Lib.hid (fun (x : Ad) (q : List Ad) => @Srv.putA_ge_c a x q)
  have HPN := Lib.hid (show ∀ th, Srv.putA a th [] = if th = true then [] else [a] from fun th => by unfold Srv.putA; rfl)
  obtain ⟨P, hP⟩ : ∃ P : Bool → List Ad → List Ad, P = Srv.putA a := ⟨_, rfl⟩
  obtain ⟨R, hR⟩ : ∃ R : Bool → Ad → List Ad → List Ad, R = Srv.restA a := ⟨_, rfl⟩
  obtain ⟨C, hC⟩ : ∃ C : Ad → Int, C = Srv.cmpA a := ⟨_, rfl⟩
  have HPLA := Lib.hid (show ∀ x, Srv.plA x a = (decide (x.h = a.h) && decide (x.po = a.po)) from fun x => rfl)
  rw [← hP, ← hR] at HSK HSF HSO
  rw [← hP, ← hR] at HPT
  rw [← hP, ← hR, ← hC] at HPL HPG
  rw [← hP] at HPN
  rw [← hC] at KB
  rw [← hP]
  clear h hP hR hC
  have mixed : Tryz.prog.follows .mixedOrders = true := by kernel_rfl
  have hb1 := bl_new w (.cells a.cells.toArray 102)
  have hv1 := Vx.new w 102 a.cells
  have H1 := Lib.hid (H.out.goes hb1)
  have HB1 := Lib.hid hb1
  have HV1 := Lib.hid hv1
  clear hb1 hv1 H
  obtain ⟨ah, apo, apr, awe, attl⟩ := a
  unfold Ad.cells strV
  dsimp only at ha HPLA ⊢
  go_enter Tryz.func98, Tryz.ntmps98
  go_wp2_with fail
  have e1 : w.alloc (.cells #[.string ⟨ah.toArray⟩, .int .i64 apo, .int .i64 apr, .int .i64 awe, .int .u32 (attl : Int)] 102) = w.alloc (.cells (Ad.cells ⟨ah, apo, apr, awe, attl⟩).toArray 102) := rfl
  rw [e1]
  obtain ⟨GA, hGA⟩ : ∃ G, G = w.heap.size := ⟨_, rfl⟩
  have hGa : w.heap.size ≤ GA := by omega
  have hw1s : (w.alloc (.cells (Ad.cells ⟨ah, apo, apr, awe, attl⟩).toArray 102)).heap.size ≤ GA + 1 := by simp; omega
  rw [← hGA] at HV1 ⊢
  generalize w.alloc (.cells (Ad.cells ⟨ah, apo, apr, awe, attl⟩).toArray 102) = w1 at H1 HB1 HV1 hw1s ⊢
  have hw1G : w1.heap.size ≤ GA + 1 := hw1s
  clear hw1s
  clear e1 hGA
  go_loopw [5, 6, 7] (fun v5 v6 v7 wr => ∃ (k m : Nat) (th : Bool) (out : List Ad), k ≤ n ∧ m ≤ 2 * k ∧ v7 = .int .i64 k ∧ v6 = .bool th ∧ Hid (out.length = m) ∧ Hid (OwM wr (GA + 1) 102 5 v5 m (acs out)) ∧ Hid (P false l = out ++ P th (l.drop k)) ∧ Hid (Below w1.heap.size w1 wr)) (fun _ _ v7 _ => n - (intOf v7).toNat)
  case atStart => exact ⟨0, 0, false, [], Nat.zero_le _, Nat.le_refl _, rfl, rfl, Lib.hid rfl, Lib.hid (OwM.nil _ _ _ _), Lib.hid rfl, Lib.hid (Below.refl _ _)⟩
  case round =>
    obtain ⟨k, m, th, out, hk, hm, rfl, rfl, HM, HO, HP, HB⟩ := hrel
    have hszr := HB.out.size
    have HVr := Lib.hid (HV1.out.below HB.out HV1.out.lt)
    have hGAr := HVr.out.lt
    have hG1 : GA + 1 ≤ wr.heap.size := hGAr
    obtain ⟨Ar, cr, rfl, _, _, _⟩ := HO.out.form
    rcases Nat.lt_or_ge k n with hlt | hge
    · have hkl : k < l.length := by rw [HLN.out]; exact hlt
      obtain ⟨b, o, rfl, hb, hc⟩ := H1.out.at_ hlt
      have hf0 := hc hkl
      have hf := hf0.below HB.out hb
      have hbr : b < wr.heap.size := Nat.lt_of_lt_of_le hb hszr
      have hdr := List.drop_eq_getElem_cons hkl
      have hxh := (HOKS.out l[k] (List.getElem_mem hkl)).h
      obtain ⟨x, hx⟩ : ∃ x, x = l[k] := ⟨_, rfl⟩
      rw [← hx] at hf hf0 hdr hxh
      have HF0 := Lib.hid hf0
      clear hf0
      have hp := HP.out
      rw [hdr] at hp
      have KX := Lib.hid (KB.out x (by omega))
      clear hx hc hdr
      obtain ⟨D, hD⟩ : ∃ D, D = l.drop (k + 1) := ⟨_, rfl⟩
      rw [← hD] at hp
      have HD := Lib.hid hD
      obtain ⟨lt, hlt2⟩ : ∃ b, b = decide (C x < 0) := ⟨_, rfl⟩
      rw [← hlt2] at KX
      have hpl := HPLA.out x
      obtain ⟨pl, hple⟩ : ∃ p, p = Srv.plA x ⟨ah, apo, apr, awe, attl⟩ := ⟨_, rfl⟩
      rw [← hple] at hpl
      have HSKx := Lib.hid (HSK.out x D)
      have HSFx := Lib.hid (HSF.out x D)
      have HSOx := Lib.hid (fun t => HSO.out x t D)
      rw [← hple] at HSKx HSFx HSOx
      have HPTx := Lib.hid (HPT.out x D)
      have HPLx := Lib.hid (show lt = true → _ from fun e => HPL.out x D (of_decide_eq_true (hlt2.symm.trans e)))
      have HPGx := Lib.hid (show lt = false → _ from fun e => HPG.out x D (by have := of_decide_eq_false (hlt2.symm.trans e); omega))
      have HPH := Lib.hid hp
      clear hlt2 hple hp hD HSK HSF HSO HPT HPL HPG HP
      obtain ⟨xh, xpo, xpr, xwe, xttl⟩ := x
      dsimp only at hpl hxh
      obtain ⟨b1, hb1⟩ : ∃ b1, b1 = decide (xh = ah) := ⟨_, rfl⟩
      obtain ⟨b2, hb2⟩ : ∃ b2, b2 = decide (xpo = apo) := ⟨_, rfl⟩
      rw [← hb1, ← hb2] at hpl
      have q1 : (xh == ah) = b1 := by rw [hb1, Bool.eq_iff_iff]; simp
      have q2 : (xpo == apo) = b2 := by rw [hb2, Bool.eq_iff_iff]; simp
      have HPLB := Lib.hid hpl
      have HQ1 := Lib.hid q1
      have HQ2 := Lib.hid q2
      clear hb1 hb2 hpl q1 q2
      have HF := Lib.hid hf
      have HFB : Hid (∀ w', Below w1.heap.size w1 w' → Five w' b (o + k * 5) ⟨xh, xpo, xpr, xwe, xttl⟩) := Lib.hid (fun w' hw => (HF0.out).below hw hb)
      clear hf HF0
      cases th
      · obtain ⟨c0_, c1_, c2_, c3_, c4_⟩ := HF.out.cells
        obtain ⟨d0_, d1_, d2_, d3_, d4_⟩ := HVr.out.c5
        dsimp only at c0_ c1_ c2_ c3_ c4_ d0_ d1_ d2_ d3_ d4_
        unfold strV at d0_
        have c0' := fun n os => cell_grown (w := wr) hbr c0_ n os
        have c1' := fun n os => cell_grown (w := wr) hbr c1_ n os
        have c2' := fun n os => cell_grown (w := wr) hbr c2_ n os
        have c3' := fun n os => cell_grown (w := wr) hbr c3_ n os
        have c4' := fun n os => cell_grown (w := wr) hbr c4_ n os
        have d0' := fun n os => cell_grown (w := wr) hGAr d0_ n os
        have d1' := fun n os => cell_grown (w := wr) hGAr d1_ n os
        have d2' := fun n os => cell_grown (w := wr) hGAr d2_ n os
        have d3' := fun n os => cell_grown (w := wr) hGAr d3_ n os
        have d4' := fun n os => cell_grown (w := wr) hGAr d4_ n os
        clear c0_ c1_ c2_ c3_ c4_ d0_ d1_ d2_ d3_ d4_
        go_wp2_with fail
        go_quiet_grown ((go_at_call 138; exact Calls.grown_of (KX.out _)))
        have hgb := below_grow wr nq osq (Nat.le_refl _)
        have HO2 := Lib.hid (HO.out.far hgb)
        have HB2 := Lib.hid (HB.out.trans (hgb.mono hszr))
        generalize Sort.grow (wr.drewN nq) osq = w2 at HO2 HB2 ⊢
        clear hgb c0' c1' c2' c3' c4' d0' d1' d2' d3' d4' HO HB HVr HF KX hbr hGAr hszr hG1
        have HV2 := Lib.hid (HV1.out.below HB2.out HV1.out.lt)
        have hsz2 := HB2.out.size
        have hGA2 : GA + 1 ≤ w2.heap.size := HV2.out.lt
        cases lt
        · have HPP : Hid (P false l = out ++ R false ⟨xh, xpo, xpr, xwe, xttl⟩ D) := Lib.hid (by rw [HPH.out, HPGx.out rfl])
          go_upto_region 9 with fail
          have hm4 : m ≤ 2 * k + 1 := by omega
          have HM4 := HM
          have HO4 := HO2
          have HB4 := HB2
          obtain ⟨w4, hw4⟩ : ∃ x, x = w2 := ⟨_, rfl⟩
          subst hw4
          obtain ⟨out4, ho4⟩ : ∃ x, x = out := ⟨_, rfl⟩
          subst ho4
          obtain ⟨m4, hm4e⟩ : ∃ x, x = m := ⟨_, rfl⟩
          subst hm4e
          obtain ⟨A4, hA4⟩ : ∃ x, x = Ar := ⟨_, rfl⟩
          subst hA4
          obtain ⟨c4, hc4⟩ : ∃ x, x = cr := ⟨_, rfl⟩
          subst hc4
          have HV4 := Lib.hid (HV1.out.below HB4.out HV1.out.lt)
          have hsz4 := HB4.out.size
          have hGA4 : GA + 1 ≤ w4.heap.size := HV4.out.lt
          obtain ⟨c0_, c1_, c2_, c3_, c4_⟩ := (HFB.out w4 HB4.out).cells
          obtain ⟨d0_, d1_, d2_, d3_, d4_⟩ := HV4.out.c5
          unfold strV at d0_
          dsimp only at c0_ c1_ c2_ c3_ c4_ d0_ d1_ d2_ d3_ d4_
          cases b1
          · have HPLE : Hid (pl = false) := Lib.hid (by rw [HPLB.out, Bool.false_and])
            have q1 := HQ1.out
            go_quiet (fail)
            have HO5 := Lib.hid (OwM.drewN HO4.out nq)
            have HB5 := Lib.hid (bl_drewN HB4.out nq)
            obtain ⟨e0_, e1_, e2_, e3_, e4_⟩ := (HFB.out _ HB5.out).cells
            have hGA5 : GA + 1 ≤ (w4.drewN nq).heap.size := hGA4
            dsimp only at e0_ e1_ e2_ e3_ e4_
            generalize w4.drewN nq = w5 at HO5 HB5 e0_ e1_ e2_ e3_ e4_ hGA5 ⊢
            have hsz5 := HB5.out.size
            go_wp2_with (at_builtin
                         refine wpList_appM _ rfl _ _ _ _ rfl (GA + 1) 5 102 j0 (.agg zA.cells.toArray) 48 Tryz.underlying93 hj' hy0 hy1 hy2 rfl (by omega) (.slice A4 m4 c4) m4 (acs out4) (HO5.out.alloc _) rfl 1 (Ad.cells ⟨xh, xpo, xpr, xwe, xttl⟩) (srcA Tryz.underlying93 102 5 _ 1 rfl (acells_one _) (by simp)) (by omega) (by simp; omega) ?_
                         intro v6 w6 ho6 hg6 hz6
                         obtain ⟨A6, c6, rfl, _, _, _⟩ := ho6.form
                         rw [← acs_snoc] at ho6
                         have HO6 := Lib.hid ho6
                         clear ho6)
            go_roundw
            case rel => exact ⟨k + 1, m4 + 1, false, out4 ++ [⟨xh, xpo, xpr, xwe, xttl⟩], by omega, by omega, by go_num, rfl, Lib.hid (by rw [List.length_append, HM4.out]; rfl), HO6, Lib.hid (by rw [HPP.out, HSOx.out false HPLE.out, HD.out]; simp), Lib.hid ((HB5.out.alloc hsz5 _).trans (hg6.below (fun g hg => (show w1.heap.size ≤ g from Nat.le_trans hw1G (OwM.lt HO5.out g hg))) (by simp; omega)))⟩
            case measure => simp [intOf]; omega
          · cases b2
            · have HPLE : Hid (pl = false) := Lib.hid (by rw [HPLB.out]; rfl)
              have q1 := HQ1.out
              have q2 := HQ2.out
              go_quiet (fail)
              have HO5 := Lib.hid (OwM.drewN HO4.out nq)
              have HB5 := Lib.hid (bl_drewN HB4.out nq)
              obtain ⟨e0_, e1_, e2_, e3_, e4_⟩ := (HFB.out _ HB5.out).cells
              have hGA5 : GA + 1 ≤ (w4.drewN nq).heap.size := hGA4
              dsimp only at e0_ e1_ e2_ e3_ e4_
              generalize w4.drewN nq = w5 at HO5 HB5 e0_ e1_ e2_ e3_ e4_ hGA5 ⊢
              have hsz5 := HB5.out.size
              go_wp2_with (at_builtin
                           refine wpList_appM _ rfl _ _ _ _ rfl (GA + 1) 5 102 j0 (.agg zA.cells.toArray) 48 Tryz.underlying93 hj' hy0 hy1 hy2 rfl (by omega) (.slice A4 m4 c4) m4 (acs out4) (HO5.out.alloc _) rfl 1 (Ad.cells ⟨xh, xpo, xpr, xwe, xttl⟩) (srcA Tryz.underlying93 102 5 _ 1 rfl (acells_one _) (by simp)) (by omega) (by simp; omega) ?_
                           intro v6 w6 ho6 hg6 hz6
                           obtain ⟨A6, c6, rfl, _, _, _⟩ := ho6.form
                           rw [← acs_snoc] at ho6
                           have HO6 := Lib.hid ho6
                           clear ho6)
              go_roundw
              case rel => exact ⟨k + 1, m4 + 1, false, out4 ++ [⟨xh, xpo, xpr, xwe, xttl⟩], by omega, by omega, by go_num, rfl, Lib.hid (by rw [List.length_append, HM4.out]; rfl), HO6, Lib.hid (by rw [HPP.out, HSOx.out false HPLE.out, HD.out]; simp), Lib.hid ((HB5.out.alloc hsz5 _).trans (hg6.below (fun g hg => (show w1.heap.size ≤ g from Nat.le_trans hw1G (OwM.lt HO5.out g hg))) (by simp; omega)))⟩
              case measure => simp [intOf]; omega
            · have HPLE : Hid (pl = true) := Lib.hid (by rw [HPLB.out]; rfl)
              have q1 := HQ1.out
              have q2 := HQ2.out
              go_quiet (fail)
              have HO5 := Lib.hid (OwM.drewN HO4.out nq)
              have HB5 := Lib.hid (bl_drewN HB4.out nq)
              obtain ⟨e0_, e1_, e2_, e3_, e4_⟩ := (HFB.out _ HB5.out).cells
              have hGA5 : GA + 1 ≤ (w4.drewN nq).heap.size := hGA4
              dsimp only at e0_ e1_ e2_ e3_ e4_
              generalize w4.drewN nq = w5 at HO5 HB5 e0_ e1_ e2_ e3_ e4_ hGA5 ⊢
              have hsz5 := HB5.out.size
              go_wp2_with (at_builtin
                           refine wpList_appM _ rfl _ _ _ _ rfl (GA + 1) 5 102 j0 (.agg zA.cells.toArray) 48 Tryz.underlying93 hj' hy0 hy1 hy2 rfl (by omega) (.slice A4 m4 c4) m4 (acs out4) (HO5.out.alloc _) rfl 1 (Ad.cells ⟨xh, xpo, xpr, xwe, xttl⟩) (srcA Tryz.underlying93 102 5 _ 1 rfl (acells_one _) (by simp)) (by omega) (by simp; omega) ?_
                           intro v6 w6 ho6 hg6 hz6
                           obtain ⟨A6, c6, rfl, _, _, _⟩ := ho6.form
                           rw [← acs_snoc] at ho6
                           have HO6 := Lib.hid ho6
                           clear ho6)
              go_roundw
              case rel => exact ⟨k + 1, m4 + 1, true, out4 ++ [⟨xh, xpo, xpr, xwe, xttl⟩], by omega, by omega, by go_num, rfl, Lib.hid (by rw [List.length_append, HM4.out]; rfl), HO6, Lib.hid (by rw [HPP.out, HSFx.out HPLE.out, HD.out]; simp), Lib.hid ((HB5.out.alloc hsz5 _).trans (hg6.below (fun g hg => (show w1.heap.size ≤ g from Nat.le_trans hw1G (OwM.lt HO5.out g hg))) (by simp; omega)))⟩
              case measure => simp [intOf]; omega
        · have HPP : Hid (P false l = (out ++ [⟨ah, apo, apr, awe, attl⟩]) ++ R true ⟨xh, xpo, xpr, xwe, xttl⟩ D) := Lib.hid (by rw [HPH.out, HPLx.out rfl]; simp)
          obtain ⟨e0_, e1_, e2_, e3_, e4_⟩ := HV2.out.c5
          unfold strV at e0_
          dsimp only at e0_ e1_ e2_ e3_ e4_
          go_upto_region 9 with (at_builtin
                                 refine wpList_appM _ rfl _ _ _ _ rfl (GA + 1) 5 102 j0 (.agg zA.cells.toArray) 48 Tryz.underlying93 hj' hy0 hy1 hy2 rfl (by omega) (.slice Ar m cr) m (acs out) (HO2.out.alloc _) rfl 1 (Ad.cells ⟨ah, apo, apr, awe, attl⟩) (srcA Tryz.underlying93 102 5 _ 1 rfl (acells_one _) (by simp)) (by omega) (by simp; omega) ?_
                                 intro v6 w6 ho6 hg6 hz6
                                 obtain ⟨A6, c6, rfl, _, _, _⟩ := ho6.form
                                 rw [← acs_snoc] at ho6
                                 have HO6 := Lib.hid ho6
                                 clear ho6)
          have HB4 : Hid (Below w1.heap.size w1 w6) := Lib.hid ((HB2.out.alloc hsz2 _).trans (hg6.below (fun g hg => (show w1.heap.size ≤ g from Nat.le_trans hw1G (OwM.lt HO2.out g hg))) (by simp; omega)))
          have HM4 : Hid ((out ++ [(⟨ah, apo, apr, awe, attl⟩ : Ad)]).length = m + 1) := Lib.hid (by rw [List.length_append, HM.out]; rfl)
          have hm4 : m + 1 ≤ 2 * k + 1 := by omega
          have HO4 := HO6
          clear HO6 hg6 hz6 e0_ e1_ e2_ e3_ e4_ HV2 hsz2 HB2 HO2 hGA2
          obtain ⟨out4, hout4⟩ : ∃ x, x = out ++ [(⟨ah, apo, apr, awe, attl⟩ : Ad)] := ⟨_, rfl⟩
          rw [← hout4] at HO4 HM4 HPP
          clear hout4 HM hm HPH HPLx
          generalize m + 1 = m4 at HO4 HM4 hm4 ⊢
          obtain ⟨w4, hw4⟩ : ∃ x, x = w6 := ⟨_, rfl⟩
          subst hw4
          obtain ⟨A4, hA4⟩ : ∃ x, x = A6 := ⟨_, rfl⟩
          subst hA4
          obtain ⟨c4, hc4⟩ : ∃ x, x = c6 := ⟨_, rfl⟩
          subst hc4
          have HV4 := Lib.hid (HV1.out.below HB4.out HV1.out.lt)
          have hsz4 := HB4.out.size
          have hGA4 : GA + 1 ≤ w4.heap.size := HV4.out.lt
          obtain ⟨c0_, c1_, c2_, c3_, c4_⟩ := (HFB.out w4 HB4.out).cells
          obtain ⟨d0_, d1_, d2_, d3_, d4_⟩ := HV4.out.c5
          unfold strV at d0_
          dsimp only at c0_ c1_ c2_ c3_ c4_ d0_ d1_ d2_ d3_ d4_
          cases b1
          · have HPLE : Hid (pl = false) := Lib.hid (by rw [HPLB.out, Bool.false_and])
            have q1 := HQ1.out
            go_quiet (fail)
            have HO5 := Lib.hid (OwM.drewN HO4.out nq)
            have HB5 := Lib.hid (bl_drewN HB4.out nq)
            obtain ⟨e0_, e1_, e2_, e3_, e4_⟩ := (HFB.out _ HB5.out).cells
            have hGA5 : GA + 1 ≤ (w4.drewN nq).heap.size := hGA4
            dsimp only at e0_ e1_ e2_ e3_ e4_
            generalize w4.drewN nq = w5 at HO5 HB5 e0_ e1_ e2_ e3_ e4_ hGA5 ⊢
            have hsz5 := HB5.out.size
            go_wp2_with (at_builtin
                         refine wpList_appM _ rfl _ _ _ _ rfl (GA + 1) 5 102 j0 (.agg zA.cells.toArray) 48 Tryz.underlying93 hj' hy0 hy1 hy2 rfl (by omega) (.slice A4 m4 c4) m4 (acs out4) (HO5.out.alloc _) rfl 1 (Ad.cells ⟨xh, xpo, xpr, xwe, xttl⟩) (srcA Tryz.underlying93 102 5 _ 1 rfl (acells_one _) (by simp)) (by omega) (by simp; omega) ?_
                         intro v6 w6 ho6 hg6 hz6
                         obtain ⟨A6, c6, rfl, _, _, _⟩ := ho6.form
                         rw [← acs_snoc] at ho6
                         have HO6 := Lib.hid ho6
                         clear ho6)
            go_roundw
            case rel => exact ⟨k + 1, m4 + 1, true, out4 ++ [⟨xh, xpo, xpr, xwe, xttl⟩], by omega, by omega, by go_num, rfl, Lib.hid (by rw [List.length_append, HM4.out]; rfl), HO6, Lib.hid (by rw [HPP.out, HSOx.out true HPLE.out, HD.out]; simp), Lib.hid ((HB5.out.alloc hsz5 _).trans (hg6.below (fun g hg => (show w1.heap.size ≤ g from Nat.le_trans hw1G (OwM.lt HO5.out g hg))) (by simp; omega)))⟩
            case measure => simp [intOf]; omega
          · cases b2
            · have HPLE : Hid (pl = false) := Lib.hid (by rw [HPLB.out]; rfl)
              have q1 := HQ1.out
              have q2 := HQ2.out
              go_quiet (fail)
              have HO5 := Lib.hid (OwM.drewN HO4.out nq)
              have HB5 := Lib.hid (bl_drewN HB4.out nq)
              obtain ⟨e0_, e1_, e2_, e3_, e4_⟩ := (HFB.out _ HB5.out).cells
              have hGA5 : GA + 1 ≤ (w4.drewN nq).heap.size := hGA4
              dsimp only at e0_ e1_ e2_ e3_ e4_
              generalize w4.drewN nq = w5 at HO5 HB5 e0_ e1_ e2_ e3_ e4_ hGA5 ⊢
              have hsz5 := HB5.out.size
              go_wp2_with (at_builtin
                           refine wpList_appM _ rfl _ _ _ _ rfl (GA + 1) 5 102 j0 (.agg zA.cells.toArray) 48 Tryz.underlying93 hj' hy0 hy1 hy2 rfl (by omega) (.slice A4 m4 c4) m4 (acs out4) (HO5.out.alloc _) rfl 1 (Ad.cells ⟨xh, xpo, xpr, xwe, xttl⟩) (srcA Tryz.underlying93 102 5 _ 1 rfl (acells_one _) (by simp)) (by omega) (by simp; omega) ?_
                           intro v6 w6 ho6 hg6 hz6
                           obtain ⟨A6, c6, rfl, _, _, _⟩ := ho6.form
                           rw [← acs_snoc] at ho6
                           have HO6 := Lib.hid ho6
                           clear ho6)
              go_roundw
              case rel => exact ⟨k + 1, m4 + 1, true, out4 ++ [⟨xh, xpo, xpr, xwe, xttl⟩], by omega, by omega, by go_num, rfl, Lib.hid (by rw [List.length_append, HM4.out]; rfl), HO6, Lib.hid (by rw [HPP.out, HSOx.out true HPLE.out, HD.out]; simp), Lib.hid ((HB5.out.alloc hsz5 _).trans (hg6.below (fun g hg => (show w1.heap.size ≤ g from Nat.le_trans hw1G (OwM.lt HO5.out g hg))) (by simp; omega)))⟩
              case measure => simp [intOf]; omega
            · have HPLE : Hid (pl = true) := Lib.hid (by rw [HPLB.out]; rfl)
              have q1 := HQ1.out
              have q2 := HQ2.out
              go_quiet (fail)
              go_wp2_with fail
              go_roundw
              case rel => exact ⟨k + 1, m4, true, out4, by omega, by omega, by go_num, rfl, HM4, Lib.hid (OwM.drewN HO4.out nq), Lib.hid (by rw [HPP.out, HSKx.out HPLE.out, HD.out]), Lib.hid (bl_drewN HB4.out nq)⟩
              case measure => simp [intOf]; omega
      · have HPP : Hid (P false l = out ++ R true ⟨xh, xpo, xpr, xwe, xttl⟩ D) := Lib.hid (by rw [HPH.out, HPTx.out])
        go_wp2_with fail
        go_quiet (fail)
        go_upto_region 9 with fail
        have hm4 : m ≤ 2 * k + 1 := by omega
        have HM4 := HM
        have HO4 := Lib.hid (OwM.drewN HO.out nq)
        have HB4 := Lib.hid (bl_drewN HB.out nq)
        generalize wr.drewN nq = w4 at HO4 HB4 ⊢
        clear HO HB HVr HF KX hbr hGAr hszr hG1 nq
        obtain ⟨out4, ho4⟩ : ∃ x, x = out := ⟨_, rfl⟩
        subst ho4
        obtain ⟨m4, hm4e⟩ : ∃ x, x = m := ⟨_, rfl⟩
        subst hm4e
        obtain ⟨A4, hA4⟩ : ∃ x, x = Ar := ⟨_, rfl⟩
        subst hA4
        obtain ⟨c4, hc4⟩ : ∃ x, x = cr := ⟨_, rfl⟩
        subst hc4
        have HV4 := Lib.hid (HV1.out.below HB4.out HV1.out.lt)
        have hsz4 := HB4.out.size
        have hGA4 : GA + 1 ≤ w4.heap.size := HV4.out.lt
        obtain ⟨c0_, c1_, c2_, c3_, c4_⟩ := (HFB.out w4 HB4.out).cells
        obtain ⟨d0_, d1_, d2_, d3_, d4_⟩ := HV4.out.c5
        unfold strV at d0_
        dsimp only at c0_ c1_ c2_ c3_ c4_ d0_ d1_ d2_ d3_ d4_
        cases b1
        · have HPLE : Hid (pl = false) := Lib.hid (by rw [HPLB.out, Bool.false_and])
          have q1 := HQ1.out
          go_quiet (fail)
          have HO5 := Lib.hid (OwM.drewN HO4.out nq)
          have HB5 := Lib.hid (bl_drewN HB4.out nq)
          obtain ⟨e0_, e1_, e2_, e3_, e4_⟩ := (HFB.out _ HB5.out).cells
          have hGA5 : GA + 1 ≤ (w4.drewN nq).heap.size := hGA4
          dsimp only at e0_ e1_ e2_ e3_ e4_
          generalize w4.drewN nq = w5 at HO5 HB5 e0_ e1_ e2_ e3_ e4_ hGA5 ⊢
          have hsz5 := HB5.out.size
          go_wp2_with (at_builtin
                       refine wpList_appM _ rfl _ _ _ _ rfl (GA + 1) 5 102 j0 (.agg zA.cells.toArray) 48 Tryz.underlying93 hj' hy0 hy1 hy2 rfl (by omega) (.slice A4 m4 c4) m4 (acs out4) (HO5.out.alloc _) rfl 1 (Ad.cells ⟨xh, xpo, xpr, xwe, xttl⟩) (srcA Tryz.underlying93 102 5 _ 1 rfl (acells_one _) (by simp)) (by omega) (by simp; omega) ?_
                       intro v6 w6 ho6 hg6 hz6
                       obtain ⟨A6, c6, rfl, _, _, _⟩ := ho6.form
                       rw [← acs_snoc] at ho6
                       have HO6 := Lib.hid ho6
                       clear ho6)
          go_roundw
          case rel => exact ⟨k + 1, m4 + 1, true, out4 ++ [⟨xh, xpo, xpr, xwe, xttl⟩], by omega, by omega, by go_num, rfl, Lib.hid (by rw [List.length_append, HM4.out]; rfl), HO6, Lib.hid (by rw [HPP.out, HSOx.out true HPLE.out, HD.out]; simp), Lib.hid ((HB5.out.alloc hsz5 _).trans (hg6.below (fun g hg => (show w1.heap.size ≤ g from Nat.le_trans hw1G (OwM.lt HO5.out g hg))) (by simp; omega)))⟩
          case measure => simp [intOf]; omega
        · cases b2
          · have HPLE : Hid (pl = false) := Lib.hid (by rw [HPLB.out]; rfl)
            have q1 := HQ1.out
            have q2 := HQ2.out
            go_quiet (fail)
            have HO5 := Lib.hid (OwM.drewN HO4.out nq)
            have HB5 := Lib.hid (bl_drewN HB4.out nq)
            obtain ⟨e0_, e1_, e2_, e3_, e4_⟩ := (HFB.out _ HB5.out).cells
            have hGA5 : GA + 1 ≤ (w4.drewN nq).heap.size := hGA4
            dsimp only at e0_ e1_ e2_ e3_ e4_
            generalize w4.drewN nq = w5 at HO5 HB5 e0_ e1_ e2_ e3_ e4_ hGA5 ⊢
            have hsz5 := HB5.out.size
            go_wp2_with (at_builtin
                         refine wpList_appM _ rfl _ _ _ _ rfl (GA + 1) 5 102 j0 (.agg zA.cells.toArray) 48 Tryz.underlying93 hj' hy0 hy1 hy2 rfl (by omega) (.slice A4 m4 c4) m4 (acs out4) (HO5.out.alloc _) rfl 1 (Ad.cells ⟨xh, xpo, xpr, xwe, xttl⟩) (srcA Tryz.underlying93 102 5 _ 1 rfl (acells_one _) (by simp)) (by omega) (by simp; omega) ?_
                         intro v6 w6 ho6 hg6 hz6
                         obtain ⟨A6, c6, rfl, _, _, _⟩ := ho6.form
                         rw [← acs_snoc] at ho6
                         have HO6 := Lib.hid ho6
                         clear ho6)
            go_roundw
            case rel => exact ⟨k + 1, m4 + 1, true, out4 ++ [⟨xh, xpo, xpr, xwe, xttl⟩], by omega, by omega, by go_num, rfl, Lib.hid (by rw [List.length_append, HM4.out]; rfl), HO6, Lib.hid (by rw [HPP.out, HSOx.out true HPLE.out, HD.out]; simp), Lib.hid ((HB5.out.alloc hsz5 _).trans (hg6.below (fun g hg => (show w1.heap.size ≤ g from Nat.le_trans hw1G (OwM.lt HO5.out g hg))) (by simp; omega)))⟩
            case measure => simp [intOf]; omega
          · have HPLE : Hid (pl = true) := Lib.hid (by rw [HPLB.out]; rfl)
            have q1 := HQ1.out
            have q2 := HQ2.out
            go_quiet (fail)
            go_wp2_with fail
            go_roundw
            case rel => exact ⟨k + 1, m4, true, out4, by omega, by omega, by go_num, rfl, HM4, Lib.hid (OwM.drewN HO4.out nq), Lib.hid (by rw [HPP.out, HSKx.out HPLE.out, HD.out]), Lib.hid (bl_drewN HB4.out nq)⟩
            case measure => simp [intOf]; omega
    · have : k = n := by omega
      subst this
      have hp := HP.out
      rw [List.drop_of_length_le (by rw [HLN.out]; exact Nat.le_refl _), HPN.out] at hp
      have HPE := Lib.hid hp
      clear hp HP
      cases th
      · obtain ⟨d0_, d1_, d2_, d3_, d4_⟩ := HVr.out.c5
        unfold strV at d0_
        dsimp only at d0_ d1_ d2_ d3_ d4_
        go_wp2_with (at_builtin
                     refine wpList_appM _ rfl _ _ _ _ rfl (GA + 1) 5 102 j0 (.agg zA.cells.toArray) 48 Tryz.underlying93 hj' hy0 hy1 hy2 rfl (by omega) (.slice Ar m cr) m (acs out) (HO.out.alloc _) rfl 1 (Ad.cells ⟨ah, apo, apr, awe, attl⟩) (srcA Tryz.underlying93 102 5 _ 1 rfl (acells_one _) (by simp)) (by omega) (by simp; omega) ?_
                     intro v6 w6 ho6 hg6 hz6
                     obtain ⟨A6, c6, rfl, _, _, _⟩ := ho6.form
                     rw [← acs_snoc] at ho6
                     have HO6 := Lib.hid ho6
                     clear ho6)
        go_ret
        have hlen : (P false l).length = m + 1 := by rw [HPE.out, List.length_append, HM.out]; rfl
        refine ⟨_, rfl, ?_, ?_⟩
        · rw [hlen, HPE.out]
          exact OwM.mono HO6.out (by omega)
        · exact (HB1.out.trans (((HB.out.alloc hszr _).trans (hg6.below (fun g hg => (show w1.heap.size ≤ g from Nat.le_trans hw1G (OwM.lt HO.out g hg))) (by simp; omega))).mono HB1.out.size))
      · go_wp2_with fail
        go_ret
        have hlen : (P false l).length = m := by rw [HPE.out, List.length_append, HM.out]; rfl
        refine ⟨_, rfl, ?_, ?_⟩
        · rw [hlen, HPE.out]
          simp only [if_true, List.append_nil]
          exact OwM.mono HO.out (by omega)
        · exact HB1.out.trans (HB.out.mono HB1.out.size)
end Go.Proofs.YtlipmlbijddopaaGreatDoor
set_option linter.unusedVariables false
set_option linter.unusedSimpArgs false
namespace Go.Proofs.YtlipmlbijddopaaGreatDoor
open Go.RowKit
set_option maxRecDepth 100000 in
set_option maxHeartbeats 16000000 in
theorem rtake_at (A1 A2 : Option Addr) (c1 c2 : Nat) (q r : List UInt8) (w : World) (h1 : Rd w w.heap.size A1 q.length (bc q)) (h2 : Rd w w.heap.size A2 r.length (bc r)) (hc1 : q.length ≤ c1) (hc2 : r.length ≤ c2) (hb1 : q.length ≤ 140737488355328) (hb2 : r.length ≤ 140737488355328) :
    Calls Tryz.prog 41 #[.slice A1 q.length c1, .slice A2 r.length c2] w fun e w' => ∃ v, e = .returned (.tuple #[v, .int .i64 ((Srv.takeN q r).2 : Int)]) ∧ OwM w' w.heap.size 102 5 v (Srv.takeN q r).1.length (acs (Srv.takeN q r).1) ∧ Below w.heap.size w w' := by
  obtain ⟨T, hT⟩ : ∃ T, T = Srv.takeN q r := ⟨_, rfl⟩
  rw [← hT]
  obtain ⟨pq, hpq⟩ : ∃ p, readM q = p := ⟨_, rfl⟩
  obtain ⟨mq, eq⟩ := pq
  obtain ⟨pr, hpr⟩ : ∃ p, readM r = p := ⟨_, rfl⟩
  obtain ⟨mr, er⟩ := pr
  have hTe : T = if (decide (eq = 0) && Srv.askedM mq) = false then ([], 181) else if er ≠ 0 then ([], er) else Srv.takeM mq mr := by
    rw [hT]; unfold Srv.takeN Srv.askedB; rw [hpq, hpr]
  have HTE := Lib.hid hTe
  have KQ : Hid (Calls Tryz.prog 92 #[.slice A1 q.length c1] w fun e w' => ∃ x : MR, x.m = mq ∧ e = .returned (.tuple #[.agg x.cells.toArray, .int .i64 (eq : Int)]) ∧ MRd w' w'.heap.size x ∧ Below w.heap.size w w') := Lib.hid ((fread_at A1 c1 q w h1 hc1 hb1).mono (by
    rintro e w' ⟨x, hx, rfl, ho, hb⟩
    exact ⟨x, by rw [hx, hpq], by rw [hpq], readF_mrd ho hx, hb⟩))
  have KR : Hid (∀ W, Below w.heap.size w W → Calls Tryz.prog 92 #[.slice A2 r.length c2] W fun e w' => ∃ x : MR, x.m = mr ∧ e = .returned (.tuple #[.agg x.cells.toArray, .int .i64 (er : Int)]) ∧ MRd w' w'.heap.size x ∧ Below W.heap.size W w') := Lib.hid (fun W hW => (fread_at A2 c2 r W (h2.goes hW) hc2 hb2).mono (by
    rintro e w' ⟨x, hx, rfl, ho, hb⟩
    exact ⟨x, by rw [hx, hpr], by rw [hpr], readF_mrd ho hx, hb⟩))
  have HPR := Lib.hid hpr
  obtain ⟨L1, hL1⟩ : ∃ L, L = q.length := ⟨_, rfl⟩
  obtain ⟨L2, hL2⟩ : ∃ L, L = r.length := ⟨_, rfl⟩
  rw [← hL1] at KQ
  rw [← hL2] at KR
  rw [← hL1, ← hL2]
  have mixed : Tryz.prog.follows .mixedOrders = true := by kernel_rfl
  clear hT hTe hpq hpr h1 h2 hc1 hc2 hb1 hb2 hL1 hL2
  go_enter Tryz.func41, Tryz.ntmps41
  go_upto_region 2 with (go_at_call 92
                         refine KQ.out.mono ?_
                         rintro e w1 ⟨x, hxm, rfl, hxr, hb1⟩
                         have HXM := Lib.hid hxm
                         have HXR := Lib.hid hxr
                         have HB1 := Lib.hid hb1
                         obtain ⟨X, hX⟩ : ∃ X : MR, X = x := ⟨_, rfl⟩
                         rw [← hX] at HXM HXR
                         obtain ⟨idX, flX, qAX, qcX, qsX, aAX, acX, raX, bAX, bdX, rbX, cAX, ccX, rcX⟩ := x
                         have HXE := Lib.hid hX
                         clear hxm hxr hb1 hX
                         unfold MR.cells
                         dsimp only)
  have hvx := Vx.new w1 47 [.int .u16 (idX : Int), .int .u16 (flX : Int), .slice qAX qsX.length qcX, .slice aAX raX.length acX, .slice bAX rbX.length bdX, .slice cAX rcX.length ccX]
  have hb12 := bl_new w1 (.cells #[.int .u16 (idX : Int), .int .u16 (flX : Int), .slice qAX qsX.length qcX, .slice aAX raX.length acX, .slice bAX rbX.length bdX, .slice cAX rcX.length ccX] 47)
  have HX2 := Lib.hid ((HXR.out.below hb12).more hb12.size)
  have HB2 := Lib.hid (HB1.out.trans (hb12.mono HB1.out.size))
  obtain ⟨GX, hGX⟩ : ∃ G, G = w1.heap.size := ⟨_, rfl⟩
  rw [← hGX] at hvx ⊢
  generalize w1.alloc (.cells #[.int .u16 (idX : Int), .int .u16 (flX : Int), .slice qAX qsX.length qcX, .slice aAX raX.length acX, .slice bAX rbX.length bdX, .slice cAX rcX.length ccX] 47) = w2 at hvx HX2 HB2 ⊢
  have HVX2 := Lib.hid hvx
  clear hvx hb12 hGX HXR HB1 KQ
  obtain ⟨x0, x1, x2, x3, x4, x5⟩ := HVX2.out.c6
  have hXq := HX2.out.2.2.1
  have hXa := HX2.out.2.2.2.1.2.2.2.1
  have hXb := HX2.out.2.2.2.2.1.2.2.2.1
  have hXc := HX2.out.2.2.2.2.2.2.2.2.1
  have hXf := HX2.out.2.1
  rw [HXE.out] at hXq hXa hXb hXc hXf
  dsimp only at hXq hXa hXb hXc hXf
  have hqn := hXq.2.2.2.1
  have hXm : mq.id = idX ∧ mq.fl = flX ∧ mq.qs = qsX.map QR.q ∧ mq.r0.length = raX.length ∧ mq.r1.length = rbX.length ∧ mq.r2.length = rcX.length := by
    rw [← HXM.out, HXE.out]; simp [MR.m]
  have HXm := Lib.hid hXm
  have HNO : Hid (¬ (eq = 0 ∧ flX / 32768 % 2 = 0 ∧ qsX.length = 1 ∧ raX.length + rbX.length + rcX.length = 0 ∧ (Srv.q0 mq).ty = 33 ∧ (Srv.q0 mq).cl = 1) → T = ([], 181)) := Lib.hid (fun hno => by
    rw [HTE.out, if_pos]
    rw [Bool.eq_false_iff]
    intro h
    obtain ⟨-, e1, e2, e3, e4, e5⟩ := hXm
    simp only [Srv.askedM, Bool.and_eq_true, decide_eq_true_eq, e1, e2, e3, e4, e5, List.length_map] at h
    exact hno h)
  have HYS : Hid ((eq = 0 ∧ flX / 32768 % 2 = 0 ∧ qsX.length = 1 ∧ raX.length + rbX.length + rcX.length = 0 ∧ (Srv.q0 mq).ty = 33 ∧ (Srv.q0 mq).cl = 1) → Srv.askedM mq = true ∧ T = if er ≠ 0 then ([], er) else Srv.takeM mq mr) := Lib.hid (fun hy => by
    have hk : (decide (eq = 0) && Srv.askedM mq) = true := by
      obtain ⟨-, e1, e2, e3, e4, e5⟩ := hXm
      simp only [Srv.askedM, Bool.and_eq_true, decide_eq_true_eq, e1, e2, e3, e4, e5, List.length_map]
      exact hy
    refine ⟨(Bool.and_eq_true_iff.1 hk).2, ?_⟩
    rw [HTE.out, if_neg (by rw [hk]; simp)])
  have HXQ := Lib.hid hXq
  clear hXq hXm
  by_cases he : eq = 0
  case neg =>
    have s0 : ((eq : Int) != 0) = true := by rw [bne_iff_ne]; omega
    have HTV : Hid (T = ([], 181)) := Lib.hid (HNO.out (fun h => he h.1))
    go_wp2_with fail
    go_ret2
    exact ⟨_, by rw [HTV.out]; rfl, by rw [HTV.out]; exact OwM.nil _ _ _ _, HB2.out⟩
  have s0 : ((eq : Int) != 0) = false := by rw [he]; rfl
  by_cases h15 : flX / 32768 % 2 = 0
  case neg =>
    have K15 : Hid (∀ W, Calls Tryz.prog 93 #[.int .u16 (flX : Int), .int .u16 32768] W fun e w' => e = .returned (.bool true) ∧ W = w') := Lib.hid (fun W => by have h := rbit15_at flX W hXf; rw [decide_eq_true (by omega)] at h; exact h)
    have HTV : Hid (T = ([], 181)) := Lib.hid (HNO.out (fun h => h15 h.2.1))
    go_wp2_with (go_at_call 93; refine (K15.out _).mono ?_; rintro e w3 ⟨rfl, rfl⟩)
    go_ret2
    exact ⟨_, by rw [HTV.out]; rfl, by rw [HTV.out]; exact OwM.nil _ _ _ _, HB2.out⟩
  have K15 : Hid (∀ W, Calls Tryz.prog 93 #[.int .u16 (flX : Int), .int .u16 32768] W fun e w' => e = .returned (.bool false) ∧ W = w') := Lib.hid (fun W => by have h := rbit15_at flX W hXf; rw [decide_eq_false (by omega)] at h; exact h)
  by_cases hq1 : qsX.length = 1
  case neg =>
    have s2 : ((qsX.length : Int) != 1) = true := by rw [bne_iff_ne]; omega
    have HTV : Hid (T = ([], 181)) := Lib.hid (HNO.out (fun h => hq1 h.2.2.1))
    go_wp2_with (go_at_call 93; refine (K15.out _).mono ?_; rintro e w3 ⟨rfl, rfl⟩)
    go_ret2
    exact ⟨_, by rw [HTV.out]; rfl, by rw [HTV.out]; exact OwM.nil _ _ _ _, HB2.out⟩
  have s2 : ((qsX.length : Int) != 1) = false := by rw [hq1]; rfl
  by_cases hsum : raX.length + rbX.length + rcX.length = 0
  case neg =>
    have s3 : decide ((0 : Int) < (raX.length : Int) + (rbX.length : Int) + (rcX.length : Int)) = true := by simp only [decide_eq_true_eq]; omega
    have HTV : Hid (T = ([], 181)) := Lib.hid (HNO.out (fun h => hsum h.2.2.2.1))
    go_wp2_with (go_at_call 93; refine (K15.out _).mono ?_; rintro e w3 ⟨rfl, rfl⟩)
    go_ret2
    exact ⟨_, by rw [HTV.out]; rfl, by rw [HTV.out]; exact OwM.nil _ _ _ _, HB2.out⟩
  have s3 : decide ((0 : Int) < (raX.length : Int) + (rbX.length : Int) + (rcX.length : Int)) = false := by simp only [decide_eq_false_iff_not]; omega
  obtain ⟨y, hy⟩ : ∃ y, qsX = [y] := List.length_eq_one_iff.1 hq1
  obtain ⟨b0, oo, hqA, hbq, hqc⟩ := HXQ.out.at_ (k := 0) (by omega)
  obtain ⟨q0, q1, q2⟩ := hqc (by omega)
  have hqy := HXQ.out.2.2.2.2 y (by rw [hy]; exact List.mem_cons_self ..)
  have hq0 : Srv.q0 mq = y.q := by unfold Srv.q0; rw [HXm.out.2.2.1, hy]; rfl
  rw [hq0] at HNO HYS
  have HQ0 := Lib.hid hq0
  subst hy
  subst hqA
  simp only [Nat.zero_mul, Nat.add_zero, List.getElem_cons_zero] at q0 q1 q2
  obtain ⟨nA, nc, ⟨nm, tyq, clq⟩⟩ := y
  dsimp only at q0 q1 q2 hqy HNO HYS
  obtain ⟨nn, hnn⟩ : ∃ nn, nn = nm.length := ⟨_, rfl⟩
  rw [← hnn] at q0
  have HNN := Lib.hid hnn.symm
  have HNM := Lib.hid hqy.1
  clear hqc hqy hnn hq0
  by_cases hty : tyq = 33
  case neg =>
    have s4 : ((tyq : Int) != 33) = true := by rw [bne_iff_ne]; omega
    have HTV : Hid (T = ([], 181)) := Lib.hid (HNO.out (fun h => hty h.2.2.2.2.1))
    go_wp2_with (go_at_call 93; refine (K15.out _).mono ?_; rintro e w3 ⟨rfl, rfl⟩)
    go_ret2
    exact ⟨_, by rw [HTV.out]; rfl, by rw [HTV.out]; exact OwM.nil _ _ _ _, HB2.out⟩
  have s4 : ((tyq : Int) != 33) = false := by rw [hty]; rfl
  by_cases hcl : clq = 1
  case neg =>
    have s5 : ((clq : Int) != 1) = true := by rw [bne_iff_ne]; omega
    have HTV : Hid (T = ([], 181)) := Lib.hid (HNO.out (fun h => hcl h.2.2.2.2.2))
    go_wp2_with (go_at_call 93; refine (K15.out _).mono ?_; rintro e w3 ⟨rfl, rfl⟩)
    go_ret2
    exact ⟨_, by rw [HTV.out]; rfl, by rw [HTV.out]; exact OwM.nil _ _ _ _, HB2.out⟩
  have s5 : ((clq : Int) != 1) = false := by rw [hcl]; rfl
  obtain ⟨hask, hTe⟩ := HYS.out ⟨he, h15, hq1, hsum, hty, hcl⟩
  have HASK := Lib.hid hask
  have HTE2 := Lib.hid hTe
  clear hask hTe HNO HYS HTE he h15 hsum hty hcl
  go_upto_region 5 with (first
    | (go_at_call 92
       refine (KR.out _ HB2.out).mono ?_
       rintro e w3 ⟨y, hym, rfl, hyr, hb3⟩
       have HYM := Lib.hid hym
       have HYR := Lib.hid hyr
       have HB3 := Lib.hid (HB2.out.trans (hb3.mono HB2.out.size))
       have HX3 := Lib.hid ((HX2.out.below hb3).more hb3.size)
       have HVX3 := Lib.hid (HVX2.out.below hb3 HVX2.out.lt)
       obtain ⟨Y, hY⟩ : ∃ Y : MR, Y = y := ⟨_, rfl⟩
       rw [← hY] at HYM HYR
       obtain ⟨idY, flY, qAY, qcY, qsY, aAY, acY, raY, bAY, bdY, rbY, cAY, ccY, rcY⟩ := y
       have HYE := Lib.hid hY
       clear hym hyr hb3 hY
       unfold MR.cells
       dsimp only)
    | (go_at_call 93; refine (K15.out _).mono ?_; rintro e w3 ⟨rfl, rfl⟩))
  have hvy := Vx.new w3 47 [.int .u16 (idY : Int), .int .u16 (flY : Int), .slice qAY qsY.length qcY, .slice aAY raY.length acY, .slice bAY rbY.length bdY, .slice cAY rcY.length ccY]
  have hb34 := bl_new w3 (.cells #[.int .u16 (idY : Int), .int .u16 (flY : Int), .slice qAY qsY.length qcY, .slice aAY raY.length acY, .slice bAY rbY.length bdY, .slice cAY rcY.length ccY] 47)
  have HY4 := Lib.hid ((HYR.out.below hb34).more hb34.size)
  have HX4 := Lib.hid ((HX3.out.below hb34).more hb34.size)
  have HVX4 := Lib.hid (HVX3.out.below hb34 HVX3.out.lt)
  have HB4 := Lib.hid (HB3.out.trans (hb34.mono HB3.out.size))
  obtain ⟨GY, hGY⟩ : ∃ G, G = w3.heap.size := ⟨_, rfl⟩
  rw [← hGY] at hvy ⊢
  generalize w3.alloc (.cells #[.int .u16 (idY : Int), .int .u16 (flY : Int), .slice qAY qsY.length qcY, .slice aAY raY.length acY, .slice bAY rbY.length bdY, .slice cAY rcY.length ccY] 47) = w4 at hvy HX4 HY4 HB4 HVX4 ⊢
  have HVY4 := Lib.hid hvy
  clear hvy hb34 hGY HYR HB3 HX3 HVX3 HVX2 HX2 HB2 KR K15 x0 x1 x2 x3 x4 x5 q0 q1 q2
  by_cases he2 : er = 0
  case neg =>
    have s0 : ((er : Int) != 0) = true := by rw [bne_iff_ne]; omega
    have HTV : Hid (T = ([], er)) := Lib.hid (by rw [HTE2.out, if_pos he2])
    go_wp2_with fail
    go_ret2
    exact ⟨_, by rw [HTV.out]; rfl, by rw [HTV.out]; exact OwM.nil _ _ _ _, HB4.out⟩
  have s0' : ((er : Int) != 0) = false := by rw [he2]; rfl
  have HTE3 : Hid (T = Srv.takeM mq mr) := Lib.hid (by rw [HTE2.out, if_neg (by omega)])
  have HE2 := Lib.hid he2
  clear he2 s0 s2 s3 s4 s5
  have hYq := HY4.out.2.2.1
  have hYf := HY4.out.2.1
  rw [HYE.out] at hYq hYf
  dsimp only at hYq hYf
  have hYn := hYq.2.2.2.1
  have hYm : mr.id = idY ∧ mr.fl = flY ∧ mr.qs = qsY.map QR.q := by rw [← HYM.out, HYE.out]; simp [MR.m]
  have HYm := Lib.hid hYm
  obtain ⟨REST, hREST⟩ : ∃ R, R = (if flY / 512 % 2 = 1 then ([], 183) else if flY % 16 ≠ 0 then ([], 184) else if Srv.okA (answersM mr nm 33) = false then ([], 185) else (Srv.onceA (Srv.sortA (Srv.addA (answersM mr nm 33))), 0) : List Ad × Nat) := ⟨_, rfl⟩
  have hown := Srv.own_iff (m := mr) HASK.out
  rw [HQ0.out, HXm.out.1, hYm.1, hYm.2.2, List.length_map] at hown
  dsimp only at hown
  have HNO2 : Hid (¬ (idY = idX ∧ flY / 32768 % 2 = 1 ∧ qsY.length = 1 ∧ (Srv.q0 mr).ty = 33 ∧ (Srv.q0 mr).cl = 1 ∧ (Srv.q0 mr).nm = nm) → T = ([], 182)) := Lib.hid (fun hno => by
    rw [HTE3.out]
    unfold Srv.takeM
    rw [hYm.2.1]
    refine if_pos ?_
    by_cases h : flY / 32768 % 2 = 0
    · exact .inl h
    · refine .inr ?_
      rw [Bool.eq_false_iff]
      intro hs
      obtain ⟨k1, k2, k3, k4, k5⟩ := hown.1 hs
      exact hno ⟨k1, by omega, k2, k3, k4, k5⟩)
  have HYS2 : Hid ((idY = idX ∧ flY / 32768 % 2 = 1 ∧ qsY.length = 1 ∧ (Srv.q0 mr).ty = 33 ∧ (Srv.q0 mr).cl = 1 ∧ (Srv.q0 mr).nm = nm) → T = REST) := Lib.hid (fun hy => by
    rw [HTE3.out, hREST]
    unfold Srv.takeM
    rw [hYm.2.1, HQ0.out]
    refine if_neg (fun h => ?_)
    rcases h with h | h
    · have := hy.2.1; omega
    · have hs := hown.2 ⟨hy.1, hy.2.2.1, hy.2.2.2.1, hy.2.2.2.2.1, hy.2.2.2.2.2⟩
      rw [hs] at h; cases h)
  have HREST := Lib.hid hREST
  have HYQ := Lib.hid hYq
  clear hYq hYm hREST hown
  go_upto_region 7 with fail
  obtain ⟨x0, x1, x2, x3, x4, x5⟩ := HVX4.out.c6
  obtain ⟨y0, y1, y2, y3, y4, y5⟩ := HVY4.out.c6
  by_cases hid : idY = idX
  case neg =>
    have t0 : ((idY : Int) != (idX : Int)) = true := by rw [bne_iff_ne]; omega
    have HTV : Hid (T = ([], 182)) := Lib.hid (HNO2.out (fun h => hid h.1))
    go_quiet (fail)
    go_wp2_with fail
    go_ret2
    exact ⟨_, by rw [HTV.out]; rfl, by rw [HTV.out]; exact OwM.nil _ _ _ _, bl_drewN HB4.out _⟩
  have t0 : ((idY : Int) != (idX : Int)) = false := by rw [hid]; simp
  by_cases h15 : flY / 32768 % 2 = 1
  case neg =>
    have KY : Hid (∀ W, Calls Tryz.prog 93 #[.int .u16 (flY : Int), .int .u16 32768] W fun e w' => e = .returned (.bool false) ∧ ∃ q, w' = W.drewN q) := Lib.hid (fun W => (rbit15_at flY W hYf).mono (by rintro e w' ⟨rfl, rfl⟩; exact ⟨by rw [decide_eq_false (by omega)], 0, rfl⟩))
    have HTV : Hid (T = ([], 182)) := Lib.hid (HNO2.out (fun h => h15 h.2.1))
    go_quiet ((go_at_call 93; exact Calls.quiet_of (KY.out _)))
    go_wp2_with fail
    go_ret2
    exact ⟨_, by rw [HTV.out]; rfl, by rw [HTV.out]; exact OwM.nil _ _ _ _, bl_drewN HB4.out _⟩
  have KY : Hid (∀ W, Calls Tryz.prog 93 #[.int .u16 (flY : Int), .int .u16 32768] W fun e w' => e = .returned (.bool true) ∧ ∃ q, w' = W.drewN q) := Lib.hid (fun W => (rbit15_at flY W hYf).mono (by rintro e w' ⟨rfl, rfl⟩; exact ⟨by rw [decide_eq_true (by omega)], 0, rfl⟩))
  by_cases hyl : qsY.length = 1
  case neg =>
    have t2 : ((qsY.length : Int) != 1) = true := by rw [bne_iff_ne]; omega
    have HTV : Hid (T = ([], 182)) := Lib.hid (HNO2.out (fun h => hyl h.2.2.1))
    go_quiet ((go_at_call 93; exact Calls.quiet_of (KY.out _)))
    go_wp2_with fail
    go_ret2
    exact ⟨_, by rw [HTV.out]; rfl, by rw [HTV.out]; exact OwM.nil _ _ _ _, bl_drewN HB4.out _⟩
  have t2 : ((qsY.length : Int) != 1) = false := by rw [hyl]; rfl
  obtain ⟨z, hz⟩ : ∃ z, qsY = [z] := List.length_eq_one_iff.1 hyl
  obtain ⟨bz, oz, hzA, hbz, hzc⟩ := HYQ.out.at_ (k := 0) (by omega)
  obtain ⟨z0, z1, z2⟩ := hzc (by omega)
  have hzy := HYQ.out.2.2.2.2 z (by rw [hz]; exact List.mem_cons_self ..)
  have hz0 : Srv.q0 mr = z.q := by unfold Srv.q0; rw [HYm.out.2.2, hz]; rfl
  rw [hz0] at HNO2 HYS2
  subst hz
  subst hzA
  simp only [Nat.zero_mul, Nat.add_zero, List.getElem_cons_zero] at z0 z1 z2
  obtain ⟨zA_, zc, ⟨zm, tyz, clz⟩⟩ := z
  dsimp only at z0 z1 z2 hzy HNO2 HYS2
  obtain ⟨zn, hzn⟩ : ∃ zn, zn = zm.length := ⟨_, rfl⟩
  rw [← hzn] at z0
  have hqx := HX4.out.2.2.1
  rw [HXE.out] at hqx
  dsimp only at hqx
  obtain ⟨b0', oo', hqA', hbq', hqc'⟩ := hqx.at_ (k := 0) (by omega)
  injection hqA' with hqA'
  injection hqA' with hqA1 hqA2
  subst hqA1 hqA2
  have q0 := (hqc' (by omega)).1
  simp only [Nat.zero_mul, Nat.add_zero, List.getElem_cons_zero] at q0
  have hnm4 := (hqx.2.2.2.2 _ (List.mem_cons_self ..)).1
  dsimp only at q0 hnm4
  rw [HNN.out] at q0
  obtain ⟨cv, hcv⟩ : ∃ cv, cv = cmpN zm nm := ⟨_, rfl⟩
  have hc0 : cv = 0 ↔ zm = nm := by rw [hcv]; exact cmpN_eq zm nm
  have KC : Hid (∀ W, Below w4.heap.size w4 W → Calls Tryz.prog 94 #[.slice zA_ zn zc, .slice nA nn nc] W fun e w' => e = .returned (.int .i64 cv) ∧ ∃ q, w' = W.drewN q) := Lib.hid (fun W hW => by
    rw [hzn, ← HNN.out, hcv]
    exact rcmp_any zA_ nA zc nc zm nm W w4.heap.size (hzy.1.1.below hW) (hnm4.1.below hW) (Nat.le_trans (len_le_size zm) hzy.1.2.2) (Nat.le_trans (len_le_size nm) hnm4.2.2) (size_mem hzy.1.2.2) (size_mem hnm4.2.2))
  have KC : Hid (∀ m, Calls Tryz.prog 94 #[.slice zA_ zn zc, .slice nA nn nc] (w4.drewN m) fun e w' => e = .returned (.int .i64 cv) ∧ ∃ q, w' = (w4.drewN m).drewN q) := Lib.hid (fun m => KC.out _ (bl_drewN (Below.refl _ _) m))
  have HNM4 := Lib.hid hnm4
  clear hzc hz0 hzn hcv hqx hqc' hzy hnm4
  by_cases hty : tyz = 33
  case neg =>
    have t3 : ((tyz : Int) != 33) = true := by rw [bne_iff_ne]; omega
    have HTV : Hid (T = ([], 182)) := Lib.hid (HNO2.out (fun h => hty h.2.2.2.1))
    go_quiet ((go_at_call 93; exact Calls.quiet_of (KY.out _)))
    go_wp2_with fail
    go_ret2
    exact ⟨_, by rw [HTV.out]; rfl, by rw [HTV.out]; exact OwM.nil _ _ _ _, bl_drewN HB4.out _⟩
  have t3 : ((tyz : Int) != 33) = false := by rw [hty]; rfl
  by_cases hcl : clz = 1
  case neg =>
    have t4 : ((clz : Int) != 1) = true := by rw [bne_iff_ne]; omega
    have HTV : Hid (T = ([], 182)) := Lib.hid (HNO2.out (fun h => hcl h.2.2.2.2.1))
    go_quiet ((go_at_call 93; exact Calls.quiet_of (KY.out _)))
    go_wp2_with fail
    go_ret2
    exact ⟨_, by rw [HTV.out]; rfl, by rw [HTV.out]; exact OwM.nil _ _ _ _, bl_drewN HB4.out _⟩
  have t4 : ((clz : Int) != 1) = false := by rw [hcl]; rfl
  by_cases hcv : cv = 0
  case neg =>
    have t5 : (cv != 0) = true := by rw [bne_iff_ne]; exact hcv
    have HTV : Hid (T = ([], 182)) := Lib.hid (HNO2.out (fun h => hcv (hc0.2 h.2.2.2.2.2)))
    go_quiet (first | (go_at_call 93; exact Calls.quiet_of (KY.out _)) | (go_at_call 94; exact Calls.quiet_of (KC.out _)))
    go_wp2_with fail
    go_ret2
    exact ⟨_, by rw [HTV.out]; rfl, by rw [HTV.out]; exact OwM.nil _ _ _ _, bl_drewN HB4.out _⟩
  have t5 : (cv != 0) = false := by rw [hcv]; rfl
  have HTR : Hid (T = REST) := Lib.hid (HYS2.out ⟨hid, h15, hyl, hty, hcl, hc0.1 hcv⟩)
  clear HNO2 HYS2 hid h15 hty hcl hc0
  go_quiet (first | (go_at_call 93; exact Calls.quiet_of (KY.out _)) | (go_at_call 94; exact Calls.quiet_of (KC.out _)))
  have HB7 := Lib.hid (bl_drewN HB4.out nq)
  have HX7 : Hid (MRd (w4.drewN nq) (w4.drewN nq).heap.size X) := HX4
  have HY7 : Hid (MRd (w4.drewN nq) (w4.drewN nq).heap.size Y) := HY4
  have HVX7 := Lib.hid (HVX4.out.drewN nq)
  have HVY7 := Lib.hid (HVY4.out.drewN nq)
  have HNM7 : Hid (NRd (w4.drewN nq) (w4.drewN nq).heap.size nA nc nm) := HNM4
  have q0' : (w4.drewN nq).cell? ⟨b0, oo, none⟩ = some (.slice nA nn nc) := q0
  have hbq7 : b0 < (w4.drewN nq).heap.size := hbq'
  generalize w4.drewN nq = w7 at HB7 HX7 HY7 HVX7 HVY7 HNM7 q0' hbq7 ⊢
  clear q0 x0 x1 x2 x3 x4 x5 y0 y1 y2 y3 y4 y5 z0 z1 z2 KC KY t0 t2 t3 t4 t5 HB4 HX4 HY4 HVX4 HVY4 HNM4 hcv hbq'
  obtain ⟨x0, x1, x2, x3, x4, x5⟩ := HVX7.out.c6
  obtain ⟨y0, y1, y2, y3, y4, y5⟩ := HVY7.out.c6
  by_cases h9 : flY / 512 % 2 = 1
  case pos =>
    have K9 : Hid (∀ W, Calls Tryz.prog 93 #[.int .u16 (flY : Int), .int .u16 512] W fun e w' => e = .returned (.bool true) ∧ W = w') := Lib.hid (fun W => by have h := rbit9_at flY W hYf; rw [decide_eq_true h9] at h; exact h)
    have HTV : Hid (T = ([], 183)) := Lib.hid (by rw [HTR.out, HREST.out, if_pos h9])
    go_wp2_with (go_at_call 93; refine (K9.out _).mono ?_; rintro e w8 ⟨rfl, rfl⟩)
    go_ret2
    exact ⟨_, by rw [HTV.out]; rfl, by rw [HTV.out]; exact OwM.nil _ _ _ _, HB7.out⟩
  have K9 : Hid (∀ W, Calls Tryz.prog 93 #[.int .u16 (flY : Int), .int .u16 512] W fun e w' => e = .returned (.bool false) ∧ W = w') := Lib.hid (fun W => by have h := rbit9_at flY W hYf; rw [decide_eq_false h9] at h; exact h)
  by_cases h16 : flY % 16 = 0
  case neg =>
    have u1 : ((flY : Int) % 16 != 0) = true := by rw [bne_iff_ne]; omega
    have HTV : Hid (T = ([], 184)) := Lib.hid (by rw [HTR.out, HREST.out, if_neg h9, if_pos h16])
    go_wp2_with (go_at_call 93; refine (K9.out _).mono ?_; rintro e w8 ⟨rfl, rfl⟩)
    go_ret2
    exact ⟨_, by rw [HTV.out]; rfl, by rw [HTV.out]; exact OwM.nil _ _ _ _, HB7.out⟩
  have u1 : ((flY : Int) % 16 != 0) = false := by rw [show ((flY : Int) % 16) = 0 by omega]; rfl
  obtain ⟨ANS, hANS⟩ : ∃ q, q = answersM mr nm 33 := ⟨_, rfl⟩
  have hTR : T = if Srv.okA ANS = false then ([], 185) else (Srv.onceA (Srv.sortA (Srv.addA ANS)), 0) := by rw [HTR.out, HREST.out, if_neg h9, if_neg (by omega), hANS]
  have HTF := Lib.hid hTR
  have h0r : (readM r).2 = 0 := by rw [HPR.out]; exact HE2.out
  have hrok := read_ok h0r
  rw [show (readM r).1 = mr by rw [HPR.out]] at hrok
  have hans : ∀ x ∈ ANS, rightR x = true ∧ okR x := fun x hx => by
    rw [hANS] at hx
    have h1 := (List.mem_filter.1 hx).1
    refine ⟨?_, hrok.2.1.r0 x h1⟩
    have h2 := hrok.1
    rw [← HYM.out] at h2 h1
    obtain ⟨a0, a1, a2, a3⟩ := resW h2
    obtain ⟨z, hz, rfl⟩ := List.mem_map.1 h1
    exact a1 z hz
  have KA2 : Hid (Calls Tryz.prog 95 #[.agg #[.int .u16 (idY : Int), .int .u16 (flY : Int), .slice (some ⟨bz, oz, none⟩) 1 qcY, .slice aAY raY.length acY, .slice bAY rbY.length bdY, .slice cAY rcY.length ccY], .slice nA nn nc, .int .u16 33] w7.drew fun e w' => ∃ (l : List RR) (A' : Option Addr) (c' : Nat), e = .returned (.slice A' l.length c') ∧ l.map RR.r = ANS ∧ RsRd w' w'.heap.size A' c' l.length l ∧ Below w7.heap.size w7 w') := Lib.hid (by
    have hbd : Below w7.heap.size w7 w7.drew := bl_drew w7
    have h := fanswers_at Y nA nc nn nm 33 w7.drew ((HY7.out.below hbd).more hbd.size) HNN.out ((HNM7.out.below hbd).more hbd.size) (by omega)
    have e1 : Y.cells.toArray = #[.int .u16 (idY : Int), .int .u16 (flY : Int), .slice (some ⟨bz, oz, none⟩) 1 qcY, .slice aAY raY.length acY, .slice bAY rbY.length bdY, .slice cAY rcY.length ccY] := by rw [HYE.out]; rfl
    rw [e1, HYM.out, ← hANS] at h
    refine h.mono ?_
    rintro e w' ⟨l, A', c', rfl, hl, hro, hb⟩
    exact ⟨l, A', c', rfl, hl, hro, hbd.trans (hb.mono hbd.size)⟩)
  have HANS := Lib.hid hans
  clear hans hANS hrok h0r hTR h9 h16 HTR HREST
  go_upto_region 13 with (go_at_call 93; refine (K9.out _).mono ?_; rintro e w8 ⟨rfl, rfl⟩)
  refine wp_region_held_drew (S := fun W => Vx W GY 47 [.int .u16 (idY : Int), .int .u16 (flY : Int), .slice (some ⟨bz, oz, none⟩) 1 qcY, .slice aAY raY.length acY, .slice bAY rbY.length bdY, .slice cAY rcY.length ccY] ∧ W.cell? ⟨GX, 2, none⟩ = some (.slice (some ⟨b0, oo, none⟩) 1 qcX) ∧ W.cell? ⟨b0, oo, none⟩ = some (.slice nA nn nc)) (by kernel_rfl) ⟨HVY7.out, x2, q0'⟩ (fun hH => ?_)
  refine reg_load 0 rfl (by kernel_rfl) 47 _ (by rfl) GY 47 [.int .u16 (idY : Int), .int .u16 (flY : Int), .slice (some ⟨bz, oz, none⟩) 1 qcY, .slice aAY raY.length acY, .slice bAY rbY.length bdY, .slice cAY rcY.length ccY] _ (fun _ _ _ h => h) (by rfl) hH (by rfl) (fun w hS => hS.1) Tryz.underlying47 (by rfl) (by kernel_rfl) ?_
  (try simp only [Act.put, List.setIfInBounds_toArray, List.set_cons_zero, List.set_cons_succ])
  refine reg_take 1 (v := ?_) rfl (by kernel_rfl) (fun _ _ _ h => h) (by rfl) hH ?_ ?_
  rotate_left
  · intro w hSw; (try dsimp only at hSw); obtain ⟨s0, s1, s2⟩ := hSw; go_simp; (try with_reducible rfl)
  (try simp only [Act.put, List.setIfInBounds_toArray, List.set_cons_zero, List.set_cons_succ])
  refine reg_take 2 (v := ?_) rfl (by kernel_rfl) (fun _ _ _ h => h) (by rfl) hH ?_ ?_
  rotate_left
  · intro w hSw; (try dsimp only at hSw); obtain ⟨s0, s1, s2⟩ := hSw; go_simp; (try with_reducible rfl)
  (try simp only [Act.put, List.setIfInBounds_toArray, List.set_cons_zero, List.set_cons_succ])
  refine reg_take 3 (v := ?_) rfl (by kernel_rfl) (fun _ _ _ h => h) (by rfl) hH ?_ ?_
  rotate_left
  · intro w hSw; (try dsimp only at hSw); obtain ⟨s0, s1, s2⟩ := hSw; go_simp; (try with_reducible rfl)
  (try simp only [Act.put, List.setIfInBounds_toArray, List.set_cons_zero, List.set_cons_succ])
  refine reg_take 4 (v := ?_) rfl (by kernel_rfl) (fun _ _ _ h => h) (by rfl) hH ?_ ?_
  rotate_left
  · intro w hSw; (try dsimp only at hSw); obtain ⟨s0, s1, s2⟩ := hSw; go_simp; (try with_reducible rfl)
  (try simp only [Act.put, List.setIfInBounds_toArray, List.set_cons_zero, List.set_cons_succ])
  refine reg_take 5 (v := ?_) rfl (by kernel_rfl) (fun _ _ _ h => h) (by rfl) hH ?_ ?_
  rotate_left
  · intro w hSw; (try dsimp only at hSw); obtain ⟨s0, s1, s2⟩ := hSw; go_simp; (try with_reducible rfl)
  (try simp only [Act.put, List.setIfInBounds_toArray, List.set_cons_zero, List.set_cons_succ])
  refine wpAnyH_ready (rs := [6]) (by kernel_rfl) (by simp) ?_
  refine reg_cons 6 rfl (fun K' hK => ?_) AllReadyH.nil
  go_simp
  go_at_call 95
  refine KA2.out.mono ?_
  rintro e w9 ⟨l, A', c', rfl, hl, hlr, hb79⟩
  have hS9 : Vx w9 GY 47 [.int .u16 (idY : Int), .int .u16 (flY : Int), .slice (some ⟨bz, oz, none⟩) 1 qcY, .slice aAY raY.length acY, .slice bAY rbY.length bdY, .slice cAY rcY.length ccY] ∧ w9.cell? ⟨GX, 2, none⟩ = some (.slice (some ⟨b0, oo, none⟩) 1 qcX) ∧ w9.cell? ⟨b0, oo, none⟩ = some (.slice nA nn nc) := ⟨HVY7.out.below hb79 HVY7.out.lt, (hb79.cell (p := ⟨GX, 2, none⟩) HVX7.out.lt).trans x2, (hb79.cell (p := ⟨b0, oo, none⟩) hbq7).trans q0'⟩
  refine hK.out _ _ hS9 (fun hH => ?_)
  (try simp only [Act.put, List.setIfInBounds_toArray, List.set_cons_zero, List.set_cons_succ])
  clear hK
  refine reg_take 7 (v := ?_) rfl (by kernel_rfl) (fun _ _ _ h => h) (by rfl) hH ?_ ?_
  rotate_left
  · intro w hSw; (try dsimp only at hSw); obtain ⟨s0, s1, s2⟩ := hSw; go_simp; (try with_reducible rfl)
  (try simp only [Act.put, List.setIfInBounds_toArray, List.set_cons_zero, List.set_cons_succ])
  refine wpAnyH_done (by kernel_rfl) ?_ _
  have HB9 := Lib.hid (HB7.out.trans (hb79.mono HB7.out.size))
  have HLR := Lib.hid hlr
  have HL := Lib.hid hl
  clear hb79 hlr hl hS9 hH KA2 q0' hbq7 HX7 HY7 HVX7 HVY7 HB7 x0 x1 x2 x3 x4 x5 y0 y1 y2 y3 y4 y5 K9 u1
  obtain ⟨n, hn⟩ : ∃ n, n = l.length := ⟨_, rfl⟩
  have hn12 : n ≤ 1000000000000 := by rw [hn]; exact HLR.out.2.2.2.1
  rw [← hn] at HLR ⊢
  have HN := Lib.hid hn
  have HLN := Lib.hid (show ANS.length = n by rw [← HL.out, List.length_map, hn])
  clear hn
  go_wp2_with fail
  go_loopw [10, 11] (fun v10 v11 wr => ∃ (k m : Nat), k ≤ n ∧ m ≤ k ∧ v11 = .int .i64 k ∧ Hid (Srv.okA (ANS.take k) = true) ∧ Hid ((Srv.putsA (Srv.addA (ANS.take k))).length = m) ∧ Hid (OwM wr w9.heap.size 102 5 v10 m (acs (Srv.putsA (Srv.addA (ANS.take k))))) ∧ Hid (Below w9.heap.size w9 wr)) (fun _ v11 _ => n - (intOf v11).toNat)
  case atStart => exact ⟨0, 0, Nat.zero_le _, Nat.le_refl _, rfl, Lib.hid rfl, Lib.hid rfl, Lib.hid (OwM.nil _ _ _ _), Lib.hid (Below.refl _ _)⟩
  case round =>
    obtain ⟨k, m, hk, hmk, rfl, HOK, HM, HO, HB⟩ := hrel
    have hsz := HB.out.size
    have hadk : ∀ x ∈ Srv.putsA (Srv.addA (ANS.take k)), AdOk x := fun x hx => by
      obtain ⟨r0, hr0, rfl⟩ := Srv.addA_mem (Srv.putsA_mem hx)
      obtain ⟨k1, k2, k3, k4, k5⟩ := (HANS.out r0 (List.mem_of_mem_take hr0)).2
      exact adR_ok k5 k3 k4 k2
    obtain ⟨Ar, cr, rfl, har⟩ := AsRd.of_own HO.out HM.out (by omega) hadk
    have HAR := Lib.hid har
    clear hadk har
    rcases Nat.lt_or_ge k n with hlt | hge
    · have hkl : k < l.length := by rw [← HN.out]; exact hlt
      obtain ⟨b, o, rfl, hb, hc⟩ := (HLR.out.below HB.out).at_ hlt
      have hf := hc hkl
      have hrd := (HLR.out.below HB.out).2.2.2.2 _ (List.getElem_mem hkl)
      have hak : ANS.take (k + 1) = ANS.take k ++ [l[k].r] := by
        have h1 : k < ANS.length := by rw [HLN.out]; exact hlt
        rw [List.take_succ_eq_append_getElem h1]
        congr 2
        have : ANS[k]'h1 = (l.map RR.r)[k]'(by simpa using hkl) := by
          congr 1
          exact HL.out.symm
        rw [this, List.getElem_map]
      have hmem : l[k].r ∈ ANS := by rw [← HL.out]; exact List.mem_map.2 ⟨_, List.getElem_mem hkl, rfl⟩
      obtain ⟨x, hx⟩ : ∃ x, x = l[k] := ⟨_, rfl⟩
      rw [← hx] at hf hrd hak hmem
      clear hx hc
      obtain ⟨xA, xc, dA, dc, tA, tc, ⟨⟨xn, xty, xcl⟩, xttl, xd, xpr, xwe, xpo, xtg⟩⟩ := x
      obtain ⟨c0, c1, c2, c3, c4, c5, c6, c7, c8⟩ := hf.cells
      dsimp only at c0 c1 c2 c3 c4 c5 c6 c7 c8 hak hmem
      have HMEM := Lib.hid hmem
      have HAK := Lib.hid hak
      have HRD := Lib.hid hrd
      have hmlen : (Srv.putsA (Srv.addA (ANS.take (k + 1)))).length ≤ k + 1 := by
        refine Nat.le_trans (Srv.putsA_len _ _ rfl) (Nat.le_trans (Srv.addA_len _) ?_)
        rw [List.length_take]; omega
      have HMLEN := Lib.hid hmlen
      clear hf hmem hak hrd hmlen
      by_cases ht : xtg.length = 0
      · have ht1 : ((xtg.length : Int) == 0) = true := by rw [beq_iff_eq]; omega
        have hr0 : Srv.rootR (⟨⟨xn, xty, xcl⟩, xttl, xd, xpr, xwe, xpo, xtg⟩ : Rc) = true := decide_eq_true ht
        have HR0 := Lib.hid hr0
        clear ht hr0
        go_wp2_with fail
        go_roundw
        case rel =>
          refine ⟨k + 1, m, by omega, by omega, by go_num, Lib.hid ?_, Lib.hid ?_, Lib.hid ?_, HB⟩
          · rw [HAK.out, okA_snoc, HOK.out, HR0.out]; rfl
          · rw [HAK.out, addA_snoc, if_pos HR0.out, List.append_nil]; exact HM.out
          · rw [HAK.out, addA_snoc, if_pos HR0.out, List.append_nil]; exact HO.out
        case measure => simp [intOf]; omega
      · have ht1 : ((xtg.length : Int) == 0) = false := by rw [beq_eq_false_iff_ne]; omega
        have hr0 : Srv.rootR (⟨⟨xn, xty, xcl⟩, xttl, xd, xpr, xwe, xpo, xtg⟩ : Rc) = false := decide_eq_false ht
        have HR0 := Lib.hid hr0
        clear ht hr0
        by_cases hp : xpo = 0
        · have hp1 : ((xpo : Int) == 0) = true := by rw [beq_iff_eq]; omega
          have hTv : T = ([], 185) := by
            rw [HTF.out, if_pos]
            exact okA_bad HMEM.out HR0.out (by unfold Srv.badR; rw [decide_eq_true hp]; rfl)
          have HTV := Lib.hid hTv
          clear hTv hp
          go_wp2_with fail
          go_ret2
          exact ⟨_, by rw [HTV.out]; rfl, by rw [HTV.out]; exact OwM.nil _ _ _ _, HB9.out.trans (HB.out.mono HB9.out.size)⟩
        · have hp1 : ((xpo : Int) == 0) = false := by rw [beq_eq_false_iff_ne]; omega
          have HP := Lib.hid hp
          clear hp
          obtain ⟨HB_, hHB⟩ : ∃ b, b = Srv.hostN xtg := ⟨_, rfl⟩
          have htg := HRD.out.2.2.1
          have hszt := rightR_tgs (HANS.out _ HMEM.out).1
          dsimp only at htg hszt
          have KH := Lib.hid (fun W (hW : Below w9.heap.size wr W) => rhost_at tA tc xtg.length xtg HB_ hHB.symm W w9.heap.size rfl (htg.1.below hW) (by have := len_le_size xtg; omega) (fun x hx => by have := mem_le_size hx; omega))
          have HHB := Lib.hid hHB
          have HTG := Lib.hid htg
          have HSZ := Lib.hid hszt
          clear hHB htg hszt
          cases HB_ with
          | false =>
            have hTv : T = ([], 185) := by
              rw [HTF.out, if_pos]
              exact okA_bad HMEM.out HR0.out (by unfold Srv.badR; rw [← HHB.out]; simp)
            have HTV := Lib.hid hTv
            clear hTv
            go_wp2_with (go_at_call 96
                         refine (KH.out wr (Below.refl _ _)).mono ?_
                         rintro e w10 ⟨rfl, rfl⟩)
            go_ret2
            exact ⟨_, by rw [HTV.out]; rfl, by rw [HTV.out]; exact OwM.nil _ _ _ _, HB9.out.trans (HB.out.mono HB9.out.size)⟩
          | true =>
            obtain ⟨F, ef, hF⟩ : ∃ F ef, textR xtg = (F, ef) := ⟨_, _, rfl⟩
            have KT : Hid (Calls Tryz.prog 97 #[.slice tA xtg.length tc] wr fun e w' => e = .returned (.tuple #[.string ⟨F.toArray⟩, .int .i64 (ef : Int)]) ∧ Below wr.heap.size wr w') := Lib.hid (rtext_all wr tA tc xtg.length xtg F ef hF rfl (HTG.out.1.more hsz) (by have := HSZ.out; omega))
            have hFl : F.length ≤ 1020 := by have := textR_le xtg; rw [hF] at this; exact this
            have hw1 : IntKind.i64.wrap (xpo : Int) = (xpo : Int) := by have := HRD.out.2.2.2.2.2.2; dsimp only at this; rw [IntKind.wrap_i64]; omega
            have hw2 : IntKind.i64.wrap (xpr : Int) = (xpr : Int) := by have := HRD.out.2.2.2.2.1; dsimp only at this; rw [IntKind.wrap_i64]; omega
            have hw3 : IntKind.i64.wrap (xwe : Int) = (xwe : Int) := by have := HRD.out.2.2.2.2.2.1; dsimp only at this; rw [IntKind.wrap_i64]; omega
            have had : Srv.adR (⟨⟨xn, xty, xcl⟩, xttl, xd, xpr, xwe, xpo, xtg⟩ : Rc) = ⟨F, xpo, xpr, xwe, xttl⟩ := by unfold Srv.adR; rw [hF]
            have HAD := Lib.hid had
            clear hF had
            go_upto_region 22 with (first
              | (go_at_call 97
                 refine KT.out.mono ?_
                 rintro e w10 ⟨rfl, hb10⟩
                 have HB10 := Lib.hid (HB.out.trans (hb10.mono hsz))
                 have HAR10 := Lib.hid (HAR.out.goes hb10)
                 have e3_ := (hb10.cell (p := ⟨b, o + k * 9 + 3, none⟩) (Nat.lt_of_lt_of_le hb hsz)).trans c3
                 have e5_ := (hb10.cell (p := ⟨b, o + k * 9 + 5, none⟩) (Nat.lt_of_lt_of_le hb hsz)).trans c5
                 have e6_ := (hb10.cell (p := ⟨b, o + k * 9 + 6, none⟩) (Nat.lt_of_lt_of_le hb hsz)).trans c6
                 have e7_ := (hb10.cell (p := ⟨b, o + k * 9 + 7, none⟩) (Nat.lt_of_lt_of_le hb hsz)).trans c7
                 clear hb10)
              | (go_at_call 96
                 refine (KH.out wr (Below.refl _ _)).mono ?_
                 rintro e w10 ⟨rfl, rfl⟩))
            have KPUT : Hid (Calls Tryz.prog 98 #[.slice Ar m cr, .agg #[.string ⟨F.toArray⟩, .int .i64 (xpo : Int), .int .i64 (xpr : Int), .int .i64 (xwe : Int), .int .u32 (xttl : Int)]] w10.drew fun e w' => ∃ v, e = .returned v ∧ OwM w' w10.heap.size 102 5 v (Srv.putA ⟨F, xpo, xpr, xwe, xttl⟩ false (Srv.putsA (Srv.addA (ANS.take k)))).length (acs (Srv.putA ⟨F, xpo, xpr, xwe, xttl⟩ false (Srv.putsA (Srv.addA (ANS.take k))))) ∧ Below w10.heap.size w10 w') := Lib.hid (by
              have hbd := bl_drew w10
              have h := rput_at Ar cr m (Srv.putsA (Srv.addA (ANS.take k))) ⟨F, xpo, xpr, xwe, xttl⟩ w10.drew (HAR10.out.goes hbd) (by dsimp only; omega) (by omega)
              refine h.mono ?_
              rintro e w' ⟨v, rfl, ho, hb⟩
              exact ⟨v, rfl, ho, hbd.trans (hb.mono hbd.size)⟩)
            have hput : Srv.putsA (Srv.addA (ANS.take (k + 1))) = Srv.putA ⟨F, xpo, xpr, xwe, xttl⟩ false (Srv.putsA (Srv.addA (ANS.take k))) := by
              rw [HAK.out, addA_snoc, if_neg (by rw [HR0.out]; simp), HAD.out, Srv.putsA_snoc]
            rw [← hput] at KPUT
            clear hput
            refine wp_region_held_drew (S := fun W => W.cell? ⟨b, o + k * 9 + 3, none⟩ = some (.int .u32 (xttl : Int)) ∧ W.cell? ⟨b, o + k * 9 + 5, none⟩ = some (.int .u16 (xpr : Int)) ∧ W.cell? ⟨b, o + k * 9 + 6, none⟩ = some (.int .u16 (xwe : Int)) ∧ W.cell? ⟨b, o + k * 9 + 7, none⟩ = some (.int .u16 (xpo : Int))) (by kernel_rfl) ⟨e3_, e5_, e6_, e7_⟩ (fun hH => ?_)
            refine reg_take 0 (v := ?_) rfl (by kernel_rfl) (fun _ _ _ h => h) (by rfl) hH ?_ ?_
            rotate_left
            · intro w hSw; (try dsimp only at hSw); obtain ⟨s3, s5, s6, s7⟩ := hSw; go_simp; (try with_reducible rfl)
            (try simp only [Act.put, List.setIfInBounds_toArray, List.set_cons_zero, List.set_cons_succ])
            refine reg_take 1 (v := ?_) rfl (by kernel_rfl) (fun _ _ _ h => h) (by rfl) hH ?_ ?_
            rotate_left
            · intro w hSw; (try dsimp only at hSw); obtain ⟨s3, s5, s6, s7⟩ := hSw; go_simp; (try with_reducible rfl)
            (try simp only [Act.put, List.setIfInBounds_toArray, List.set_cons_zero, List.set_cons_succ])
            refine reg_take 2 (v := ?_) rfl (by kernel_rfl) (fun _ _ _ h => h) (by rfl) hH ?_ ?_
            rotate_left
            · intro w hSw; (try dsimp only at hSw); obtain ⟨s3, s5, s6, s7⟩ := hSw; go_simp; (try with_reducible rfl)
            (try simp only [Act.put, List.setIfInBounds_toArray, List.set_cons_zero, List.set_cons_succ])
            refine reg_take 3 (v := ?_) rfl (by kernel_rfl) (fun _ _ _ h => h) (by rfl) hH ?_ ?_
            rotate_left
            · intro w hSw; (try dsimp only at hSw); obtain ⟨s3, s5, s6, s7⟩ := hSw; go_simp; (try with_reducible rfl)
            (try simp only [Act.put, List.setIfInBounds_toArray, List.set_cons_zero, List.set_cons_succ])
            refine reg_take 4 (v := ?_) rfl (by kernel_rfl) (fun _ _ _ h => h) (by rfl) hH ?_ ?_
            rotate_left
            · intro w hSw; (try dsimp only at hSw); obtain ⟨s3, s5, s6, s7⟩ := hSw; go_simp; (try with_reducible rfl)
            (try simp only [Act.put, List.setIfInBounds_toArray, List.set_cons_zero, List.set_cons_succ])
            refine reg_take 5 (v := ?_) rfl (by kernel_rfl) (fun _ _ _ h => h) (by rfl) hH ?_ ?_
            rotate_left
            · intro w hSw; (try dsimp only at hSw); obtain ⟨s3, s5, s6, s7⟩ := hSw; go_simp; (try with_reducible rfl)
            (try simp only [Act.put, List.setIfInBounds_toArray, List.set_cons_zero, List.set_cons_succ])
            refine reg_take 6 (v := ?_) rfl (by kernel_rfl) (fun _ _ _ h => h) (by rfl) hH ?_ ?_
            rotate_left
            · intro w hSw; (try dsimp only at hSw); obtain ⟨s3, s5, s6, s7⟩ := hSw; go_simp; (try with_reducible rfl)
            (try simp only [Act.put, List.setIfInBounds_toArray, List.set_cons_zero, List.set_cons_succ])
            refine reg_take 7 (v := ?_) rfl (by kernel_rfl) (fun _ _ _ h => h) (by rfl) hH ?_ ?_
            rotate_left
            · intro w hSw; (try dsimp only at hSw); obtain ⟨s3, s5, s6, s7⟩ := hSw; go_simp; (try with_reducible rfl)
            (try simp only [Act.put, List.setIfInBounds_toArray, List.set_cons_zero, List.set_cons_succ])
            refine reg_take 8 (v := ?_) rfl (by kernel_rfl) (fun _ _ _ h => h) (by rfl) hH ?_ ?_
            rotate_left
            · intro w hSw; (try dsimp only at hSw); obtain ⟨s3, s5, s6, s7⟩ := hSw; go_simp; (try with_reducible rfl)
            (try simp only [Act.put, List.setIfInBounds_toArray, List.set_cons_zero, List.set_cons_succ])
            refine reg_take 9 (v := ?_) rfl (by kernel_rfl) (fun _ _ _ h => h) (by rfl) hH ?_ ?_
            rotate_left
            · intro w hSw; (try dsimp only at hSw); obtain ⟨s3, s5, s6, s7⟩ := hSw; go_simp; (try with_reducible rfl)
            (try simp only [Act.put, List.setIfInBounds_toArray, List.set_cons_zero, List.set_cons_succ])
            refine reg_take 10 (v := ?_) rfl (by kernel_rfl) (fun _ _ _ h => h) (by rfl) hH ?_ ?_
            rotate_left
            · intro w hSw; (try dsimp only at hSw); obtain ⟨s3, s5, s6, s7⟩ := hSw; go_simp; (try with_reducible rfl)
            (try simp only [Act.put, List.setIfInBounds_toArray, List.set_cons_zero, List.set_cons_succ])
            refine reg_take 11 (v := ?_) rfl (by kernel_rfl) (fun _ _ _ h => h) (by rfl) hH ?_ ?_
            rotate_left
            · intro w hSw; (try dsimp only at hSw); obtain ⟨s3, s5, s6, s7⟩ := hSw; go_simp; (try with_reducible rfl)
            (try simp only [Act.put, List.setIfInBounds_toArray, List.set_cons_zero, List.set_cons_succ])
            refine reg_take 12 (v := ?_) rfl (by kernel_rfl) (fun _ _ _ h => h) (by rfl) hH ?_ ?_
            rotate_left
            · intro w hSw; (try dsimp only at hSw); obtain ⟨s3, s5, s6, s7⟩ := hSw; go_simp; (try with_reducible rfl)
            (try simp only [Act.put, List.setIfInBounds_toArray, List.set_cons_zero, List.set_cons_succ])
            refine reg_take 13 (v := ?_) rfl (by kernel_rfl) (fun _ _ _ h => h) (by rfl) hH ?_ ?_
            rotate_left
            · intro w hSw; (try dsimp only at hSw); obtain ⟨s3, s5, s6, s7⟩ := hSw; go_simp; (try with_reducible rfl)
            (try simp only [Act.put, List.setIfInBounds_toArray, List.set_cons_zero, List.set_cons_succ])
            refine reg_take 14 (v := ?_) rfl (by kernel_rfl) (fun _ _ _ h => h) (by rfl) hH ?_ ?_
            rotate_left
            · intro w hSw; (try dsimp only at hSw); obtain ⟨s3, s5, s6, s7⟩ := hSw; go_simp; (try with_reducible rfl)
            (try simp only [Act.put, List.setIfInBounds_toArray, List.set_cons_zero, List.set_cons_succ])
            refine reg_take 15 (v := ?_) rfl (by kernel_rfl) (fun _ _ _ h => h) (by rfl) hH ?_ ?_
            rotate_left
            · intro w hSw; (try dsimp only at hSw); obtain ⟨s3, s5, s6, s7⟩ := hSw; go_simp; (try with_reducible rfl)
            (try simp only [Act.put, List.setIfInBounds_toArray, List.set_cons_zero, List.set_cons_succ])
            refine reg_take 16 (v := ?_) rfl (by kernel_rfl) (fun _ _ _ h => h) (by rfl) hH ?_ ?_
            rotate_left
            · intro w hSw; (try dsimp only at hSw); obtain ⟨s3, s5, s6, s7⟩ := hSw; go_simp; (try with_reducible rfl)
            (try simp only [Act.put, List.setIfInBounds_toArray, List.set_cons_zero, List.set_cons_succ])
            refine reg_take 17 (v := ?_) rfl (by kernel_rfl) (fun _ _ _ h => h) (by rfl) hH ?_ ?_
            rotate_left
            · intro w hSw; (try dsimp only at hSw); obtain ⟨s3, s5, s6, s7⟩ := hSw; go_simp; (try with_reducible rfl)
            (try simp only [Act.put, List.setIfInBounds_toArray, List.set_cons_zero, List.set_cons_succ])
            refine reg_take 18 (v := ?_) rfl (by kernel_rfl) (fun _ _ _ h => h) (by rfl) hH ?_ ?_
            rotate_left
            · intro w hSw; (try dsimp only at hSw); obtain ⟨s3, s5, s6, s7⟩ := hSw; go_simp; (try with_reducible rfl)
            (try simp only [Act.put, List.setIfInBounds_toArray, List.set_cons_zero, List.set_cons_succ])
            refine reg_take 19 (v := ?_) rfl (by kernel_rfl) (fun _ _ _ h => h) (by rfl) hH ?_ ?_
            rotate_left
            · intro w hSw; (try dsimp only at hSw); obtain ⟨s3, s5, s6, s7⟩ := hSw; go_simp; (try with_reducible rfl)
            (try simp only [Act.put, List.setIfInBounds_toArray, List.set_cons_zero, List.set_cons_succ])
            refine reg_take 20 (v := ?_) rfl (by kernel_rfl) (fun _ _ _ h => h) (by rfl) hH ?_ ?_
            rotate_left
            · intro w hSw; (try dsimp only at hSw); obtain ⟨s3, s5, s6, s7⟩ := hSw; go_simp; (try with_reducible rfl)
            (try simp only [Act.put, List.setIfInBounds_toArray, List.set_cons_zero, List.set_cons_succ])
            refine reg_take 21 (v := ?_) rfl (by kernel_rfl) (fun _ _ _ h => h) (by rfl) hH ?_ ?_
            rotate_left
            · intro w hSw; (try dsimp only at hSw); obtain ⟨s3, s5, s6, s7⟩ := hSw; go_simp; (try with_reducible rfl)
            (try simp only [Act.put, List.setIfInBounds_toArray, List.set_cons_zero, List.set_cons_succ])
            refine reg_take 22 (v := ?_) rfl (by kernel_rfl) (fun _ _ _ h => h) (by rfl) hH ?_ ?_
            rotate_left
            · intro w hSw; (try dsimp only at hSw); obtain ⟨s3, s5, s6, s7⟩ := hSw; go_simp; (try with_reducible rfl)
            (try simp only [Act.put, List.setIfInBounds_toArray, List.set_cons_zero, List.set_cons_succ])
            refine reg_take 23 (v := ?_) rfl (by kernel_rfl) (fun _ _ _ h => h) (by rfl) hH ?_ ?_
            rotate_left
            · intro w hSw; (try dsimp only at hSw); obtain ⟨s3, s5, s6, s7⟩ := hSw; go_simp; (try with_reducible rfl)
            (try simp only [Act.put, List.setIfInBounds_toArray, List.set_cons_zero, List.set_cons_succ])
            refine reg_take 24 (v := ?_) rfl (by kernel_rfl) (fun _ _ _ h => h) (by rfl) hH ?_ ?_
            rotate_left
            · intro w hSw; (try dsimp only at hSw); obtain ⟨s3, s5, s6, s7⟩ := hSw; go_simp; (try with_reducible rfl)
            (try simp only [Act.put, List.setIfInBounds_toArray, List.set_cons_zero, List.set_cons_succ])
            refine reg_take 25 (v := ?_) rfl (by kernel_rfl) (fun _ _ _ h => h) (by rfl) hH ?_ ?_
            rotate_left
            · intro w hSw; (try dsimp only at hSw); obtain ⟨s3, s5, s6, s7⟩ := hSw; go_simp; (try with_reducible rfl)
            (try simp only [Act.put, List.setIfInBounds_toArray, List.set_cons_zero, List.set_cons_succ])
            have hb10 : b < w10.heap.size := Nat.lt_of_lt_of_le hb HB10.out.size
            refine wpAnyH_ready (rs := [26]) (by kernel_rfl) (by simp) ?_
            refine reg_cons 26 rfl (fun K' hK => ?_) AllReadyH.nil
            go_simp
            (try rw [hw1])
            (try rw [hw2])
            (try rw [hw3])
            go_at_call 98
            refine KPUT.out.mono ?_
            rintro e w11 ⟨v11, rfl, ho11, hb11⟩
            refine hK.out _ _ ⟨(hb11.cell (p := ⟨b, o + k * 9 + 3, none⟩) hb10).trans e3_, (hb11.cell (p := ⟨b, o + k * 9 + 5, none⟩) hb10).trans e5_, (hb11.cell (p := ⟨b, o + k * 9 + 6, none⟩) hb10).trans e6_, (hb11.cell (p := ⟨b, o + k * 9 + 7, none⟩) hb10).trans e7_⟩ (fun hH => ?_)
            (try simp only [Act.put, List.setIfInBounds_toArray, List.set_cons_zero, List.set_cons_succ])
            clear hK
            refine reg_take 27 (v := ?_) rfl (by kernel_rfl) (fun _ _ _ h => h) (by rfl) hH ?_ ?_
            rotate_left
            · intro w hSw; (try dsimp only at hSw); obtain ⟨s3, s5, s6, s7⟩ := hSw; go_simp; (try with_reducible rfl)
            (try simp only [Act.put, List.setIfInBounds_toArray, List.set_cons_zero, List.set_cons_succ])
            refine wpAnyH_done (by kernel_rfl) ?_ _
            have HB11 := Lib.hid (HB10.out.trans (hb11.mono HB10.out.size))
            have HO11 := Lib.hid (OwM.mono ho11 HB10.out.size)
            clear ho11 hb11
            go_wp2_with fail
            go_roundw
            case rel =>
              refine ⟨k + 1, _, by omega, HMLEN.out, by go_num, Lib.hid ?_, Lib.hid rfl, HO11, HB11⟩
              rw [HAK.out, okA_snoc, HOK.out, HR0.out]
              unfold Srv.badR
              rw [← HHB.out, decide_eq_false HP.out]; rfl
            case measure => simp [intOf]; omega
    · have hkn : k = n := by omega
      subst hkn
      have htk : ANS.take k = ANS := List.take_of_length_le (by rw [HLN.out]; exact Nat.le_refl _)
      rw [htk] at HOK HM HO
      have hTv : T = (Srv.putsA (Srv.addA ANS), 0) := by rw [HTF.out, if_neg (by rw [HOK.out]; simp), Srv.puts_eq]
      have HTV := Lib.hid hTv
      clear hTv htk
      go_wp2_with fail
      go_ret2
      refine ⟨_, by rw [HTV.out]; rfl, ?_, HB9.out.trans (HB.out.mono HB9.out.size)⟩
      rw [HTV.out]
      dsimp only
      rw [HM.out]
      exact OwM.mono HO.out HB9.out.size
end Go.Proofs.YtlipmlbijddopaaGreatDoor
set_option linter.unusedVariables false
set_option linter.unusedSimpArgs false
namespace Go.Proofs.YtlipmlbijddopaaGreatDoor
open Go.RowKit
set_option maxRecDepth 100000 in
set_option maxHeartbeats 1000000 in
theorem rsame_at (A1 A2 : Option Addr) (c1 c2 n : Nat) (l : List Ad) (w : World) (h1 : AsRd w w.heap.size A1 c1 n l) (h2 : AsRd w w.heap.size A2 c2 n l) :
    Calls Tryz.prog 42 #[.slice A1 n c1, .slice A2 n c2] w fun e w' => e = .returned (.bool true) ∧ Below w.heap.size w w' := by
  have H1 := Lib.hid h1
  have H2 := Lib.hid h2
  have hnl := h1.2.2.2.1
  have HLN := Lib.hid h1.2.1
  clear h1 h2
  have mixed : Tryz.prog.follows .mixedOrders = true := by kernel_rfl
  go_enter Tryz.func42, Tryz.ntmps42
  go_wp2_with fail
  go_loopw [14] (fun vk wr => ∃ k : Nat, k ≤ n ∧ vk = .int .i64 k ∧ Hid (Below w.heap.size w wr)) (fun vk _ => n - (intOf vk).toNat)
  case atStart => exact ⟨0, Nat.zero_le _, rfl, Lib.hid (Below.refl _ _)⟩
  case round =>
    obtain ⟨k, hk, rfl, HB⟩ := hrel
    rcases Nat.lt_or_ge k n with hlt | hge
    · have hkl : k < l.length := by rw [HLN.out]; exact hlt
      obtain ⟨b, o, rfl, hb, hc⟩ := H1.out.at_ hlt
      obtain ⟨b', o', rfl, hb', hc'⟩ := H2.out.at_ hlt
      have f1 := (hc hkl).below HB.out hb
      have f2 := (hc' hkl).below HB.out hb'
      obtain ⟨x, hx⟩ : ∃ x, x = l[k] := ⟨_, rfl⟩
      rw [← hx] at f1 f2
      clear hx hc hc'
      obtain ⟨xh, xpo, xpr, xwe, xttl⟩ := x
      obtain ⟨c0_, c1_, c2_, c3_, c4_⟩ := f1.cells
      dsimp only at c0_ c1_ c2_ c3_ c4_
      have hbx := Vx.new wr 31 [.string ⟨xh.toArray⟩, .int .i64 xpo, .int .i64 xpr, .int .i64 xwe, .int .u32 (xttl : Int)]
      have hbl := bl_new wr (.cells #[.string ⟨xh.toArray⟩, .int .i64 xpo, .int .i64 xpr, .int .i64 xwe, .int .u32 (xttl : Int)] 31)
      have HF2 := Lib.hid f2
      clear f1 f2
      go_upto_region 6 with fail
      have f3 := HF2.out.below hbl (Nat.lt_of_lt_of_le hb' HB.out.size)
      have HB6 := Lib.hid (HB.out.trans (hbl.mono HB.out.size))
      obtain ⟨GX, hGX⟩ : ∃ G, G = wr.heap.size := ⟨_, rfl⟩
      rw [← hGX] at hbx ⊢
      generalize wr.alloc (.cells #[.string ⟨xh.toArray⟩, .int .i64 xpo, .int .i64 xpr, .int .i64 xwe, .int .u32 (xttl : Int)] 31) = w6 at hbx f3 HB6 ⊢
      obtain ⟨d0, d1, d2, d3, d4⟩ := hbx.c5
      obtain ⟨e0, e1, e2, e3, e4⟩ := f3.cells
      dsimp only at e0 e1 e2 e3 e4
      clear hbx hbl hGX c0_ c1_ c2_ c3_ c4_ f3
      go_quiet (fail)
      go_wp2_with fail
      go_roundw
      case rel => exact ⟨k + 1, by omega, by go_num, Lib.hid (bl_drewN HB6.out _)⟩
      case measure => simp [intOf]; omega
    · have hkn : n = k := by omega
      subst hkn
      go_wp2_with fail
      go_ret
      exact ⟨rfl, HB.out⟩
set_option maxRecDepth 100000 in
set_option maxHeartbeats 2000000 in
theorem takes_at (A1 A2 : Option Addr) (c1 c2 L1 L2 : Nat) (q r : List UInt8) (w : World) (hL1 : q.length = L1) (hL2 : r.length = L2) (h1 : Rd w w.heap.size A1 L1 (bc q)) (h2 : Rd w w.heap.size A2 L2 (bc r)) (hc1 : L1 ≤ c1) (hc2 : L2 ≤ c2) (hb1 : L1 ≤ 140737488351232) (hb2 : L2 ≤ 140737488351232) :
    Calls Tryz.prog 13 #[.slice A1 L1 c1, .slice A2 L2 c2] w fun e w' => e = .returned (.bool true) ∧ Below w.heap.size w w' := by
  have HL1 := Lib.hid hL1
  have HL2 := Lib.hid hL2
  have H1 := Lib.hid h1
  have H2 := Lib.hid h2
  have K1 := Lib.hid (bclone_at A1 c1 L1 q w w.heap.size hL1 (Nat.le_refl _) h1 (by omega))
  have K2 : Hid (∀ W, Below w.heap.size w W → _) := Lib.hid (fun W hW => bclone_at A2 c2 L2 r W W.heap.size hL2 (Nat.le_refl _) (h2.goes hW) (by omega))
  have K4 : Hid (∀ W, Below w.heap.size w W → Calls Tryz.prog 41 #[.slice A1 L1 c1, .slice A2 L2 c2] W fun e w' => ∃ v, e = .returned (.tuple #[v, .int .i64 ((Srv.takeN q r).2 : Int)]) ∧ OwM w' W.heap.size 102 5 v (Srv.takeN q r).1.length (acs (Srv.takeN q r).1) ∧ Below W.heap.size W w') := Lib.hid (fun W hW => by
    have g1 := h1.goes hW
    have g2 := h2.goes hW
    subst hL1 hL2
    exact rtake_at A1 A2 c1 c2 q r W g1 g2 hc1 hc2 (by omega) (by omega))
  obtain ⟨T, hT⟩ : ∃ T, T = Srv.takeN q r := ⟨_, rfl⟩
  have K3 : Hid (∀ (W : World) (A3 A4 : Option Addr) (c3 c4 : Nat), Rd W W.heap.size A3 L1 (bc q) → Rd W W.heap.size A4 L2 (bc r) → L1 ≤ c3 → L2 ≤ c4 → _) := Lib.hid (fun W A3 A4 c3 c4 g1 g2 g3 g4 => stake_at A3 A4 c3 c4 L1 L2 q r W hL1 hL2 g1 g2 g3 g4 (by omega) (by omega))
  rw [← hT] at K3 K4
  clear hT hL1 hL2 h1 h2
  obtain ⟨tl, te⟩ := T
  dsimp only at K3 K4
  obtain ⟨tn, htn⟩ : ∃ n, n = tl.length := ⟨_, rfl⟩
  rw [← htn] at K3 K4
  have HTN := Lib.hid htn.symm
  clear htn
  go_enter Tryz.func13, Tryz.ntmps13
  go_wp2_with (first
    | (go_at_call 43
       have _t := tk1
       refine (beq_at2 A4 A2 c4 c2 L2 L2 r r true w5 (by simp) HL2.out HL2.out HR45.out (H2.out.goes HB5.out)).mono ?_
       rintro e w5 ⟨rfl, rfl⟩)
    | (go_at_call 43
       refine (beq_at2 A3 A1 c3 c1 L1 L1 q q true w5 (by simp) HL1.out HL1.out HR35.out (H1.out.goes HB5.out)).mono ?_
       rintro e w5 ⟨rfl, rfl⟩
       have tk1 := True.intro)
    | (go_at_call 42
       refine (rsame_at A5 A6 c5 c6 tn tl w4 HA54.out HA64.out).mono ?_
       rintro e w5 ⟨rfl, hb5⟩
       have HB5 := Lib.hid (HB4.out.trans (hb5.mono HB4.out.size))
       have HR35 := Lib.hid (HR34.out.goes hb5)
       have HR45 := Lib.hid (HR44.out.goes hb5)
       clear hb5)
    | (go_at_call 41
       refine (K4.out w3 HB3.out).mono ?_
       rintro e w4 ⟨v6, rfl, ho6, hb4⟩
       obtain ⟨A6, c6, rfl, ha6⟩ := AsRd.of_own ho6 HTN.out (by omega) HAD.out
       have HA64 := Lib.hid ha6
       have HA54 := Lib.hid (HA53.out.goes hb4)
       have HR34 := Lib.hid (HR33.out.goes hb4)
       have HR44 := Lib.hid (HR43.out.goes hb4)
       have HB4 := Lib.hid (HB3.out.trans (hb4.mono HB3.out.size))
       clear ho6 ha6 hb4)
    | (go_at_call 35
       refine (K3.out w2 A3 A4 c3 c4 HR32.out HR42.out hc3 hc4).mono ?_
       rintro e w3 ⟨v5, rfl, ho5, had, htl, hb3⟩
       obtain ⟨A5, c5, rfl, ha5⟩ := AsRd.of_own ho5 HTN.out (by omega) had
       have HAD := Lib.hid had
       have HA53 := Lib.hid ha5
       have HR33 := Lib.hid (HR32.out.goes hb3)
       have HR43 := Lib.hid (HR42.out.goes hb3)
       have HB3 := Lib.hid (HB2.out.trans (hb3.mono HB2.out.size))
       clear ho5 ha5 hb3 had)
    | (go_at_call 20
       refine (K2.out w1 HB1.out).mono ?_
       rintro e w2 ⟨v4, rfl, ho4, hb2⟩
       obtain ⟨A4, c4, rfl, hc4, hr4⟩ := Ow.form7 ho4 L2 (by rw [bc_length, HL2.out])
       have HR42 := Lib.hid hr4
       have HR32 := Lib.hid (HR31.out.goes hb2)
       have HB2 := Lib.hid (HB1.out.trans (hb2.mono HB1.out.size))
       clear ho4 hr4 hb2)
    | (go_at_call 20
       refine K1.out.mono ?_
       rintro e w1 ⟨v3, rfl, ho3, hb1⟩
       obtain ⟨A3, c3, rfl, hc3, hr3⟩ := Ow.form7 ho3 L1 (by rw [bc_length, HL1.out])
       have HR31 := Lib.hid hr3
       have HB1 := Lib.hid hb1
       clear ho3 hr3 hb1))
  go_ret
  exact ⟨rfl, HB5.out⟩
set_option maxRecDepth 100000 in
set_option maxHeartbeats 1000000 in
theorem srvTakes_any (A0 : Option Addr) (c0 : Nat) (q : List UInt8) (A1 : Option Addr) (c1 : Nat) (r : List UInt8) (w : World) (_ : True) (h0 : Rd w w.heap.size A0 q.length (bc q)) (hc0 : q.length ≤ c0) (hb0 : q.length ≤ 140737488351232) (h1 : Rd w w.heap.size A1 r.length (bc r)) (hc1 : r.length ≤ c1) (hb1 : r.length ≤ 140737488351232) :
    Calls Tryz.prog 3 #[.slice A0 q.length c0, .slice A1 r.length c1] w fun e w' => e = .returned (.bool true) ∧ Below w.heap.size w w' := by
  have K := Lib.hid (takes_at A0 A1 c0 c1 q.length r.length q r w rfl rfl h0 h1 hc0 hc1 hb0 hb1)
  have HAW := Lib.hid sawake_any
  clear h0 h1
  by_cases hq : 400 < q.length
  · go_enter Tryz.func3, Tryz.ntmps3
    go_wp2_with (go_at_call 14
                 refine (HAW.out w).mono ?_
                 rintro e w2 ⟨rfl, hb2⟩)
    go_ret
    exact ⟨rfl, hb2⟩
  · by_cases hr : 1200 < r.length
    · go_enter Tryz.func3, Tryz.ntmps3
      go_wp2_with (go_at_call 14
                   refine (HAW.out w).mono ?_
                   rintro e w2 ⟨rfl, hb2⟩)
      go_ret
      exact ⟨rfl, hb2⟩
    · go_enter Tryz.func3, Tryz.ntmps3
      go_wp2_with (first
        | (go_at_call 14
           refine (HAW.out w1).mono ?_
           rintro e w2 ⟨rfl, hb2⟩)
        | (go_at_call 13
           refine K.out.mono ?_
           rintro e w1 ⟨rfl, hb1⟩))
      go_ret
      exact ⟨rfl, hb1.trans (hb2.mono hb1.size)⟩
end Go.Proofs.YtlipmlbijddopaaGreatDoor
set_option linter.unusedVariables false
namespace Go.Proofs.YtlipmlbijddopaaGreatDoor
open Go.ChangeShapes Go.WideShapes Go.ChangeAt Go.RowKit
set_option maxRecDepth 100000 in
theorem srvTakes_lifted (os : Os) (started : os.Started) (H : Type) (enc : TypeId × Value → H) :
    ReturnsInHanded {} Tryz.checked os 3 .any (fun w args => (Rows.srvTakesSpec.pre enc Tryz.checked.prog Tryz.f3 [] false w args ∧ laidMetH Tryz.checked.prog Rows.srvTakesRow.laid w) ∧ sizedMet enc Tryz.checked.prog Tryz.f3 (OpenSpec.ofChange Rows.srvTakesSpec) false w args) (Rows.srvTakesSpec.post enc Tryz.checked.prog Tryz.f3 false true false false) := by
  refine law_lifted_laid (C := Tryz.checked) (P := Tryz.prog) rfl Tryz.own Tryz.laidOut Tryz.underlying4 started Tryz.func3 rfl (by kernel_rfl) rfl [22, 22] (by rw [Tryz.params3])
    (fun ds h => by
      match ds, h with
      | [d0, d1], _ => rfl) (by kernel_rfl) Rows.srvTakesRow.laid (by kernel_rfl)
    (ChangeSpec.witness_shaped (enc := enc) (C := Tryz.checked) (os := os) (X := fun w _ => laidMetH Tryz.prog Rows.srvTakesRow.laid w) false (World.laidAll Tryz.prog os Rows.srvTakesRow.laid) #[.slice none 0 0, .slice none 0 0] 8 (World.laidAll_os _ _ _) (World.shaped_of_ZipB (by kernel_rfl) (by kernel_rfl)) (by kernel_rfl) (by kernel_rfl) (by kernel_rfl)
      (by rw [MakeChecks.laidMetH_plain _ _ _ (by kernel_rfl)]; exact laidMet_laidAll _ (by kernel_rfl) (by kernel_rfl))) ?_
  intro W base args ds p hval hA hL hS
  obtain ⟨v0, v1, d0, d1, p0, p1, rfl, rfl, rfl, h0, h1⟩ := trodAll_two hA.trod
  have hre := hA.reach
  rw [Tryz.params3] at hval
  have w0 : ∀ n ∈ d0.weights Tryz.prog 22, n ≤ reachBytes := fun n hn => by simpa using List.all_eq_true.1 hre n (DataW.weights_mem_each (j := 0) rfl rfl n hn)
  obtain ⟨A0, c0, l0, rfl, hc0, hb0, r0⟩ := open_bs Tryz.underlying22 Tryz.underlying5 Tryz.cellsByte Tryz.bytesByte (hval 0 _ v0 rfl rfl) h0 w0
  have w1 : ∀ n ∈ d1.weights Tryz.prog 22, n ≤ reachBytes := fun n hn => by simpa using List.all_eq_true.1 hre n (DataW.weights_mem_each (j := 1) rfl rfl n hn)
  obtain ⟨A1, c1, l1, rfl, hc1, hb1, r1⟩ := open_bs Tryz.underlying22 Tryz.underlying5 Tryz.cellsByte Tryz.bytesByte (hval 1 _ v1 rfl rfl) h1 w1
  exact srvTakes_any A0 c0 l0 A1 c1 l1 W trivial r0 hc0 hb0 r1 hc1 hb1

theorem srvTakes_holds : Rows.SrvTakesSaid :=
  OpenClaim.holds_of_wide 3 Tryz.f3 rfl rfl rfl rfl rfl rfl rfl ⟨rfl, rfl, rfl, rfl, rfl⟩ rfl rfl rfl rfl rfl (by kernel_rfl) Tryz.func3 (by kernel_rfl)
    (of_decide_eq_true (by kernel_rfl)) (by unfold Func.isWrapper; first | (rw [if_pos (by decide +kernel)]; kernel_rfl) | (rw [if_neg (by decide +kernel)]; exact ⟨rfl, rfl⟩))
    (fun os started H enc _ => srvTakes_lifted os started H enc)

theorem srvTakes_card : Rows.SrvTakesCardSaid :=
  Claim7.holds_tied_plain_at .later [] [.data, .data, .data] true (true, "62a6199dd28d2a080bed368305dcb87b9b8d93dca5598cd0c61d1c0b6c630e34") false
    srvTakes_holds (fun _ h => by cases h) (by kernel_rfl) (fun _ h => by cases h) srvTakes_row_tie rfl ⟨rfl, rfl⟩ (by kernel_rfl) rfl
    (fun f fn hf hfn => by
      obtain rfl : f = 3 := Option.some.inj ((show Tryz.prog.funcNamed "gauger/gaugerlaw18.SrvTakes" = some 3 by kernel_rfl).symm.trans hf) |>.symm
      obtain rfl : fn = Tryz.f3 := (Option.some.inj (Tryz.func3.symm.trans hfn)).symm
      exact ⟨by kernel_rfl, fun j t ht => by
        rw [Tryz.params3] at ht
        have ht2 : t ∈ ([22, 22] : List TypeId) := by simpa using Array.mem_of_getElem? ht
        have hall : ([22, 22] : List TypeId).all (fun t => Tryz.prog.wantsStandIn t == false) = true := by kernel_rfl
        exact beq_iff_eq.1 (List.all_eq_true.1 hall t ht2)⟩)
    (by kernel_rfl)
end Go.Proofs.YtlipmlbijddopaaGreatDoor
