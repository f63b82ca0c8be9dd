/-
  OpenG; SrvN; SrvFr; SrvTiers; LSTiers
-/
import Derived.Test.YtlipmlbijddopaaGreatDoorZ03
import Derived.Test.YtlipmlbijddopaaGreatDoorZ02
import Derived.Test.YtlipmlbijddopaaGreatDoorZ26
import Derived.Lib.AppendIntMem
import Derived.Lib.LaidTab
import Derived.Test.YtlipmlbijddopaaGreatDoorZ28
import Derived.Test.YtlipmlbijddopaaGreatDoorTie
import Derived.Test.YtlipmlbijddopaaGreatDoorCards
set_option linter.unusedVariables false
set_option linter.unusedSimpArgs false
namespace Go.Proofs.YtlipmlbijddopaaGreatDoor
def NR0 (w : World) (B : Nat) (A : Option Addr) (c : Nat) (n : List (List UInt8)) : Prop := Rd w B A n.length (sc n) ∧ n.length ≤ c ∧ n.length * 16 ≤ 140737488351232 ∧ ∀ s ∈ n, s.length ≤ 140737488351232
open Go.ChangeShapes Go.WideShapes Go.ChangeAt Go.RowKit
section
variable {P : Program} {H : Type} {enc : TypeId × Value → H} {W : World}
theorem weights_all_memS {P : Program} {e : TypeId} {d : DataW H} {n : Nat} (hn : n ∈ d.weights P e) : ∀ {l : List (DataW H)}, d ∈ l → n ∈ DataW.weightsAll P e l := by
  intro l
  induction l with
  | nil => intro h; cases h
  | cons b l ih =>
    intro h
    simp only [DataW.weightsAll, List.mem_append]
    rcases List.mem_cons.1 h with rfl | h
    · exact .inl hn
    · exact .inr (ih h)
theorem open_cellB {t e : TypeId} {V : Value} {d : DataW H} {ps : List MemPlace} {n : Nat} (ht : P.underlying t = some (.slice e)) (he : P.underlying e = some (.int .u8)) (hc : P.cellsOf e = 1) (hby : P.bytesOf e = 1)
    (h : DataW.trod enc P W 0 (fun _ => true) true n t [V] = some (d, ps)) (hre : ∀ n ∈ d.weights P t, n ≤ reachBytes) :
    ∃ (A : Option Addr) (c : Nat) (l : List UInt8), V = .slice A l.length c ∧ Rd W W.heap.size A l.length (bc l) ∧ l.length ≤ c ∧ l.length ≤ 140737488351232 := by
  rcases open_ints ht he hc h with ⟨hcs, hx⟩ | ⟨a, len, cap, zs, hcs, _, hl, hm, hz, hx, hcell, hwz⟩
  · simp only [List.cons.injEq, and_true] at hcs
    exact ⟨none, 0, [], hcs, Rd.nil _ _ _, by simp, by simp⟩
  · simp only [List.cons.injEq, and_true] at hcs
    subst hcs
    simp only [if_true] at hz
    simp only [Prod.mk.injEq] at hx
    obtain ⟨rfl, rfl⟩ := hx
    obtain ⟨l, hl1, hl2⟩ := bytes_of_wf (zs.take len) (fun z hz => hwz z (List.mem_of_mem_take hz))
    rw [List.length_take, hz, Nat.min_eq_left hl] at hl2
    have hw := hre (((lits (H := H) .u8 (zs.take len)).length + (lits (H := H) .u8 (zs.drop len)).length) * P.bytesOf e) (by simp [DataW.weights, ht])
    simp only [lits, List.length_map, List.length_take, List.length_drop, hby, reachBytes, hz] at hw
    refine ⟨some a, cap, l, by rw [hl2], ?_, by rw [hl2]; exact hl, by omega⟩
    rw [hl2]
    refine rd_of_cells _ (by simpa using hl2) fun j u hu => ?_
    rw [← hl1, List.getElem?_map] at hu
    obtain ⟨z, hz1, rfl⟩ := Option.map_eq_some_iff.1 hu
    have hj : j < len := by
      rcases Nat.lt_or_ge j len with h1 | h1
      · exact h1
      · rw [List.getElem?_eq_none (by rw [List.length_take]; omega)] at hz1; cases hz1
    rw [List.getElem?_take_of_lt hj] at hz1
    rw [hcell j (by omega), List.getD_eq_getElem?_getD, hz1]; rfl
theorem open_cellS {t e : TypeId} {V : Value} {d : DataW H} {ps : List MemPlace} {n : Nat} (ht : P.underlying t = some (.slice e)) (he : P.underlying e = some .string) (hc : P.cellsOf e = 1) (hby : P.bytesOf e = 16)
    (h : DataW.trod enc P W 0 (fun _ => true) true n t [V] = some (d, ps)) (hre : ∀ n ∈ d.weights P t, n ≤ reachBytes) :
    ∃ (A : Option Addr) (c : Nat) (l : List (List UInt8)), V = .slice A l.length c ∧ NR0 W W.heap.size A c l := by
  rcases open_strings ht he hc h with ⟨hcs, hx⟩ | ⟨a, len, cap, ss, hcs, _, hl, hm, hz, hx, hcell, hwz⟩
  · simp only [List.cons.injEq, and_true] at hcs
    exact ⟨none, 0, [], hcs, Rd.nil _ _ _, by simp, by simp, by simp⟩
  · simp only [List.cons.injEq, and_true] at hcs
    subst hcs
    simp only [if_true] at hz
    simp only [Prod.mk.injEq] at hx
    obtain ⟨rfl, rfl⟩ := hx
    have hw := hre (((strs (H := H) (ss.take len)).length + (strs (H := H) (ss.drop len)).length) * P.bytesOf e) (by simp [DataW.weights, ht])
    simp only [strs, List.length_map, List.length_take, List.length_drop, hby, reachBytes, hz] at hw
    have hl2 : ((ss.take len).map fun s => s.data.toList).length = len := by rw [List.length_map, List.length_take, hz, Nat.min_eq_left hl]
    refine ⟨some a, cap, (ss.take len).map fun s => s.data.toList, by rw [hl2], ?_, by rw [hl2]; exact hl, by rw [hl2]; omega, fun x hx => ?_⟩
    · rw [hl2]
      refine rd_of_cells _ (by simpa using hl2) fun j u hu => ?_
      unfold sc at hu
      rw [List.map_map, List.getElem?_map] at hu
      obtain ⟨s, hs1, rfl⟩ := Option.map_eq_some_iff.1 hu
      have hj : j < len := by
        rcases Nat.lt_or_ge j len with h1 | h1
        · exact h1
        · rw [List.getElem?_eq_none (by rw [List.length_take]; omega)] at hs1; cases hs1
      rw [List.getElem?_take_of_lt hj] at hs1
      rw [hcell j (by omega), List.getD_eq_getElem?_getD, hs1]
      simp [strV]
    · obtain ⟨s, hs, rfl⟩ := List.mem_map.1 hx
      have hw2 := hre s.data.toList.length (by
        simp only [DataW.weights, ht, List.mem_cons, List.mem_append]
        right; left
        exact weights_all_memS (d := .lit (.string s.data.toList)) (by simp [DataW.weights]) (List.mem_map.2 ⟨s, hs, rfl⟩))
      simpa [reachBytes] using hw2
theorem nat_of {k : IntKind} {z : Int} {m : Nat} (h : (Lit.int k z).wf = true) (hm : k.min = 0 ∧ k.max < (m : Int)) : ∃ n : Nat, z = (n : Int) ∧ n < m := by
  simp [Lit.wf, hm.1] at h
  exact ⟨z.toNat, by omega, by omega⟩
/-- the fields' types and places of a struct -/
def fieldsOf (P : Program) (t : TypeId) : Option (List (TypeId × Nat)) := match P.underlying t with
  | some (.struct fs) => some (fs.toList.map fun f => (f.type, f.offset))
  | _ => none
theorem trod_structL {t : TypeId} {l : List (TypeId × Nat)} {cs : List Value} {d : DataW H} {ps : List MemPlace} {n : Nat} (hf : fieldsOf P t = some l) (h : DataW.trod enc P W 0 (fun _ => true) true n t cs = some (d, ps)) :
    ∃ (xs : List (DataW H × List MemPlace)) (m : Nat), cs.length = P.cellsOf t ∧ xs.length = l.length ∧
      ∀ (i : Nat) (e : TypeId) (o : Nat), l[i]? = some (e, o) → ∃ y, DataW.trod enc P W 0 (fun _ => true) true m e ((cs.drop o).take (P.cellsOf e)) = some y ∧ ∀ n ∈ y.1.weights P e, n ∈ d.weights P t := by
  unfold fieldsOf at hf
  split at hf
  · rename_i fs hu
    obtain ⟨xs, m, _, hx, hcl, hxl, hfi⟩ := DataW.trod_struct hu h
    have hl := (Option.some.inj hf)
    simp only [Prod.mk.injEq] at hx
    obtain ⟨rfl, rfl⟩ := hx
    refine ⟨xs, m, hcl, by rw [hxl, ← hl]; simp, fun i e o hi => ?_⟩
    rw [← hl, List.getElem?_map] at hi
    obtain ⟨f, hf1, hf2⟩ := Option.map_eq_some_iff.1 hi
    cases hf2
    have hi2 : i < xs.length := by
      rw [hxl]
      have := (List.getElem?_eq_some_iff.1 hf1).1
      simpa using this
    have := hfi i f (by simpa using hf1)
    rw [List.getElem?_eq_getElem hi2] at this
    refine ⟨xs[i], this, fun n hn => ?_⟩
    simp only [DataW.weights, hu]
    exact DataW.weights_mem_each (j := i) (t := f.type) (d := xs[i].1) (by rw [List.getElem?_map, hf1]; rfl) (by rw [List.getElem?_map, List.getElem?_eq_getElem hi2]; rfl) n hn
  · cases hf
end
section
variable {H : Type} {enc : TypeId × Value → H} {W : World}
theorem trod_int_nat {P : Program} {t : TypeId} {k : IntKind} {V : Value} {y : DataW H × List MemPlace} {n : Nat} (m : Nat) (ht : P.underlying t = some (.int k)) (hm : k.min = 0 ∧ k.max < (m : Int)) (h : DataW.trod enc P W 0 (fun _ => true) true n t [V] = some y) : ∃ z : Nat, V = .int k (z : Int) ∧ z < m := by
  obtain ⟨z, h1, _, h2⟩ := DataW.trod_int ht h
  simp only [List.cons.injEq, and_true] at h1
  obtain ⟨q, rfl, hq⟩ := nat_of h2 hm
  exact ⟨q, h1, hq⟩
/-- a slice of structs is opened -/
theorem open_rowsG {P : Program} {α : Type} [Inhabited α] (f : α → List Value) (s : Nat) (hs : ∀ x, (f x).length = s) (hs1 : 0 < s) {t e : TypeId} (ht : P.underlying t = some (.slice e)) (hce : P.cellsOf e = s) (by_ : Nat) (hby : P.bytesOf e = by_) (Q : α → Prop)
    {V : Value} {d : DataW H} {ps : List MemPlace} {n : Nat} (h : DataW.trod enc P W 0 (fun _ => true) true n t [V] = some (d, ps)) (hre : ∀ n ∈ d.weights P t, n ≤ reachBytes)
    (ho : ∀ cs d ps n, DataW.trod enc P W 0 (fun _ => true) true n e cs = some (d, ps) → (∀ n ∈ d.weights P e, n ≤ reachBytes) → ∃ x, cs = f x ∧ Q x) :
    ∃ (A : Option Addr) (c : Nat) (l : List α), V = .slice A l.length c ∧ l.length ≤ c ∧ l.length * by_ ≤ 140737488351232 ∧ Rd W W.heap.size A (l.length * s) (l.flatMap f) ∧ ∀ x ∈ l, Q x := by
  rcases Go.Deep.open_slice ht h with ⟨hcs, hx⟩ | ⟨a, len, cap, m, n', D, Pl, hcs, _, hl, hm, hmm, hx, hV⟩
  · simp only [List.cons.injEq, and_true] at hcs
    exact ⟨none, 0, [], hcs, Nat.le_refl _, by simp, by simpa using Rd.nil _ _ _, fun _ h => by cases h⟩
  · simp only [List.cons.injEq, and_true] at hcs
    subst hcs
    simp only [if_true] at hmm
    obtain rfl := hmm.symm
    simp only [Prod.mk.injEq] at hx
    obtain ⟨rfl, rfl⟩ := hx
    have hw := hre (((List.map D (List.range len)).length + (List.map (fun j => D (len + j)) (List.range (cap - len))).length) * P.bytesOf e) (by simp [DataW.weights, ht])
    simp only [List.length_map, List.length_range, hby, reachBytes] at hw
    rw [hce] at hV
    obtain ⟨R, hR⟩ := Go.Deep.choose_lt (α := α) (n := len) (p := fun i x => W.cells? 0 (a.add (i * s)) s = some (f x) ∧ Q x) (fun i hi => by
      obtain ⟨cs', h1, h2⟩ := hV i (by omega)
      obtain ⟨x, hx, hsx⟩ := ho _ _ _ _ h2 (fun n hn => hre n (by
        simp only [DataW.weights, ht, List.mem_cons, List.mem_append]
        right; left
        exact weights_all_memS hn (List.mem_map.2 ⟨i, List.mem_range.2 hi, rfl⟩)))
      subst hx
      exact ⟨x, h1, hsx⟩)
    have hrl : ((List.range len).map R).length = len := by simp
    have hwl : len * by_ ≤ 140737488351232 := Nat.le_trans (Nat.mul_le_mul_right _ (Nat.le_add_right _ _)) hw
    refine ⟨some a, cap, (List.range len).map R, by rw [hrl], by rw [hrl]; exact hl, by rw [hrl]; exact hwl, ?_, fun x hx => ?_⟩
    · rw [hrl]
      have hfl : (((List.range len).map R).flatMap f).length = len * s := by
        have : ∀ q : List α, (q.flatMap f).length = q.length * s := fun q => by
          induction q with
          | nil => simp
          | cons a q ih => rw [List.flatMap_cons, List.length_append, hs, List.length_cons, ih, Nat.add_mul, Nat.one_mul, Nat.add_comm]
        rw [this, hrl]
      refine rd_of_cells _ hfl fun j u hu => ?_
      have hj : j < len * s := by
        rcases Nat.lt_or_ge j (len * s) with h1 | h1
        · exact h1
        · rw [List.getElem?_eq_none (by omega)] at hu; cases hu
      have hq : j / s < len := Nat.div_lt_of_lt_mul (by rw [Nat.mul_comm]; exact hj)
      have hjq : j = j / s * s + j % s := by rw [Nat.mul_comm]; exact (Nat.div_add_mod j s).symm
      have hms : j % s < s := Nat.mod_lt _ hs1
      have h1 := flat_get f s hs ((List.range len).map R) (j / s) (j % s) (by rw [hrl]; exact hq) hms
      rw [← hjq, hu] at h1
      simp only [List.getElem_map, List.getElem_range] at h1
      obtain ⟨_, _, h3⟩ := World.cells?_some (hR (j / s) hq).1
      have h4 := h3 (j % s) hms
      rw [Go.Deep.add_add, ← hjq] at h4
      rw [h4, h1]
    · obtain ⟨i, hi, rfl⟩ := List.mem_map.1 hx
      exact (hR i (List.mem_range.1 hi)).2
instance : Inhabited QR := ⟨⟨none, 0, zQ⟩⟩
instance : Inhabited RR := ⟨⟨none, 0, none, 0, none, 0, zR⟩⟩
end
end Go.Proofs.YtlipmlbijddopaaGreatDoor
set_option linter.unusedVariables false
set_option linter.unusedSimpArgs false
namespace Go.Proofs.YtlipmlbijddopaaGreatDoor
open Go.RowKit
namespace Srv
theorem ttl_fold : ∀ (l : List Ad) (m : Nat), l.foldl (fun m b => if b.ttl < m then b.ttl else m) m ≤ m ∧ (∀ x ∈ l, l.foldl (fun m b => if b.ttl < m then b.ttl else m) m ≤ x.ttl) ∧ (l.foldl (fun m b => if b.ttl < m then b.ttl else m) m = m ∨ ∃ x ∈ l, x.ttl = l.foldl (fun m b => if b.ttl < m then b.ttl else m) m)
  | [], m => ⟨Nat.le_refl _, fun _ h => (by cases h), .inl rfl⟩
  | b :: l, m => by
    have ih := ttl_fold l (if b.ttl < m then b.ttl else m)
    simp only [List.foldl_cons]
    generalize l.foldl (fun m b => if b.ttl < m then b.ttl else m) (if b.ttl < m then b.ttl else m) = r at ih ⊢
    obtain ⟨h1, h2, h3⟩ := ih
    have hm : (if b.ttl < m then b.ttl else m) ≤ m ∧ (if b.ttl < m then b.ttl else m) ≤ b.ttl := by split <;> omega
    refine ⟨by omega, fun x hx => ?_, ?_⟩
    · rcases List.mem_cons.1 hx with rfl | hx
      · omega
      · exact h2 x hx
    · rcases h3 with h3 | ⟨x, hx, e⟩
      · by_cases hb : b.ttl < m
        · rw [if_pos hb] at h3; exact .inr ⟨b, List.mem_cons_self .., h3.symm⟩
        · rw [if_neg hb] at h3; exact .inl h3
      · exact .inr ⟨x, List.mem_cons_of_mem _ hx, e⟩
theorem ttlA_le {l : List Ad} : ∀ x ∈ l, ttlA l ≤ x.ttl := by
  intro x hx
  cases l with
  | nil => cases hx
  | cons a l =>
    have h := ttl_fold l a.ttl
    rcases List.mem_cons.1 hx with rfl | hx
    · exact h.1
    · exact h.2.1 x hx
theorem ttlA_mem {l : List Ad} (h : l ≠ []) : ∃ x ∈ l, x.ttl = ttlA l := by
  cases l with
  | nil => exact absurd rfl h
  | cons a l =>
    rcases (ttl_fold l a.ttl).2.2 with e | ⟨x, hx, e⟩
    · exact ⟨a, List.mem_cons_self .., e.symm⟩
    · exact ⟨x, List.mem_cons_of_mem _ hx, e⟩
/-- whether one of them has this TTL, or there is none and it is 0 -/
def someA (l : List Ad) (t k : Nat) : Bool := (decide (l.length = 0) && decide (t = 0)) || (l.take k).any fun x => decide (x.ttl = t)
theorem someA_zero (l : List Ad) (t : Nat) : someA l t 0 = (decide (l.length = 0) && decide (t = 0)) := by simp [someA]
theorem someA_succ {l : List Ad} {t k : Nat} (h : k < l.length) : someA l t (k + 1) = (someA l t k || decide (l[k].ttl = t)) := by
  unfold someA
  rw [List.take_succ_eq_append_getElem h, List.any_append, ← Bool.or_assoc]
  simp
theorem someA_all (l : List Ad) : someA l (ttlA l) l.length = true := by
  unfold someA
  rw [List.take_length]
  cases l with
  | nil => rfl
  | cons a l =>
    obtain ⟨x, hx, e⟩ := ttlA_mem (l := a :: l) (by simp)
    rw [Bool.or_eq_true]
    exact .inr (List.any_eq_true.2 ⟨x, hx, by simp [e]⟩)
end Srv
namespace Srv
theorem ttlA_lt {l : List Ad} (h : ∀ x ∈ l, AdOk x) : ttlA l < 4294967296 := by
  cases l with
  | nil => show 0 < 4294967296; omega
  | cons a l =>
    have h1 := ttlA_le (l := a :: l) a (List.mem_cons_self ..)
    have h2 := (h a (List.mem_cons_self ..)).ttl
    omega
theorem tiers_len : ∀ {ts : List (List Ad)}, (∀ t ∈ ts, t ≠ []) → ts.length ≤ ts.flatten.length
  | [], _ => Nat.le_refl _
  | t :: ts, h => by
    have h1 := tiers_len (ts := ts) fun x hx => h x (List.mem_cons_of_mem _ hx)
    have h2 := List.length_pos_iff.2 (h t (List.mem_cons_self ..))
    simp only [List.length_cons, List.flatten_cons, List.length_append]
    omega
end Srv
/-- the table that strconv.Itoa reads -/
def EnvT (w : World) : Prop := Lib.TabIs Tryz.prog w "internal/strconv.uint64pow10" .u64 Lib.pow10Tab
theorem EnvT.below {w w' : World} (h : EnvT w) (hb : Below w.heap.size w w') : EnvT w' := Lib.tabBelow_of_tabIs h w' hb
theorem ito_of {w : World} (h : EnvT w) {n : Int} (h0 : -9223372036854775808 ≤ n) (h1 : n ≤ 9223372036854775807) : ItoOk w n := fun W hW => Tryz.strconv_Itoa n h0 h1 W (h.below hW)
theorem RsA.goes {w w' : World} {A : Option Addr} {n : Nat} {rows : List ARow} (h : RsA w w.heap.size A n rows) (hb : Below w.heap.size w w') : RsA w' w'.heap.size A n rows :=
  ⟨(h.1.below hb).more hb.size, h.2.1, fun r hr => (h.2.2 r hr).goes hb⟩

set_option maxRecDepth 100000 in
set_option maxHeartbeats 1000000 in
theorem aeq_at (A1 A2 : Option Addr) (c1 c2 n : Nat) (l : List Ad) (w : World) (B : Nat) (h1 : AsRd w B A1 c1 n l) (h2 : AsRd w B A2 c2 n l) :
    Calls Tryz.prog 27 #[.slice A1 n c1, .slice A2 n c2] w fun e w' => e = .returned (.bool true) ∧ ∃ q, w' = w.drewN q := by
  have H1 := Lib.hid h1
  have H2 := Lib.hid h2
  have hnl := h1.2.2.2.1
  have HLN := Lib.hid h1.2.1
  clear h1 h2
  have mixed : Tryz.prog.follows .mixedOrders = true := by kernel_rfl
  go_enter Tryz.func27, Tryz.ntmps27
  go_wp2_with fail
  go_loopw [13] (fun vk wr => ∃ k q : Nat, k ≤ n ∧ vk = .int .i64 k ∧ wr = w.drewN q) (fun vk _ => n - (intOf vk).toNat)
  case atStart => exact ⟨0, 0, Nat.zero_le _, rfl, rfl⟩
  case round =>
    obtain ⟨k, q, hk, rfl, hwr⟩ := hrel
    have r1 : AsRd wr B A1 c1 n l := by rw [hwr]; exact H1.out
    have r2 : AsRd wr B A2 c2 n l := by rw [hwr]; exact H2.out
    have HW := Lib.hid hwr
    clear hwr
    rcases Nat.lt_or_ge k n with hlt | hge
    · have hkl : k < l.length := by rw [HLN.out]; exact hlt
      obtain ⟨b, o, rfl, _, hc⟩ := r1.at_ hlt
      obtain ⟨b', o', rfl, _, hc'⟩ := r2.at_ hlt
      have f1 := hc hkl
      have f2 := hc' hkl
      obtain ⟨x, hx⟩ : ∃ x, x = l[k] := ⟨_, rfl⟩
      rw [← hx] at f1 f2
      clear hx hc hc' r1 r2
      obtain ⟨xh, xpo, xpr, xwe, xttl⟩ := x
      obtain ⟨c0, c1, c2, c3, c4⟩ := f1.cells
      obtain ⟨d0, d1, d2, d3, d4⟩ := f2.cells
      dsimp only at c0 c1 c2 c3 c4 d0 d1 d2 d3 d4
      clear f1 f2
      go_wp2_with fail
      go_quiet (fail)
      go_wp2_with fail
      go_roundw
      case rel => exact ⟨k + 1, q + nq, by omega, by go_num, by rw [HW.out]; simp⟩
      case measure => simp [intOf]; omega
    · have : k = n := by omega
      subst this
      go_wp2_with fail
      go_ret
      exact ⟨rfl, q, HW.out⟩
end Go.Proofs.YtlipmlbijddopaaGreatDoor
set_option linter.unusedVariables false
namespace Go.Proofs.YtlipmlbijddopaaGreatDoor
open Go.ChangeShapes Go.WideShapes Go.ChangeAt Go.RowKit
theorem envT_of {laid : List (String × DataW Unit)} {x y : String × DataW Unit} {rest : List (String × DataW Unit)} {W : World} (he : laid = x :: y :: ("internal/strconv.uint64pow10", Lib.tabData .u64 Lib.pow10Tab) :: rest) (hL : laidMet Tryz.prog laid W) : EnvT W := by
  subst he
  exact Lib.tabIs_of_head (P := Tryz.prog) (g := 0) (t := 256) (e := 231) (n := 20) (by kernel_rfl) (by kernel_rfl) Tryz.underlying256 Tryz.underlying231 (by kernel_rfl) (by kernel_rfl) (laidMet_tail (laidMet_tail hL))
section
variable {H : Type} {enc : TypeId × Value → H} {W : World}
theorem adFields : fieldsOf Tryz.prog 31 = some [(9, 0), (3, 1), (3, 2), (3, 3), (28, 4)] := by kernel_rfl
theorem trod_int_i64 {P : Program} {t : TypeId} {V : Value} {y : DataW H × List MemPlace} {n : Nat} (ht : P.underlying t = some (.int .i64)) (h : DataW.trod enc P W 0 (fun _ => true) true n t [V] = some y) : ∃ z : Int, V = .int .i64 z ∧ -9223372036854775808 ≤ z ∧ z ≤ 9223372036854775807 := by
  obtain ⟨z, h1, _, h2⟩ := DataW.trod_int ht h
  simp only [List.cons.injEq, and_true] at h1
  refine ⟨z, h1, ?_⟩
  simp [Lit.wf, IntKind.min, IntKind.max, IntKind.signed, IntKind.bits] at h2
  omega
theorem trod_str {P : Program} {t : TypeId} {V : Value} {y : DataW H × List MemPlace} {n : Nat} (ht : P.underlying t = some .string) (h : DataW.trod enc P W 0 (fun _ => true) true n t [V] = some y) (hre : ∀ n ∈ y.1.weights P t, n ≤ reachBytes) : ∃ l : List UInt8, V = .string ⟨l.toArray⟩ ∧ l.length ≤ 140737488351232 := by
  obtain ⟨s, h1, rfl, _⟩ := DataW.trod_string ht h
  simp only [List.cons.injEq, and_true] at h1
  refine ⟨s.data.toList, by simpa using h1, ?_⟩
  have := hre s.data.toList.length (by simp [DataW.weights])
  simpa [reachBytes] using this
set_option maxRecDepth 100000 in
theorem open_ad {cs : List Value} {d : DataW H} {ps : List MemPlace} {n : Nat} (h : DataW.trod enc Tryz.prog W 0 (fun _ => true) true n 31 cs = some (d, ps)) (hre : ∀ n ∈ d.weights Tryz.prog 31, n ≤ reachBytes) :
    ∃ x : Ad, cs = x.cells ∧ AdOk x := by
  obtain ⟨xs, m, hcl, hxl, hfi⟩ := trod_structL adFields h
  rw [show Tryz.prog.cellsOf 31 = 5 by kernel_rfl] at hcl
  match cs, hcl with
  | [c0, c1, c2, c3, c4], _ =>
    obtain ⟨y0, t0, w0⟩ := hfi 0 _ _ rfl
    obtain ⟨y1, t1, w1⟩ := hfi 1 _ _ rfl
    obtain ⟨y2, t2, w2⟩ := hfi 2 _ _ rfl
    obtain ⟨y3, t3, w3⟩ := hfi 3 _ _ rfl
    obtain ⟨y4, t4, w4⟩ := hfi 4 _ _ rfl
    rw [show Tryz.prog.cellsOf 9 = 1 by kernel_rfl] at t0
    rw [show Tryz.prog.cellsOf 3 = 1 by kernel_rfl] at t1 t2 t3
    rw [show Tryz.prog.cellsOf 28 = 1 by kernel_rfl] at t4
    simp only [List.drop_succ_cons, List.drop_zero, List.take_succ_cons, List.take_zero] at t0 t1 t2 t3 t4
    obtain ⟨l0, rfl, h0⟩ := trod_str Tryz.underlying9 t0 (fun n hn => hre n (w0 n hn))
    obtain ⟨z1, rfl, a1, b1⟩ := trod_int_i64 Tryz.underlying3 t1
    obtain ⟨z2, rfl, a2, b2⟩ := trod_int_i64 Tryz.underlying3 t2
    obtain ⟨z3, rfl, a3, b3⟩ := trod_int_i64 Tryz.underlying3 t3
    obtain ⟨z4, rfl, b4⟩ := trod_int_nat 4294967296 Tryz.underlying28 (by decide) t4
    exact ⟨⟨l0, z1, z2, z3, z4⟩, rfl, h0, a1, b1, a2, b2, a3, b3, b4⟩
set_option maxRecDepth 100000 in
theorem open_ads {base : Nat} {v : Value} {d : DataW H} {ps : List MemPlace} (hval : Value.okWide Tryz.prog W .any base 27 v) (hd : DataW.Trod enc Tryz.prog W 0 (fun _ => true) true 27 v d ps) (hre : ∀ n ∈ d.weights Tryz.prog 27, n ≤ reachBytes) :
    ∃ (A : Option Addr) (c : Nat) (l : List Ad), v = .slice A l.length c ∧ AsRd W W.heap.size A c l.length l := by
  have ht := Tryz.underlying27
  obtain ⟨a1, len, cap, rfl⟩ := okWide_slice ht hval
  obtain ⟨fuel, hfu⟩ := hd
  obtain ⟨A, c, l, e, hc, hb, hr, hx⟩ := open_rowsG Ad.cells 5 Ad.cells_length (by omega) ht (by kernel_rfl) 48 (by kernel_rfl) AdOk (V := .slice a1 len cap) hfu hre (fun cs d ps n h1 h2 => open_ad h1 h2)
  exact ⟨A, c, l, e, hr, rfl, hc, by omega, hx⟩
end
end Go.Proofs.YtlipmlbijddopaaGreatDoor
set_option linter.unusedVariables false
set_option linter.unusedSimpArgs false
namespace Go.Proofs.YtlipmlbijddopaaGreatDoor
open Go.RowKit
set_option maxRecDepth 100000 in
set_option maxHeartbeats 400000 in
theorem long1_at (x : Ad) (w : World) : Calls Tryz.prog 24 #[.agg x.cells.toArray] w fun e w' => e = .returned (.bool (decide (100 < x.h.length))) ∧ Below w.heap.size w w' := by
  obtain ⟨h, po, pr, we, ttl⟩ := x
  unfold Ad.cells strV
  dsimp only
  obtain ⟨r, hr⟩ : ∃ r, r = decide (100 < h.length) := ⟨_, rfl⟩
  have hr2 : decide ((100 : Int) < (h.length : Int)) = r := by rw [hr, Bool.eq_iff_iff]; simp; omega
  rw [← hr]
  clear hr
  go_enter Tryz.func24, Tryz.ntmps24
  go_wp2
  go_ret
  exact ⟨rfl, bl_new w _⟩
def longA (l : List Ad) : Bool := l.any fun x => decide (100 < x.h.length)
theorem long_at (A : Option Addr) (c n : Nat) (l : List Ad) (w : World) (h : AsRd w w.heap.size A c n l) :
    Calls Tryz.prog 16 #[.slice A n c, .func (.func 24) #[] #[]] w fun e w' => e = .returned (.bool (longA l)) ∧ Below w.heap.size w w' := by
  have eg : ∀ args w, (callFunc 24 args).run Tryz.prog w = .ok (.enter 24 args) w := enters_of Tryz.func24 (by kernel_rfl) rfl
  refine has_at (fun x => decide (100 < x.h.length)) 24 #[] eg A c n l w (fun W x hb => ?_) h
  refine (long1_at x W).mono ?_
  rintro e w' ⟨rfl, hb'⟩
  exact ⟨rfl, hb.trans (hb'.mono hb.size)⟩
set_option maxRecDepth 100000 in
set_option maxHeartbeats 8000000 in
theorem srvTiers_any (A0 : Option Addr) (c0 : Nat) (l : List Ad) (w : World) (henv : EnvT w) (h : AsRd w w.heap.size A0 c0 l.length l) :
    Calls Tryz.prog 8 #[.slice A0 l.length c0] w fun e w' => e = .returned (.bool true) ∧ Below w.heap.size w w' := by
  obtain ⟨n, hn⟩ : ∃ n, n = l.length := ⟨_, rfl⟩
  rw [← hn] at h ⊢
  have hnl := h.2.2.2.1
  have HN := Lib.hid hn.symm
  have H := Lib.hid h
  have HENV := Lib.hid henv
  have HAW := Lib.hid (sawake_any w)
  have mixed : Tryz.prog.follows .mixedOrders = true := by kernel_rfl
  clear h hn henv
  by_cases hbig : 40 < n
  · have hb40 : decide ((40 : Int) < (n : Int)) = true := by simp only [decide_eq_true_eq]; omega
    clear hbig
    go_enter Tryz.func8, Tryz.ntmps8
    go_wp2_with (go_at_call 14
                 refine HAW.out.mono ?_
                 rintro e w1 ⟨rfl, hb1⟩)
    go_ret
    exact ⟨rfl, hb1⟩
  have hb40 : decide ((40 : Int) < (n : Int)) = false := by simp only [decide_eq_false_iff_not]; omega
  obtain ⟨lg, hlg⟩ : ∃ b, b = longA l := ⟨_, rfl⟩
  have KL := Lib.hid (fun W hW => long_at A0 c0 n l W hW)
  rw [← hlg] at KL
  clear hlg
  cases lg with
  | true =>
    go_enter Tryz.func8, Tryz.ntmps8
    go_wp2_with (first
      | (go_at_call 16
         refine (KL.out w1 (H.out.goes HB1.out)).mono ?_
         rintro e w2 ⟨rfl, hb2⟩
         have HB2 := Lib.hid (HB1.out.trans (hb2.mono HB1.out.size))
         clear hb2)
      | (go_at_call 14
         refine HAW.out.mono ?_
         rintro e w1 ⟨rfl, hb1⟩
         have HB1 := Lib.hid hb1
         clear hb1))
    go_ret
    exact ⟨rfl, HB2.out⟩
  | false =>
    have htt := Srv.tiersA_tiers l
    have HTT := Lib.hid htt
    obtain ⟨bb, hbb⟩ : ∃ bb, bb = decide (0 < n) := ⟨_, rfl⟩
    have hgt : decide ((0 : Int) < (n : Int)) = bb := by rw [hbb, Bool.eq_iff_iff]; simp
    have he0 : ((n : Int) == 0) = !bb := by rw [hbb, Bool.eq_iff_iff]; simp
    have HBB := Lib.hid hbb
    obtain ⟨T, hT⟩ : ∃ T, T = Srv.ttlA l := ⟨_, rfl⟩
    have hT32 : T < 4294967296 := by rw [hT]; exact Srv.ttlA_lt H.out.2.2.2.2
    have HT := Lib.hid hT
    have KT := Lib.hid (fun W hW => sttl_at A0 c0 n l W hW)
    rw [← hT] at KT
    have KP := Lib.hid (fun W hW => pick_at A0 c0 n T l W hW hT32)
    have hpk := Srv.pickA_ok l T
    obtain ⟨pk, hpke⟩ : ∃ pk, pk = Srv.pickA l T := ⟨_, rfl⟩
    rw [← hpke] at KP hpk
    rw [HN.out, ← hbb] at hpk
    clear hbb hT htt hpke
    obtain ⟨⟨ph, ppo, ppr, pwe, pttl⟩, pok⟩ := pk
    dsimp only at hpk
    have hpk2 : bb = pok := hpk.symm
    clear hpk
    subst hpk2
    unfold Ad.cells strV at KP
    dsimp only at KP
    go_enter Tryz.func8, Tryz.ntmps8
    go_wp2_with (first
      | (go_at_call 25
         refine (tiers_at A0 c0 n l w2 HL2.out).mono ?_
         rintro e w3 ⟨A3, c3, rows, rfl, hrows, _, hrd, hc3, hb3⟩
         have HL3 := Lib.hid (HL2.out.goes hb3)
         have HB3 := Lib.hid (HB2.out.trans (hb3.mono HB2.out.size))
         have HROWS := Lib.hid hrows
         have HRD := Lib.hid hrd
         obtain ⟨N, hN⟩ : ∃ N, N = rows.length := ⟨_, rfl⟩
         have hN40 : N ≤ 40 := by
           have e1 : N = (Srv.tiersA l).length := by rw [hN, ← hrows, List.length_map]
           have e2 := Srv.tiers_len HTT.out.some_
           rw [HTT.out.all, HN.out] at e2
           omega
         rw [← hN] at HRD ⊢
         have HNR := Lib.hid hN.symm
         clear hb3 hrows hrd hc3 hN)
      | (go_at_call 16
         refine (KL.out w1 (H.out.goes HB1.out)).mono ?_
         rintro e w2 ⟨rfl, hb2⟩
         have HB2 := Lib.hid (HB1.out.trans (hb2.mono HB1.out.size))
         have HL2 := Lib.hid (H.out.goes HB2.out)
         clear hb2)
      | (go_at_call 14
         refine HAW.out.mono ?_
         rintro e w1 ⟨rfl, hb1⟩
         have HB1 := Lib.hid hb1
         clear hb1))
    go_loopw [27] (fun vk wr => ∃ k : Nat, k ≤ N ∧ vk = .int .i64 k ∧ Hid (Below w3.heap.size w3 wr)) (fun vk _ => N - (intOf vk).toNat)
    case atStart => exact ⟨0, Nat.zero_le _, rfl, Lib.hid (Below.refl _ _)⟩
    case round =>
      obtain ⟨k, hk, rfl, HB⟩ := hrel
      rcases Nat.lt_or_ge k N with hlt | hge
      · have hkr : k < rows.length := by rw [HNR.out]; exact hlt
        have hR := HRD.out.goes HB.out
        obtain ⟨b, o, rfl, hb, hc⟩ := hR.1.at_ hlt
        have hcell : wr.cell? ⟨b, o + k, none⟩ = some rows[k].v := hc k _ (by rw [List.getElem?_map, List.getElem?_eq_getElem hkr]; rfl)
        have hrow := hR.2.2 rows[k] (List.getElem_mem hkr)
        have hmem : rows[k].l ∈ Srv.tiersA l := by rw [← HROWS.out]; exact List.mem_map.2 ⟨_, List.getElem_mem hkr, rfl⟩
        have hne := HTT.out.some_ _ hmem
        have hsame := HTT.out.same _ hmem
        have hprev : 0 < k → ∃ M, ∃ hM : M < rows.length, (k : Int) - 1 = (M : Int) ∧ M < N ∧ wr.cell? ⟨b, o + M, none⟩ = some (rows[M]'hM).v ∧ AsRd wr wr.heap.size (rows[M]'hM).A (rows[M]'hM).c (rows[M]'hM).l.length (rows[M]'hM).l ∧ (rows[M]'hM).l ≠ [] ∧ ((rows[M]'hM).l.headD zA).pr ≠ (rows[k].l.headD zA).pr := by
          intro h0
          have hM : k - 1 < rows.length := by omega
          have hmm : (rows[k - 1]'hM).l ∈ Srv.tiersA l := by rw [← HROWS.out]; exact List.mem_map.2 ⟨_, List.getElem_mem hM, rfl⟩
          have hlen : (Srv.tiersA l).length = rows.length := by rw [← HROWS.out, List.length_map]
          have hnx := HTT.out.next (k - 1) (by rw [hlen]; omega)
          refine ⟨k - 1, hM, by omega, by omega, hc (k - 1) _ (by rw [List.getElem?_map, List.getElem?_eq_getElem hM]; rfl), hR.2.2 _ (List.getElem_mem hM), HTT.out.some_ _ hmm, fun e => hnx ?_⟩
          have g1 : ∀ (j : Nat) (hj : j < (Srv.tiersA l).length) (hj' : j < rows.length), (Srv.tiersA l)[j] = rows[j].l := by
            intro j hj hj'
            have : (rows.map ARow.l)[j]'(by simpa using hj') = rows[j].l := by simp
            rw [← this]; congr 1; exact HROWS.out.symm
          have e1 := g1 (k - 1 + 1) (by rw [hlen]; omega) (by omega)
          have e2 := g1 (k - 1) (by rw [hlen]; omega) hM
          rw [e1, e2, e]
          simp only [Nat.sub_add_cancel (show 1 ≤ k from h0)]
        have HPREV := Lib.hid hprev
        obtain ⟨r, hr⟩ : ∃ r, r = rows[k] := ⟨_, rfl⟩
        rw [← hr] at hcell hrow hne hsame HPREV
        obtain ⟨rA, rc, rl⟩ := r
        unfold ARow.v at hcell
        dsimp only at hcell hrow hne hsame HPREV
        obtain ⟨y, ys, rfl⟩ : ∃ y ys, rl = y :: ys := by
          cases rl with
          | nil => exact absurd rfl hne
          | cons a q => exact ⟨a, q, rfl⟩
        obtain ⟨tn, htn⟩ : ∃ tn, tn = (y :: ys).length := ⟨_, rfl⟩
        have htn0 : 0 < tn := by rw [htn]; simp
        have htnb : tn ≤ 2932031007317 := by rw [htn]; exact hrow.2.2.2.1
        rw [← htn] at hcell hrow
        obtain ⟨tb, tq, rfl, htb, htc⟩ := hrow.base htn0
        have hy := htc 0 (by simp)
        simp only [List.getElem_cons_zero, Nat.zero_mul, Nat.add_zero] at hy
        have hyp : wr.cell? ⟨tb, tq + 2, none⟩ = some (.int .i64 y.pr) := hy.cells.2.2.1
        have HTC := Lib.hid htc
        have HTN := Lib.hid htn.symm
        have HSAME := Lib.hid hsame
        have tn0 : ((tn : Int) == 0) = false := by rw [beq_eq_false_iff_ne]; omega
        have tnp : (0 : Int) < (tn : Int) := by omega
        have HHY : Hid (((y :: ys).headD zA).pr = y.pr) := Lib.hid rfl
        clear hc hrow hne hsame hy htc hprev hr hR hmem htn
        go_upto_region 9 with fail
        obtain ⟨W9, hW9⟩ : ∃ x, x = wr := ⟨wr, rfl⟩
        subst hW9
        have hwb : ∀ q, Below W9.heap.size W9 (W9.drewN q) := fun q => bl_drewN (Below.refl _ _) q
        obtain ⟨yh, ypo, ypr, ywe, yttl⟩ := y
        dsimp only at hyp HPREV
        rcases Nat.eq_zero_or_pos k with h0 | h0
        case' inl =>
          have hk0 : decide ((0 : Int) < (k : Int)) = false := by simp only [decide_eq_false_iff_not]; omega
          go_quiet (fail)
        case' inr =>
          obtain ⟨M, hM, hkM, hMN, hpc, hpr, hpn, hpe⟩ := HPREV.out h0
          have hk0 : decide ((0 : Int) < (k : Int)) = true := by simp only [decide_eq_true_eq]; omega
          obtain ⟨r2, hr2⟩ : ∃ r, r = rows[M] := ⟨_, rfl⟩
          rw [← hr2] at hpc hpr hpn hpe
          obtain ⟨pA, pc, pl⟩ := r2
          unfold ARow.v at hpc
          dsimp only at hpc hpr hpn hpe
          obtain ⟨z, zs, rfl⟩ : ∃ z zs, pl = z :: zs := by
            cases pl with
            | nil => exact absurd rfl hpn
            | cons a q => exact ⟨a, q, rfl⟩
          obtain ⟨pn, hpnn⟩ : ∃ pn, pn = (z :: zs).length := ⟨_, rfl⟩
          have hpn0 : 0 < pn := by rw [hpnn]; simp
          rw [← hpnn] at hpc hpr
          obtain ⟨pb, po, rfl, hpb, hpcc⟩ := hpr.base hpn0
          have hz := hpcc 0 (by simp)
          simp only [List.getElem_cons_zero, Nat.zero_mul, Nat.add_zero] at hz
          have hzp : W9.cell? ⟨pb, po + 2, none⟩ = some (.int .i64 z.pr) := hz.cells.2.2.1
          obtain ⟨zh, zpo, zpr, zwe, zttl⟩ := z
          dsimp only at hzp hpe
          have hze : (zpr == ypr) = false := by rw [beq_eq_false_iff_ne]; exact hpe
          have hw1 : IntKind.i64.wrap (M : Int) = (M : Int) := by rw [IntKind.wrap_i64]; omega
          have hMN2 : (M : Int) < (N : Int) := by omega
          have hM0 : (0 : Int) ≤ (M : Int) := by omega
          have hpnp : (0 : Int) < (pn : Int) := by omega
          clear hpr hpn hpe hpcc hz hr2 hpnn hM
          go_quiet (fail)
          clear hzp hze hw1 hMN2 hM0 hpnp hpc hkM
        all_goals
          have HW10 := Lib.hid (hwb nq)
          generalize W9.drewN nq = w10 at HW10 ⊢
          clear hcell hk0 HPREV hwb h0
          go_wp2_with fail
          go_loopw [56] (fun vk wx => ∃ j : Nat, j ≤ tn ∧ vk = .int .i64 j ∧ Hid (Below W9.heap.size W9 wx)) (fun vk _ => tn - (intOf vk).toNat)
        case atStart => exact ⟨0, Nat.zero_le _, rfl, HW10⟩
        case atStart => exact ⟨0, Nat.zero_le _, rfl, HW10⟩
        all_goals
          obtain ⟨j, hj, rfl, HJ⟩ := hrel
          rcases Nat.lt_or_ge j tn with hjt | hjt
          · have hjl : j < (Ad.mk yh ypo ypr ywe yttl :: ys).length := by rw [HTN.out]; exact hjt
            have hf := (HTC.out j hjl).below HJ.out htb
            have hxs := HSAME.out _ (List.getElem_mem hjl)
            rw [HHY.out] at hxs
            try dsimp only at hxs
            obtain ⟨x, hx⟩ : ∃ x, x = (Ad.mk yh ypo ypr ywe yttl :: ys)[j] := ⟨_, rfl⟩
            rw [← hx] at hf hxs
            clear hx
            obtain ⟨xh, xpo, xpr, xwe, xttl⟩ := x
            dsimp only at hxs
            have hxs2 : ypr = xpr := hxs.symm
            clear hxs
            subst hxs2
            obtain ⟨c0_, c1_, c2_, c3_, c4_⟩ := hf.cells
            dsimp only at c0_ c1_ c2_ c3_ c4_
            clear hf
            have hbx := Vx.new wr 31 [.string ⟨xh.toArray⟩, .int .i64 xpo, .int .i64 ypr, .int .i64 xwe, .int .u32 (xttl : Int)]
            have hbl := bl_new wr (.cells #[.string ⟨xh.toArray⟩, .int .i64 xpo, .int .i64 ypr, .int .i64 xwe, .int .u32 (xttl : Int)] 31)
            go_upto_region 14 with fail
            have hyq : (wr.alloc (.cells #[.string ⟨xh.toArray⟩, .int .i64 xpo, .int .i64 ypr, .int .i64 xwe, .int .u32 (xttl : Int)] 31)).cell? ⟨tb, tq + 2, none⟩ = some (.int .i64 ypr) := (hbl.cell (Nat.lt_of_lt_of_le htb HJ.out.size)).trans ((HJ.out.cell htb).trans hyp)
            obtain ⟨GX, hGX⟩ : ∃ G, G = wr.heap.size := ⟨_, rfl⟩
            rw [← hGX] at hbx ⊢
            have HB14 := Lib.hid (HJ.out.trans (hbl.mono HJ.out.size))
            generalize wr.alloc (.cells #[.string ⟨xh.toArray⟩, .int .i64 xpo, .int .i64 ypr, .int .i64 xwe, .int .u32 (xttl : Int)] 31) = w14 at hbx hyq HB14 ⊢
            obtain ⟨d0, d1, d2, d3, d4⟩ := hbx.c5
            clear hbx hbl hGX c0_ c1_ c2_ c3_ c4_
            go_quiet (fail)
            go_wp2_with fail
            go_roundw
            case rel => exact ⟨j + 1, by omega, by go_num, Lib.hid (bl_drewN HB14.out _)⟩
            case measure => simp [intOf]; omega
          · have : j = tn := by omega
            subst this
            have HB16 := Lib.hid (HB.out.trans (HJ.out.mono HB.out.size))
            go_wp2_with fail
            go_roundw
            case rel => exact ⟨k + 1, by omega, by go_num, HB16⟩
            case measure => simp [intOf]; omega
      · have hkN : N = k := by omega
        subst hkN
        have HB4 := Lib.hid (HB3.out.trans (HB.out.mono HB3.out.size))
        have HL4 := Lib.hid (HL3.out.goes HB.out)
        have HRD4 := Lib.hid (HRD.out.goes HB.out)
        obtain ⟨W4, hW4⟩ : ∃ x, x = wr := ⟨wr, rfl⟩
        subst hW4
        have HS0 : Hid ((!bb) = Srv.someA l T 0) := Lib.hid (by
          rw [Srv.someA_zero, HBB.out, HN.out, HT.out]
          rcases Nat.eq_zero_or_pos n with h0 | h0
          · have hl0 : l = [] := List.eq_nil_of_length_eq_zero (by rw [HN.out, h0])
            subst hl0; subst h0; rfl
          · rw [decide_eq_true h0, decide_eq_false (by omega : ¬ n = 0)]; rfl)
        have HT0 : Hid (bb = false → ((T : Int) == 0) = true) := Lib.hid (fun e => by
          have e0 : n = 0 := by have := HBB.out; rw [e] at this; have := of_decide_eq_false this.symm; omega
          have hl0 : l = [] := List.eq_nil_of_length_eq_zero (by rw [HN.out, e0])
          rw [HT.out, hl0]; rfl)
        clear HB HL3 HRD HB3
        go_upto_region 19 with (go_at_call 26
                                refine (KT.out W4 HL4.out).mono ?_
                                rintro e w5 ⟨rfl, hb5⟩
                                have HB5 := Lib.hid (HB4.out.trans (hb5.mono HB4.out.size))
                                have HL5 := Lib.hid (HL4.out.goes hb5)
                                have HRD5 := Lib.hid (HRD4.out.goes hb5)
                                clear hb5)
        cases bb
        case' false =>
          have ht0 := HT0.out rfl
          have HN0 : Hid (¬ 0 < n) := Lib.hid (of_decide_eq_false HBB.out.symm)
          have HN0d : Hid (decide (0 < n) = false) := Lib.hid HBB.out.symm
          simp only [Bool.not_false] at he0
          go_upto_region 20 with fail
        case' true =>
          have HN0 : Hid (0 < n) := Lib.hid (of_decide_eq_true HBB.out.symm)
          have HN0d : Hid (decide (0 < n) = true) := Lib.hid HBB.out.symm
          simp only [Bool.not_true] at he0
          go_upto_region 20 with fail
        all_goals
          go_wp2_with fail
          go_loopw [9, 80] (fun v9 vk wx => ∃ (k : Nat) (s : Bool), k ≤ n ∧ vk = .int .i64 k ∧ v9 = .bool s ∧ Hid (s = Srv.someA l T k) ∧ Hid (Below w5.heap.size w5 wx)) (fun _ vk _ => n - (intOf vk).toNat)
        case atStart => exact ⟨0, _, Nat.zero_le _, rfl, rfl, HS0, Lib.hid (Below.refl _ _)⟩
        case atStart => exact ⟨0, _, Nat.zero_le _, rfl, rfl, HS0, Lib.hid (Below.refl _ _)⟩
        all_goals
          obtain ⟨k, s, hk3, rfl, rfl, HS, HB⟩ := hrel
          rcases Nat.lt_or_ge k n with hlt | hge3
          · have hkl : k < l.length := by rw [HN.out]; exact hlt
            obtain ⟨b, o, rfl, hb, hc⟩ := HL5.out.at_ hlt
            have hf := (hc hkl).below HB.out hb
            have hsu := Srv.someA_succ (t := T) hkl
            have hle := Srv.ttlA_le l[k] (List.getElem_mem hkl)
            rw [← HT.out] at hle
            obtain ⟨x, hx⟩ : ∃ x, x = l[k] := ⟨_, rfl⟩
            rw [← hx] at hf hsu hle
            clear hx hc
            obtain ⟨xh, xpo, xpr, xwe, xttl⟩ := x
            obtain ⟨c0_, c1_, c2_, c3_, c4_⟩ := hf.cells
            dsimp only at c0_ c1_ c2_ c3_ c4_ hsu hle
            have hnl3 : decide ((xttl : Int) < (T : Int)) = false := by simp only [decide_eq_false_iff_not]; omega
            obtain ⟨qb, hqb⟩ : ∃ q, q = decide (xttl = T) := ⟨_, rfl⟩
            have hqe : ((xttl : Int) == (T : Int)) = qb := by rw [hqb, Bool.eq_iff_iff]; simp; omega
            rw [← hqb] at hsu
            have HSU := Lib.hid hsu
            have HB23 := Lib.hid (HB.out.trans ((bl_new wr (.cells #[.string ⟨xh.toArray⟩, .int .i64 xpo, .int .i64 xpr, .int .i64 xwe, .int .u32 (xttl : Int)] 31)).mono HB.out.size))
            clear hf hsu hqb hnl3
            cases s
            · go_wp2_with fail
              go_roundw
              case rel => exact ⟨k + 1, _, by omega, by go_num, rfl, Lib.hid (by rw [HSU.out, ← HS.out]; rfl), HB23⟩
              case measure => simp [intOf]; omega
            · go_wp2_with fail
              go_roundw
              case rel => exact ⟨k + 1, _, by omega, by go_num, rfl, Lib.hid (by rw [HSU.out, ← HS.out]; rfl), HB23⟩
              case measure => simp [intOf]; omega
          · have hkn : n = k := by omega
            subst hkn
            obtain rfl : s = true := by
              rw [HS.out]
              have := Srv.someA_all l
              rw [HN.out, ← HT.out] at this
              exact this
            have HB7 := Lib.hid (HB5.out.trans (HB.out.mono HB5.out.size))
            have HL7 := Lib.hid (HL5.out.goes HB.out)
            have HRD7 := Lib.hid (HRD5.out.goes HB.out)
            clear HB HS HL5 HRD5 HB5 HB4 HL4 HRD4 KT
            go_upto_region 28 with (go_at_call 23
                                    refine (KP.out wr HL7.out).mono ?_
                                    rintro e w8 ⟨rfl, hb8⟩
                                    have HB8 := Lib.hid (HB7.out.trans (hb8.mono HB7.out.size))
                                    have HL8 := Lib.hid (HL7.out.goes hb8)
                                    have HRD8 := Lib.hid (HRD7.out.goes hb8)
                                    clear hb8)
            have hb9 := bl_new w8 (.cells #[.string ⟨ph.toArray⟩, .int .i64 ppo, .int .i64 ppr, .int .i64 pwe, .int .u32 (pttl : Int)] 31)
            have HB9 := Lib.hid (HB8.out.trans (hb9.mono HB8.out.size))
            have HL9 := Lib.hid (HL8.out.goes hb9)
            have HRD9 := Lib.hid (HRD8.out.goes hb9)
            generalize w8.alloc (.cells #[.string ⟨ph.toArray⟩, .int .i64 ppo, .int .i64 ppr, .int .i64 pwe, .int .u32 (pttl : Int)] 31) = w9 at HB9 HL9 HRD9 ⊢
            clear hb9 HB8 HL8 HRD8
            have HFL : Hid (flatA rows = l) := Lib.hid (by
              have := HTT.out.all
              rw [← HROWS.out] at this
              rw [← this]
              simp [flatA, List.flatMap])
            have hn0 := HN0.out
            have hn0d := HN0d.out
            go_wp2_with (first
              | (go_at_call 29
                 refine (texts_at A0 c0 n l w11 HL11.out (fun x hx => ito_of HE11.out (HL11.out.2.2.2.2 x hx).po1 (HL11.out.2.2.2.2 x hx).po2)).mono ?_
                 rintro e w12 ⟨v12, rfl, ho12, hb12⟩
                 obtain ⟨A12, c12, rfl, _, _⟩ := Ow.form6 ho12 n (by rw [sc_length, List.length_map, HN.out])
                 have HB12 := Lib.hid (HB11.out.trans (hb12.mono HB11.out.size))
                 clear ho12 hb12)
              | (go_at_call 27
                 refine (aeq_at A10 A0 c10 c0 n l w10 w10.heap.size HA10.out HL10.out).mono ?_
                 rintro e w11 ⟨rfl, q11, hq11⟩
                 have hb11 : Below w10.heap.size w10 w11 := by rw [hq11]; exact bl_drewN (Below.refl _ _) q11
                 have HB11 := Lib.hid (HB10.out.trans (hb11.mono HB10.out.size))
                 have HL11 := Lib.hid (HL10.out.goes hb11)
                 have HE11 := Lib.hid (HENV.out.below HB11.out)
                 clear hb11 hq11)
              | (go_at_call 28
                 refine (concat_at _ c3 N rows w9 HRD9.out (by rw [HFL.out, HN.out]; omega) (by omega)).mono ?_
                 rintro e w10 ⟨v10, rfl, ho10, hb10⟩
                 rw [HFL.out, HN.out] at ho10
                 obtain ⟨A10, c10, rfl, ha10⟩ := AsRd.of_own ho10 HN.out hnl HL9.out.2.2.2.2
                 have HA10 := Lib.hid ha10
                 have HB10 := Lib.hid (HB9.out.trans (hb10.mono HB9.out.size))
                 have HL10 := Lib.hid (HL9.out.goes hb10)
                 clear ho10 ha10 hb10))
            go_ret
            exact ⟨rfl, HB12.out⟩
end Go.Proofs.YtlipmlbijddopaaGreatDoor
set_option linter.unusedVariables false
namespace Go.Proofs.YtlipmlbijddopaaGreatDoor
open Go.ChangeShapes Go.WideShapes Go.ChangeAt Go.RowKit
set_option maxRecDepth 100000 in
theorem srvTiers_lifted (os : Os) (started : os.Started) (H : Type) (enc : TypeId × Value → H) :
    ReturnsInHanded {} Tryz.checked os 8 .any (fun w args => (Rows.srvTiersSpec.pre enc Tryz.checked.prog Tryz.f8 [] false w args ∧ laidMetH Tryz.checked.prog Rows.srvTiersRow.laid w) ∧ sizedMet enc Tryz.checked.prog Tryz.f8 (OpenSpec.ofChange Rows.srvTiersSpec) false w args) (Rows.srvTiersSpec.post enc Tryz.checked.prog Tryz.f8 false true false false) := by
  refine law_lifted_laid (C := Tryz.checked) (P := Tryz.prog) rfl Tryz.own Tryz.laidOut Tryz.underlying4 started Tryz.func8 rfl (by kernel_rfl) rfl [27] (by rw [Tryz.params8])
    (fun ds h => by
      match ds, h with
      | [d0], _ => rfl) (by kernel_rfl) Rows.srvTiersRow.laid (by kernel_rfl)
    (ChangeSpec.witness_shaped (enc := enc) (C := Tryz.checked) (os := os) (X := fun w _ => laidMetH Tryz.prog Rows.srvTiersRow.laid w) false (World.laidAll Tryz.prog os Rows.srvTiersRow.laid) #[.slice none 0 0] 8 (World.laidAll_os _ _ _) (World.shaped_of_ZipB (by kernel_rfl) (by kernel_rfl)) (by kernel_rfl) (by kernel_rfl) (by kernel_rfl)
      (by rw [MakeChecks.laidMetH_plain _ _ _ (by kernel_rfl)]; exact laidMet_laidAll _ (by kernel_rfl) (by kernel_rfl))) ?_
  intro W base args ds p hval hA hL hS
  obtain ⟨v0, d0, rfl, rfl, h0⟩ := trodAll_one hA.trod
  have hre := hA.reach
  rw [Tryz.params8] at hval
  have w0 : ∀ n ∈ d0.weights Tryz.prog 27, n ≤ reachBytes := fun n hn => by simpa using List.all_eq_true.1 hre n (DataW.weights_mem_each (j := 0) rfl rfl n hn)
  obtain ⟨A0, c0, l0, rfl, r0⟩ := open_ads (hval 0 _ v0 rfl rfl) h0 w0
  exact srvTiers_any A0 c0 l0 W (envT_of rfl hL) r0

theorem srvTiers_holds : Rows.SrvTiersSaid :=
  OpenClaim.holds_of_wide 8 Tryz.f8 rfl rfl rfl rfl rfl rfl rfl ⟨rfl, rfl, rfl, rfl, rfl⟩ rfl rfl rfl rfl rfl (by kernel_rfl) Tryz.func8 (by kernel_rfl)
    (of_decide_eq_true (by kernel_rfl)) (by unfold Func.isWrapper; first | (rw [if_pos (by decide +kernel)]; kernel_rfl) | (rw [if_neg (by decide +kernel)]; exact ⟨rfl, rfl⟩))
    (fun os started H enc _ => srvTiers_lifted os started H enc)

theorem srvTiers_card : Rows.SrvTiersCardSaid :=
  Claim7.holds_tied_plain_at .later [] [.data, .data, .data] true (true, "62a6199dd28d2a080bed368305dcb87b9b8d93dca5598cd0c61d1c0b6c630e34") false
    srvTiers_holds (fun _ h => by cases h) (by kernel_rfl) (fun _ h => by cases h) srvTiers_row_tie rfl ⟨rfl, rfl⟩ (by kernel_rfl) rfl
    (fun f fn hf hfn => by
      obtain rfl : f = 8 := Option.some.inj ((show Tryz.prog.funcNamed "gauger/gaugerlaw18.SrvTiers" = some 8 by kernel_rfl).symm.trans hf) |>.symm
      obtain rfl : fn = Tryz.f8 := (Option.some.inj (Tryz.func8.symm.trans hfn)).symm
      exact ⟨by kernel_rfl, fun j t ht => by
        rw [Tryz.params8] at ht
        have ht2 : t ∈ ([27] : List TypeId) := by simpa using Array.mem_of_getElem? ht
        have hall : ([27] : List TypeId).all (fun t => Tryz.prog.wantsStandIn t == false) = true := by kernel_rfl
        exact beq_iff_eq.1 (List.all_eq_true.1 hall t ht2)⟩)
    (by kernel_rfl)
end Go.Proofs.YtlipmlbijddopaaGreatDoor
