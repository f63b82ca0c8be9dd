/-
  Reg; OpenG; DnsOp
-/
import Derived.Test.YtlipmlbijddopaaBase
import Derived.Deep.RegionHeld3
import Derived.Test.YtlipmlbijddopaaFrame
import Derived.Test.YtlipmlbijddopaaDnsM
import Derived.Test.YtlipmlbijddopaaDnsQ2
import Derived.WalkKit
import Derived.Test.YtlipmlbijddopaaDnsB2
import Derived.Test.YtlipmlbijddopaaMade
import Derived.Test.YtlipmlbijddopaaMc
import Derived.Test.YtlipmlbijddopaaB2
import Derived.Test.YtlipmlbijddopaaDnsQ6
import Derived.OpenShut
import Derived.Laws.IdiomArrays
import Derived.Deep.Slices
set_option linter.unusedVariables false
set_option linter.unusedSimpArgs false
namespace Go.Proofs.Ytlipmlbijddopaa
open Go.RowKit
section
variable {P : Program} {ops : Array Oper} {Q : Exit → Act → World → Prop} {md : Region.Mode} {S S' : World → Prop}
theorem reg_strong (hSS : ∀ w, S' w → S w) : ∀ (fuel : Nat) (listed : Array Bool) (a : Act) (w : World), wpAnyH P md ops Q S' fuel listed a w → wpAnyH P md ops Q S fuel listed a w
  | 0, _, _, _, h => h
  | fuel + 1, _, _, _, h => ⟨h.1, fun i hi => wpOp_mono (fun a' w' h' => ⟨hSS _ h'.1, reg_strong hSS fuel _ a' w' h'.2⟩) (h.2 i hi)⟩
def regOk (md : Region.Mode) (ops : Array Oper) (listed : Array Bool) (i : Nat) : Bool := Region.noSelect ops && Region.free md ops listed i && (Region.ready md ops listed).contains i
theorem regOk_out {listed : Array Bool} {i : Nat} (h : regOk md ops listed i = true) : Region.noSelect ops = true ∧ Region.free md ops listed i = true ∧ (Region.ready md ops listed).contains i = true := by
  unfold regOk at h
  simp only [Bool.and_eq_true] at h
  exact ⟨h.1.1, h.1.2, h.2⟩
theorem reg_at {i : Nat} {oi : Oper} {rest : List Oper} (h : ops.toList.drop i = oi :: rest) : ops[i]? = some oi := by
  have h1 : ops.toList[i]? = some oi := by
    have := List.getElem?_drop (xs := ops.toList) (i := i) (j := 0)
    rw [h] at this
    simpa using this.symm
  simpa using h1
/-- one of those that may come up -/
theorem reg_cons (i : Nat) {oi : Oper} {rest : List Oper} {fuel : Nat} {listed : Array Bool} {a : Act} {w : World} {rs : List Nat} (hi : ops.toList.drop i = oi :: rest)
    (h : ∀ K' : Act → World → Prop, Shut (∀ a w, S w → (S w → wpAnyH P md ops Q S fuel (listed.setIfInBounds i true) a w) → K' a w) → if Region.wanted oi (yielded ops a.tmps) = true then Oper.wp P oi a w K' Q else K' (a.put oi.dst undef) w)
    (hs : AllReadyH P md ops Q S fuel listed a w rs) : AllReadyH P md ops Q S fuel listed a w (i :: rs) := AllReadyH.cons (reg_at hi) h hs
/-- operation i is taken first: it yields v wherever S holds -/
theorem reg_take (i : Nat) {oi : Oper} {rest : List Oper} {v : Value} {fuel : Nat} {listed : Array Bool} {a : Act} {w : World} (hi : ops.toList.drop i = oi :: rest) (hok : regOk md ops listed i = true)
    (hQ : ∀ c a w, Q (.panic c) (a.put oi.dst v) w → Q (.panic c) a w) (hw : Region.wanted oi (yielded ops a.tmps) = true) (hS : S w) (hy : ∀ w, S w → (execOp a.eval oi).run P w = .ok (.value v) w)
    (h : wpAnyH P md ops Q S fuel (listed.setIfInBounds i true) (a.put oi.dst v) w) : wpAnyH P md ops Q S (fuel + 1) listed a w :=
  wpAnyH_take (reg_at hi) (regOk_out hok).1 (regOk_out hok).2.1 (regOk_out hok).2.2 hQ (.inl ⟨hw, hy⟩) hS h
/-- operation i is not wanted -/
theorem reg_skip (i : Nat) {oi : Oper} {rest : List Oper} {fuel : Nat} {listed : Array Bool} {a : Act} {w : World} (hi : ops.toList.drop i = oi :: rest) (hok : regOk md ops listed i = true)
    (hQ : ∀ c a w, Q (.panic c) (a.put oi.dst undef) w → Q (.panic c) a w) (hw : Region.wanted oi (yielded ops a.tmps) = false) (hS : S w)
    (h : wpAnyH P md ops Q S fuel (listed.setIfInBounds i true) (a.put oi.dst undef) w) : wpAnyH P md ops Q S (fuel + 1) listed a w :=
  wpAnyH_take (reg_at hi) (regOk_out hok).1 (regOk_out hok).2.1 (regOk_out hok).2.2 hQ (.inr ⟨hw, rfl⟩) hS h
/-- a whole struct is loaded -/
theorem reg_load (i : Nat) {oi : Oper} {rest : List Oper} {fuel : Nat} {listed : Array Bool} {a : Act} {w : World} (hi : ops.toList.drop i = oi :: rest) (hok : regOk md ops listed i = true) (ty : TypeId) (x : Operand) (ho : oi.op = .load ty x) (g : Nat) (t : TypeId) (cs : List Value) (d : TypeDesc)
    (hQ : ∀ c a w, Q (.panic c) (a.put oi.dst (.agg cs.toArray)) w → Q (.panic c) a w) (hw : Region.wanted oi (yielded ops a.tmps) = true) (hS : S w)
    (hx : a.eval x = .pointer (some ⟨g, 0, none⟩)) (hg : ∀ w, S w → w.heap[g]? = some (.cells cs.toArray t (0, 0))) (hu : P.underlying ty = some d) (hd : (match d with | .struct _ | .array _ _ => true | _ => false) = true) (hsz : (P.info? ty).map (·.size) = some cs.toArray.size)
    (h : wpAnyH P md ops Q S fuel (listed.setIfInBounds i true) (a.put oi.dst (.agg cs.toArray)) w) : wpAnyH P md ops Q S (fuel + 1) listed a w :=
  reg_take i hi hok hQ hw hS (fun w' hS' => by
    unfold execOp
    simp only [ho, hx, Instr.loadAt, Instr.sureAddr, Sem.run_bind, Sem.run_pure, Result.andThen_ok, run_loadVar_row w' g t ty cs.toArray (0, 0) d (hg w' hS') hu hd hsz]) h
end
end Go.Proofs.Ytlipmlbijddopaa
set_option linter.unusedVariables false
set_option linter.unusedSimpArgs false
namespace Go.Proofs.Ytlipmlbijddopaa
def NR0 (w : World) (B : Nat) (A : Option Addr) (c : Nat) (n : List (List UInt8)) : Prop := Rd w B A n.length (sc n) ∧ n.length ≤ c ∧ n.length * 16 ≤ 140737488351232 ∧ ∀ s ∈ n, s.length ≤ 140737488351232
open Go.ChangeShapes Go.WideShapes Go.ChangeAt Go.RowKit
section
variable {P : Program} {H : Type} {enc : TypeId × Value → H} {W : World}
theorem weights_all_memS {P : Program} {e : TypeId} {d : DataW H} {n : Nat} (hn : n ∈ d.weights P e) : ∀ {l : List (DataW H)}, d ∈ l → n ∈ DataW.weightsAll P e l := by
  intro l
  induction l with
  | nil => intro h; cases h
  | cons b l ih =>
    intro h
    simp only [DataW.weightsAll, List.mem_append]
    rcases List.mem_cons.1 h with rfl | h
    · exact .inl hn
    · exact .inr (ih h)
theorem open_cellB {t e : TypeId} {V : Value} {d : DataW H} {ps : List MemPlace} {n : Nat} (ht : P.underlying t = some (.slice e)) (he : P.underlying e = some (.int .u8)) (hc : P.cellsOf e = 1) (hby : P.bytesOf e = 1)
    (h : DataW.trod enc P W 0 (fun _ => true) true n t [V] = some (d, ps)) (hre : ∀ n ∈ d.weights P t, n ≤ reachBytes) :
    ∃ (A : Option Addr) (c : Nat) (l : List UInt8), V = .slice A l.length c ∧ Rd W W.heap.size A l.length (bc l) ∧ l.length ≤ c ∧ l.length ≤ 140737488351232 := by
  rcases open_ints ht he hc h with ⟨hcs, hx⟩ | ⟨a, len, cap, zs, hcs, _, hl, hm, hz, hx, hcell, hwz⟩
  · simp only [List.cons.injEq, and_true] at hcs
    exact ⟨none, 0, [], hcs, Rd.nil _ _ _, by simp, by simp⟩
  · simp only [List.cons.injEq, and_true] at hcs
    subst hcs
    simp only [if_true] at hz
    simp only [Prod.mk.injEq] at hx
    obtain ⟨rfl, rfl⟩ := hx
    obtain ⟨l, hl1, hl2⟩ := bytes_of_wf (zs.take len) (fun z hz => hwz z (List.mem_of_mem_take hz))
    rw [List.length_take, hz, Nat.min_eq_left hl] at hl2
    have hw := hre (((lits (H := H) .u8 (zs.take len)).length + (lits (H := H) .u8 (zs.drop len)).length) * P.bytesOf e) (by simp [DataW.weights, ht])
    simp only [lits, List.length_map, List.length_take, List.length_drop, hby, reachBytes, hz] at hw
    refine ⟨some a, cap, l, by rw [hl2], ?_, by rw [hl2]; exact hl, by omega⟩
    rw [hl2]
    refine rd_of_cells _ (by simpa using hl2) fun j u hu => ?_
    rw [← hl1, List.getElem?_map] at hu
    obtain ⟨z, hz1, rfl⟩ := Option.map_eq_some_iff.1 hu
    have hj : j < len := by
      rcases Nat.lt_or_ge j len with h1 | h1
      · exact h1
      · rw [List.getElem?_eq_none (by rw [List.length_take]; omega)] at hz1; cases hz1
    rw [List.getElem?_take_of_lt hj] at hz1
    rw [hcell j (by omega), List.getD_eq_getElem?_getD, hz1]; rfl
theorem open_cellS {t e : TypeId} {V : Value} {d : DataW H} {ps : List MemPlace} {n : Nat} (ht : P.underlying t = some (.slice e)) (he : P.underlying e = some .string) (hc : P.cellsOf e = 1) (hby : P.bytesOf e = 16)
    (h : DataW.trod enc P W 0 (fun _ => true) true n t [V] = some (d, ps)) (hre : ∀ n ∈ d.weights P t, n ≤ reachBytes) :
    ∃ (A : Option Addr) (c : Nat) (l : List (List UInt8)), V = .slice A l.length c ∧ NR0 W W.heap.size A c l := by
  rcases open_strings ht he hc h with ⟨hcs, hx⟩ | ⟨a, len, cap, ss, hcs, _, hl, hm, hz, hx, hcell, hwz⟩
  · simp only [List.cons.injEq, and_true] at hcs
    exact ⟨none, 0, [], hcs, Rd.nil _ _ _, by simp, by simp, by simp⟩
  · simp only [List.cons.injEq, and_true] at hcs
    subst hcs
    simp only [if_true] at hz
    simp only [Prod.mk.injEq] at hx
    obtain ⟨rfl, rfl⟩ := hx
    have hw := hre (((strs (H := H) (ss.take len)).length + (strs (H := H) (ss.drop len)).length) * P.bytesOf e) (by simp [DataW.weights, ht])
    simp only [strs, List.length_map, List.length_take, List.length_drop, hby, reachBytes, hz] at hw
    have hl2 : ((ss.take len).map fun s => s.data.toList).length = len := by rw [List.length_map, List.length_take, hz, Nat.min_eq_left hl]
    refine ⟨some a, cap, (ss.take len).map fun s => s.data.toList, by rw [hl2], ?_, by rw [hl2]; exact hl, by rw [hl2]; omega, fun x hx => ?_⟩
    · rw [hl2]
      refine rd_of_cells _ (by simpa using hl2) fun j u hu => ?_
      unfold sc at hu
      rw [List.map_map, List.getElem?_map] at hu
      obtain ⟨s, hs1, rfl⟩ := Option.map_eq_some_iff.1 hu
      have hj : j < len := by
        rcases Nat.lt_or_ge j len with h1 | h1
        · exact h1
        · rw [List.getElem?_eq_none (by rw [List.length_take]; omega)] at hs1; cases hs1
      rw [List.getElem?_take_of_lt hj] at hs1
      rw [hcell j (by omega), List.getD_eq_getElem?_getD, hs1]
      simp [strV]
    · obtain ⟨s, hs, rfl⟩ := List.mem_map.1 hx
      have hw2 := hre s.data.toList.length (by
        simp only [DataW.weights, ht, List.mem_cons, List.mem_append]
        right; left
        exact weights_all_memS (d := .lit (.string s.data.toList)) (by simp [DataW.weights]) (List.mem_map.2 ⟨s, hs, rfl⟩))
      simpa [reachBytes] using hw2
theorem nat_of {k : IntKind} {z : Int} {m : Nat} (h : (Lit.int k z).wf = true) (hm : k.min = 0 ∧ k.max < (m : Int)) : ∃ n : Nat, z = (n : Int) ∧ n < m := by
  simp [Lit.wf, hm.1] at h
  exact ⟨z.toNat, by omega, by omega⟩
/-- the fields' types and places of a struct -/
def fieldsOf (P : Program) (t : TypeId) : Option (List (TypeId × Nat)) := match P.underlying t with
  | some (.struct fs) => some (fs.toList.map fun f => (f.type, f.offset))
  | _ => none
theorem trod_structL {t : TypeId} {l : List (TypeId × Nat)} {cs : List Value} {d : DataW H} {ps : List MemPlace} {n : Nat} (hf : fieldsOf P t = some l) (h : DataW.trod enc P W 0 (fun _ => true) true n t cs = some (d, ps)) :
    ∃ (xs : List (DataW H × List MemPlace)) (m : Nat), cs.length = P.cellsOf t ∧ xs.length = l.length ∧
      ∀ (i : Nat) (e : TypeId) (o : Nat), l[i]? = some (e, o) → ∃ y, DataW.trod enc P W 0 (fun _ => true) true m e ((cs.drop o).take (P.cellsOf e)) = some y ∧ ∀ n ∈ y.1.weights P e, n ∈ d.weights P t := by
  unfold fieldsOf at hf
  split at hf
  · rename_i fs hu
    obtain ⟨xs, m, _, hx, hcl, hxl, hfi⟩ := DataW.trod_struct hu h
    have hl := (Option.some.inj hf)
    simp only [Prod.mk.injEq] at hx
    obtain ⟨rfl, rfl⟩ := hx
    refine ⟨xs, m, hcl, by rw [hxl, ← hl]; simp, fun i e o hi => ?_⟩
    rw [← hl, List.getElem?_map] at hi
    obtain ⟨f, hf1, hf2⟩ := Option.map_eq_some_iff.1 hi
    cases hf2
    have hi2 : i < xs.length := by
      rw [hxl]
      have := (List.getElem?_eq_some_iff.1 hf1).1
      simpa using this
    have := hfi i f (by simpa using hf1)
    rw [List.getElem?_eq_getElem hi2] at this
    refine ⟨xs[i], this, fun n hn => ?_⟩
    simp only [DataW.weights, hu]
    exact DataW.weights_mem_each (j := i) (t := f.type) (d := xs[i].1) (by rw [List.getElem?_map, hf1]; rfl) (by rw [List.getElem?_map, List.getElem?_eq_getElem hi2]; rfl) n hn
  · cases hf
end
section
variable {H : Type} {enc : TypeId × Value → H} {W : World}
theorem trod_int_nat {P : Program} {t : TypeId} {k : IntKind} {V : Value} {y : DataW H × List MemPlace} {n : Nat} (m : Nat) (ht : P.underlying t = some (.int k)) (hm : k.min = 0 ∧ k.max < (m : Int)) (h : DataW.trod enc P W 0 (fun _ => true) true n t [V] = some y) : ∃ z : Nat, V = .int k (z : Int) ∧ z < m := by
  obtain ⟨z, h1, _, h2⟩ := DataW.trod_int ht h
  simp only [List.cons.injEq, and_true] at h1
  obtain ⟨q, rfl, hq⟩ := nat_of h2 hm
  exact ⟨q, h1, hq⟩
/-- a slice of structs is opened -/
theorem open_rowsG {P : Program} {α : Type} [Inhabited α] (f : α → List Value) (s : Nat) (hs : ∀ x, (f x).length = s) (hs1 : 0 < s) {t e : TypeId} (ht : P.underlying t = some (.slice e)) (hce : P.cellsOf e = s) (by_ : Nat) (hby : P.bytesOf e = by_) (Q : α → Prop)
    {V : Value} {d : DataW H} {ps : List MemPlace} {n : Nat} (h : DataW.trod enc P W 0 (fun _ => true) true n t [V] = some (d, ps)) (hre : ∀ n ∈ d.weights P t, n ≤ reachBytes)
    (ho : ∀ cs d ps n, DataW.trod enc P W 0 (fun _ => true) true n e cs = some (d, ps) → (∀ n ∈ d.weights P e, n ≤ reachBytes) → ∃ x, cs = f x ∧ Q x) :
    ∃ (A : Option Addr) (c : Nat) (l : List α), V = .slice A l.length c ∧ l.length ≤ c ∧ l.length * by_ ≤ 140737488351232 ∧ Rd W W.heap.size A (l.length * s) (l.flatMap f) ∧ ∀ x ∈ l, Q x := by
  rcases Go.Deep.open_slice ht h with ⟨hcs, hx⟩ | ⟨a, len, cap, m, n', D, Pl, hcs, _, hl, hm, hmm, hx, hV⟩
  · simp only [List.cons.injEq, and_true] at hcs
    exact ⟨none, 0, [], hcs, Nat.le_refl _, by simp, by simpa using Rd.nil _ _ _, fun _ h => by cases h⟩
  · simp only [List.cons.injEq, and_true] at hcs
    subst hcs
    simp only [if_true] at hmm
    obtain rfl := hmm.symm
    simp only [Prod.mk.injEq] at hx
    obtain ⟨rfl, rfl⟩ := hx
    have hw := hre (((List.map D (List.range len)).length + (List.map (fun j => D (len + j)) (List.range (cap - len))).length) * P.bytesOf e) (by simp [DataW.weights, ht])
    simp only [List.length_map, List.length_range, hby, reachBytes] at hw
    rw [hce] at hV
    obtain ⟨R, hR⟩ := Go.Deep.choose_lt (α := α) (n := len) (p := fun i x => W.cells? 0 (a.add (i * s)) s = some (f x) ∧ Q x) (fun i hi => by
      obtain ⟨cs', h1, h2⟩ := hV i (by omega)
      obtain ⟨x, hx, hsx⟩ := ho _ _ _ _ h2 (fun n hn => hre n (by
        simp only [DataW.weights, ht, List.mem_cons, List.mem_append]
        right; left
        exact weights_all_memS hn (List.mem_map.2 ⟨i, List.mem_range.2 hi, rfl⟩)))
      subst hx
      exact ⟨x, h1, hsx⟩)
    have hrl : ((List.range len).map R).length = len := by simp
    have hwl : len * by_ ≤ 140737488351232 := Nat.le_trans (Nat.mul_le_mul_right _ (Nat.le_add_right _ _)) hw
    refine ⟨some a, cap, (List.range len).map R, by rw [hrl], by rw [hrl]; exact hl, by rw [hrl]; exact hwl, ?_, fun x hx => ?_⟩
    · rw [hrl]
      have hfl : (((List.range len).map R).flatMap f).length = len * s := by
        have : ∀ q : List α, (q.flatMap f).length = q.length * s := fun q => by
          induction q with
          | nil => simp
          | cons a q ih => rw [List.flatMap_cons, List.length_append, hs, List.length_cons, ih, Nat.add_mul, Nat.one_mul, Nat.add_comm]
        rw [this, hrl]
      refine rd_of_cells _ hfl fun j u hu => ?_
      have hj : j < len * s := by
        rcases Nat.lt_or_ge j (len * s) with h1 | h1
        · exact h1
        · rw [List.getElem?_eq_none (by omega)] at hu; cases hu
      have hq : j / s < len := Nat.div_lt_of_lt_mul (by rw [Nat.mul_comm]; exact hj)
      have hjq : j = j / s * s + j % s := by rw [Nat.mul_comm]; exact (Nat.div_add_mod j s).symm
      have hms : j % s < s := Nat.mod_lt _ hs1
      have h1 := flat_get f s hs ((List.range len).map R) (j / s) (j % s) (by rw [hrl]; exact hq) hms
      rw [← hjq, hu] at h1
      simp only [List.getElem_map, List.getElem_range] at h1
      obtain ⟨_, _, h3⟩ := World.cells?_some (hR (j / s) hq).1
      have h4 := h3 (j % s) hms
      rw [Go.Deep.add_add, ← hjq] at h4
      rw [h4, h1]
    · obtain ⟨i, hi, rfl⟩ := List.mem_map.1 hx
      exact (hR i (List.mem_range.1 hi)).2
instance : Inhabited QR := ⟨⟨none, 0, zQ⟩⟩
instance : Inhabited RR := ⟨⟨none, 0, none, 0, none, 0, zR⟩⟩
end
end Go.Proofs.Ytlipmlbijddopaa
set_option linter.unusedVariables false
set_option linter.unusedSimpArgs false
namespace Go.Proofs.Ytlipmlbijddopaa
open Go.RowKit
section
variable {P : Program} (w : World)
theorem run_appG (B s : Nat) (t tx ty e : TypeId) (i : TypeInfo) (z : Value) (bytes : Nat) (ht : P.underlying t = some (.slice e)) (hi : P.info? e = some i) (hz : i.zero = some z)
    (hsize : i.size = s) (hby : i.bytes = bytes) (hzs : z.cells.size = s) (hb1 : 1 ≤ bytes) (hs1 : 1 ≤ s)
    (A : Option Addr) (n0 : Nat) (xs : List Value) (h : Rd w B A (n0 * s) xs) (x : Value) (n : Nat) (news : List Value) (hs : Src P s tx x n news w) (hn : 0 < n)
    (hbytes : (n0 + n) * bytes ≤ 140737488355328) :
    ∃ v' w', (Builtin.append_ #[t, tx] ty #[.slice A n0 n0, x]).run P w = .ok v' w' ∧ OwM w' w.heap.size e s v' (n0 + n) (xs ++ news) ∧ Below w.heap.size w w' := by
  subst hby
  have hnl : news.length = n * s := hs.newsLen
  have hle : n0 + n ≤ 140737488355328 := Nat.le_trans (Nat.le_mul_of_pos_right _ hb1) hbytes
  have hfits : ∀ c, c < n0 + n → Builtin.nextslicecap (n0 + n) c * i.bytes ≤ 281474976710656 := fun c hc => growslice_fits hc hbytes
  have hs' : Src P i.size tx x n news w := by rw [hsize]; exact hs
  have hxl : xs.length = n0 * s := h.1
  have hall : (xs ++ news).length = (n0 + n) * s := by rw [List.length_append, hxl, hnl, Nat.add_mul]
  have grown : OwM (w.drew.alloc (.cells ((xs ++ news).toArray ++ Builtin.zeroCells z.cells (grownCap w (n0 + n) n0 e - (n0 + n))) e)) w.heap.size e s
        (.slice (some ⟨w.heap.size, 0, none⟩) (n0 + n) (grownCap w (n0 + n) n0 e)) (n0 + n) (xs ++ news) := by
    have hge := grownCap_ge w (n0 + n) n0 e
    have hcm : grownCap w (n0 + n) n0 e ≤ maxLen := grownCap_le_maxLen w (n0 + n) n0 e (by unfold maxLen; omega)
    refine ⟨hall, .inr ⟨w.heap.size, _, _, rfl, Nat.le_refl _, heap_alloc_new w.drew _, hge, hcm, ?_, ?_⟩⟩
    · rw [Array.size_append, List.size_toArray, size_zeroCells, hzs, hall, ← Nat.add_mul]
      congr 1
      omega
    · rw [Array.toList_append]
      exact List.take_left' hall
  have hb : Below w.heap.size w (w.drew.alloc (.cells ((xs ++ news).toArray ++ Builtin.zeroCells z.cells (grownCap w (n0 + n) n0 e - (n0 + n))) e)) := (Below.refl _ _).drew.alloc (Nat.le_refl _) _
  rcases A with _ | a
  · have h0 : n0 = 0 := by
      rcases Nat.eq_zero_or_pos n0 with h1 | h1
      · exact h1
      · obtain ⟨b, o, e1, _⟩ := h.2 (Nat.mul_pos h1 hs1)
        cases e1
    subst h0
    have hx : xs = [] := List.eq_nil_of_length_eq_zero (by rw [hxl]; simp)
    subst hx
    have hr := run_append_grow_src (P := P) w t tx ty e i z ht hi hz none 0 0 [] (run_firstCells_none w.drew _ _ _ _) x n news hs' (by omega) (by omega) (by have := hfits 0 (by omega); simpa using this)
    simp only [Nat.zero_add, List.nil_append] at grown hb hr ⊢
    exact ⟨_, _, hr, grown, hb⟩
  · have holds : ∀ j u, xs[j]? = some u → w.cell? (a.add j) = some u := fun j u hu => by
      have hj : j < n0 * s := by
        rcases Nat.lt_or_ge j (n0 * s) with h1 | h1
        · exact h1
        · rw [List.getElem?_eq_none (by omega)] at hu; cases hu
      obtain ⟨b, o, e1, _, hc⟩ := h.2 (by omega)
      cases e1
      have := hc j u hu
      by_cases hj0 : j = 0
      · subst hj0; simpa [Addr.add] using this
      · simpa [Addr.add, hj0] using this
    have hr := run_append_grow_src (P := P) w t tx ty e i z ht hi hz (some a) n0 n0 xs (run_firstCells_some w.drew _ _ _ _ _ _ (by rw [hsize, hxl]) (by simpa using holds)) x n news hs' (by omega) (by omega) (hfits n0 (by omega))
    exact ⟨_, _, hr, grown, hb⟩
/-- as one step of a region that draws its order -/
theorem step_appG {ops : Array Oper} {o : Oper} {a : Act} {K : Act → World → Prop} {Q : Exit → Act → World → Prop} {E : Prop} (hgd : o.guard = none) (sl x : Operand) (t tx : TypeId)
    (ho : o.op = .call { callee := .builtin .append, args := #[sl, x], argTypes := #[t, tx] })
    (B s : Nat) (e : TypeId) (i : TypeInfo) (z : Value) (bytes : Nat) (ht : P.underlying t = some (.slice e)) (hi : P.info? e = some i) (hz : i.zero = some z)
    (hsize : i.size = s) (hby : i.bytes = bytes) (hzs : z.cells.size = s) (hb1 : 1 ≤ bytes) (hs1 : 1 ≤ s)
    (A : Option Addr) (n0 : Nat) (xs : List Value) (hv : a.eval sl = .slice A n0 n0) (h : Rd w B A (n0 * s) xs) (xv : Value) (hx : a.eval x = xv) (n : Nat) (news : List Value) (hs : Src P s tx xv n news w) (hn : 0 < n)
    (hbytes : (n0 + n) * bytes ≤ 140737488355328)
    (hk : ∀ v' w', OwM w' w.heap.size e s v' (n0 + n) (xs ++ news) → Below w.heap.size w w' → K (a.put o.dst v') w') :
    if Region.wanted o (yielded ops a.tmps) = true then Oper.wp P o a w K Q else E := by
  have hw : Region.wanted o (yielded ops a.tmps) = true := by simp [Region.wanted, hgd]
  rw [if_pos hw]
  obtain ⟨v', w', hr, h2, h3⟩ := run_appG (P := P) w B s t tx o.type e i z bytes ht hi hz hsize hby hzs hb1 hs1 A n0 xs h _ n news hs hn hbytes
  unfold Oper.wp execOp
  simp only [ho, resolve, invoke, builtin, Sem.run_bind, Sem.run_pure, Result.andThen_ok, List.map_toArray, List.map_cons, List.map_nil, hv, hx, hr]
  exact hk v' w' h2 h3
end
open Go.RowKit
/-- a question or a record in numbers and strings -/
structure Sm where
  nm : List (List UInt8)
  tg : List (List UInt8)
  ty : Nat
  sec : Nat
  n0 : Nat
  n1 : Nat
  n2 : Nat
  ttl : Nat
  d : List UInt8
def kindOf (t : Nat) : Nat := [1, 33, 33, 28, 5, 65535].getD (t % 6) 0
def smQ (s : Sm) : Qn := ⟨madeN s.nm, kindOf s.ty, 1 + s.ty / 128⟩
def smR (s : Sm) : Rc := if kindOf s.ty = 33 then ⟨smQ s, s.ttl, [], s.n0, s.n1, s.n2, madeN s.tg⟩ else ⟨smQ s, s.ttl, s.d.take 40, 0, 0, 0, []⟩
def addS (m : Ms) (s : Sm) : Ms :=
  if s.sec % 4 = 3 then { m with qs := m.qs ++ [smQ s] }
  else if s.sec % 4 = 0 then { m with r0 := m.r0 ++ [smR s] }
  else if s.sec % 4 = 1 then { m with r1 := m.r1 ++ [smR s] }
  else { m with r2 := m.r2 ++ [smR s] }
def madeK (id fl : Nat) (l : List Sm) : Ms := l.foldl addS ⟨id, fl, [], [], [], []⟩
def madeM (id fl : Nat) (l : List Sm) : Ms := madeK id fl (l.take 10)
def okS (s : Sm) : Prop := s.ty < 256 ∧ s.sec < 256 ∧ s.n0 < 65536 ∧ s.n1 < 65536 ∧ s.n2 < 65536 ∧ s.ttl < 4294967296
theorem kindOf_lt (t : Nat) : kindOf t < 65536 := by
  unfold kindOf
  have : t % 6 < 6 := Nat.mod_lt _ (by omega)
  rcases (show t % 6 = 0 ∨ t % 6 = 1 ∨ t % 6 = 2 ∨ t % 6 = 3 ∨ t % 6 = 4 ∨ t % 6 = 5 by omega) with h | h | h | h | h | h <;> rw [h] <;> decide
theorem smQ_ok {s : Sm} (h : okS s) : okQ (smQ s) := ⟨kindOf_lt _, by have := h.1; simp only [smQ]; omega⟩
theorem smR_q (s : Sm) : (smR s).q = smQ s := by unfold smR; split <;> rfl
theorem smR_right (s : Sm) : rightR (smR s) = true := by
  have h1 := made_right s.nm
  have h2 := made_right s.tg
  unfold smR
  split
  · rename_i h
    simp [rightR, smQ, h1, h2, h]
  · rename_i h
    simp [rightR, smQ, h1, h]
    omega
theorem smR_ok {s : Sm} (h : okS s) : okR (smR s) := by
  obtain ⟨_, _, h1, h2, h3, h4⟩ := id h
  unfold smR
  split
  · exact ⟨smQ_ok h, h4, h1, h2, h3⟩
  · exact ⟨smQ_ok h, h4, by simp, by simp, by simp⟩
/-- right, numbers that fit, and how many -/
structure GoodM (m : Ms) (k : Nat) : Prop where
  r : rightM m = true
  ok : okM m
  n : m.num = k
theorem goodM_nil (id fl : Nat) (hi : id < 65536) (hf : fl < 65536) : GoodM ⟨id, fl, [], [], [], []⟩ 0 :=
  ⟨rfl, ⟨hi, hf, fun q h => (by cases h), fun q h => (by cases h), fun q h => (by cases h), fun q h => (by cases h)⟩, rfl⟩
theorem mem_snoc {α : Type} {p : α → Prop} {l : List α} {a : α} (h : ∀ x ∈ l, p x) (ha : p a) : ∀ x ∈ l ++ [a], p x := by
  intro x hx
  rcases List.mem_append.1 hx with hx | hx
  · exact h x hx
  · rw [List.mem_singleton.1 hx]; exact ha
theorem goodM_add {m : Ms} {k : Nat} {s : Sm} (h : GoodM m k) (hs : okS s) : GoodM (addS m s) (k + 1) := by
  obtain ⟨r, ⟨a1, a2, a3, a4, a5, a6⟩, n⟩ := h
  have hr := smR_right s
  have hk := smR_ok hs
  have hq := smQ_ok hs
  have hn : rightN (smQ s).nm = true := made_right s.nm
  unfold addS
  split
  · exact ⟨by simp [rightM] at r ⊢; exact ⟨⟨r.1, hn⟩, r.2⟩, ⟨a1, a2, mem_snoc a3 hq, a4, a5, a6⟩, by simp [Ms.num] at n ⊢; omega⟩
  split
  · exact ⟨by simp [rightM] at r ⊢; exact ⟨r.1, ⟨r.2.1, hr⟩, r.2.2⟩, ⟨a1, a2, a3, mem_snoc a4 hk, a5, a6⟩, by simp [Ms.num] at n ⊢; omega⟩
  split
  · exact ⟨by simp [rightM] at r ⊢; exact ⟨r.1, r.2.1, ⟨r.2.2.1, hr⟩, r.2.2.2⟩, ⟨a1, a2, a3, a4, mem_snoc a5 hk, a6⟩, by simp [Ms.num] at n ⊢; omega⟩
  · exact ⟨by simp [rightM] at r ⊢; exact ⟨r.1, r.2.1, r.2.2.1, ⟨r.2.2.2, hr⟩⟩, ⟨a1, a2, a3, a4, a5, mem_snoc a6 hk⟩, by simp [Ms.num] at n ⊢; omega⟩
theorem goodM_fold (l : List Sm) : ∀ (m : Ms) (k : Nat), GoodM m k → (∀ s ∈ l, okS s) → GoodM (l.foldl addS m) (k + l.length) := by
  induction l with
  | nil => intro m k h _; exact h
  | cons a l ih =>
    intro m k h hs
    have := ih (addS m a) (k + 1) (goodM_add h (hs a (by simp))) (fun s h => hs s (by simp [h]))
    rw [List.foldl_cons, List.length_cons, show k + (l.length + 1) = k + 1 + l.length by omega]
    exact this
theorem madeM_good (id fl : Nat) (l : List Sm) (hi : id < 65536) (hf : fl < 65536) (hs : ∀ s ∈ l, okS s) : GoodM (madeM id fl l) (min l.length 10) := by
  have := goodM_fold (l.take 10) _ 0 (goodM_nil id fl hi hf) (fun s h => hs s (List.mem_of_mem_take h))
  rw [Nat.zero_add, List.length_take, Nat.min_comm] at this
  exact this
theorem madeK_snoc (id fl : Nat) (l : List Sm) (s : Sm) : madeK id fl (l ++ [s]) = addS (madeK id fl l) s := by simp [madeK]
theorem madeK_take (id fl : Nat) (l : List Sm) (k : Nat) (h : k < l.length) : madeK id fl (l.take (k + 1)) = addS (madeK id fl (l.take k)) l[k] := by
  rw [List.take_succ_eq_append_getElem h, madeK_snoc]
/-- short names, short data -/
structure ShortM (m : Ms) : Prop where
  q : ∀ q ∈ m.qs, sizeN q.nm ≤ 169
  r0 : ∀ r ∈ m.r0, sizeN r.q.nm ≤ 169 ∧ (dataR r).length ≤ 175
  r1 : ∀ r ∈ m.r1, sizeN r.q.nm ≤ 169 ∧ (dataR r).length ≤ 175
  r2 : ∀ r ∈ m.r2, sizeN r.q.nm ≤ 169 ∧ (dataR r).length ≤ 175
theorem made_size (l : List (List UInt8)) : sizeN (madeN l) ≤ 169 := by
  have h1 := labS_length (madeN l)
  have h2 := (made_ok l).2
  omega
theorem smR_short (s : Sm) : sizeN (smR s).q.nm ≤ 169 ∧ (dataR (smR s)).length ≤ 175 := by
  refine ⟨by rw [smR_q]; exact made_size _, ?_⟩
  have h := made_size s.tg
  unfold smR
  split
  · rename_i h1
    simp [dataR, smQ, h1, formN_length]
    omega
  · rename_i h1
    simp [dataR, smQ, h1]
    omega
theorem shortM_add {m : Ms} {s : Sm} (h : ShortM m) : ShortM (addS m s) := by
  obtain ⟨a, b, c, d⟩ := h
  have hr := smR_short s
  have hq : sizeN (smQ s).nm ≤ 169 := made_size s.nm
  unfold addS
  split
  · exact ⟨mem_snoc a hq, b, c, d⟩
  split
  · exact ⟨a, mem_snoc b hr, c, d⟩
  split
  · exact ⟨a, b, mem_snoc c hr, d⟩
  · exact ⟨a, b, c, mem_snoc d hr⟩
theorem shortM_fold (l : List Sm) : ∀ (m : Ms), ShortM m → ShortM (l.foldl addS m) := by
  induction l with
  | nil => intro m h; exact h
  | cons a l ih => intro m h; exact ih (addS m a) (shortM_add h)
theorem ask_short {s : Wr} {q : Qn} (hr : rightN q.nm = true) (h : sizeN q.nm ≤ 169) : (askB s q).1.length ≤ s.1.length + 173 := by
  have := (app_reads s.1 s.2 q.nm hr).2.2.1
  simp [askB]
  omega
theorem rec_short {s : Wr} {r : Rc} (hr : rightR r = true) (h : sizeN r.q.nm ≤ 169 ∧ (dataR r).length ≤ 175) : (recB s r).1.length ≤ s.1.length + 354 := by
  have := ask_short (s := s) (rightR_nm hr) h.1
  simp [recB, twos_length]
  omega
theorem qs_short {l : List Qn} : ∀ (s : Wr), (∀ q ∈ l, rightN q.nm = true) → (∀ q ∈ l, sizeN q.nm ≤ 169) → (qsB s l).1.length ≤ s.1.length + 354 * l.length := by
  induction l with
  | nil => intro s _ _; exact Nat.le_refl _
  | cons a l ih =>
    intro s h1 h2
    have := ih (askB s a) (fun q h => h1 q (by simp [h])) (fun q h => h2 q (by simp [h]))
    have := ask_short (s := s) (h1 a (by simp)) (h2 a (by simp))
    rw [show qsB s (a :: l) = qsB (askB s a) l from rfl, List.length_cons]
    omega
theorem rs_short {l : List Rc} : ∀ (s : Wr), (∀ r ∈ l, rightR r = true) → (∀ r ∈ l, sizeN r.q.nm ≤ 169 ∧ (dataR r).length ≤ 175) → (rsB s l).1.length ≤ s.1.length + 354 * l.length := by
  induction l with
  | nil => intro s _ _; exact Nat.le_refl _
  | cons a l ih =>
    intro s h1 h2
    have := ih (recB s a) (fun q h => h1 q (by simp [h])) (fun q h => h2 q (by simp [h]))
    have := rec_short (s := s) (h1 a (by simp)) (h2 a (by simp))
    rw [show rsB s (a :: l) = rsB (recB s a) l from rfl, List.length_cons]
    omega
theorem form_short {m : Ms} (hr : rightM m = true) (h : ShortM m) : (formM m).length ≤ 12 + 354 * m.num := by
  obtain ⟨a0, a1, a2, a3⟩ := rightM_q hr
  have e0 := qs_short (headB m, []) a0 h.q
  have e1 := rs_short (qsB (headB m, []) m.qs) a1 h.r0
  have e2 := rs_short (rsB (qsB (headB m, []) m.qs) m.r0) a2 h.r1
  have e3 := rs_short (rsB (rsB (qsB (headB m, []) m.qs) m.r0) m.r1) a3 h.r2
  rw [show (headB m, ([] : List Int)).1.length = 12 from headB_length m] at e0
  show (bodyB m).1.length ≤ _
  unfold bodyB Ms.num
  omega
/-- what is made is right, fits, is short, and is written and read -/
theorem madeM_all (id fl : Nat) (l : List Sm) (hi : id < 65536) (hf : fl < 65536) (hs : ∀ s ∈ l, okS s) :
    rightM (madeM id fl l) = true ∧ okM (madeM id fl l) ∧ (madeM id fl l).num ≤ 10 ∧ (formM (madeM id fl l)).length ≤ 3552 ∧ writeM (madeM id fl l) = (formM (madeM id fl l), 0) ∧ readM (formM (madeM id fl l)) = (madeM id fl l, 0) := by
  obtain ⟨r, k, n⟩ := madeM_good id fl l hi hf hs
  have hn : (madeM id fl l).num ≤ 10 := by rw [n]; exact Nat.min_le_right _ _
  have hS : ShortM (madeM id fl l) := shortM_fold _ _ ⟨fun q h => (by cases h), fun q h => (by cases h), fun q h => (by cases h), fun q h => (by cases h)⟩
  have hl := form_short r hS
  have hl2 : (formM (madeM id fl l)).length ≤ 3552 := by omega
  refine ⟨r, k, hn, hl2, ?_, read_form r k (by omega) (by omega)⟩
  unfold writeM
  rw [if_neg (by rw [r]; simp), if_neg (by omega), if_neg (by omega)]
/-- different messages have different forms -/
theorem form_inj {m k : Ms} (hm : rightM m = true) (hk : rightM k = true) (om : okM m) (ok : okM k) (nm : m.num ≤ 256) (nk : k.num ≤ 256) (lm : (formM m).length ≤ 4096) (lk : (formM k).length ≤ 4096) : formM m = formM k ↔ m = k := by
  constructor
  · intro h
    have h1 := read_form hm om nm lm
    have h2 := read_form hk ok nk lk
    rw [h, h2] at h1
    exact (congrArg Prod.fst h1).symm
  · intro h; rw [h]
open Go.RowKit
open Go.RowKit
/-- a Small in memory -/
structure SmR where
  A : Option Addr
  c : Nat
  tA : Option Addr
  tc : Nat
  dA : Option Addr
  dc : Nat
  s : Sm
def SmR.cells (x : SmR) : List Value := [.slice x.A x.s.nm.length x.c, .slice x.tA x.s.tg.length x.tc, .int .u8 (x.s.ty : Int), .int .u8 (x.s.sec : Int), .int .u16 (x.s.n0 : Int), .int .u16 (x.s.n1 : Int), .int .u16 (x.s.n2 : Int), .int .u32 (x.s.ttl : Int), .slice x.dA x.s.d.length x.dc]
@[simp] theorem SmR.cells_length (x : SmR) : x.cells.length = 9 := rfl
def TRd (w : World) (B : Nat) (A : Option Addr) (c : Nat) (n : List (List UInt8)) : Prop := Rd w B A n.length (sc n) ∧ n.length ≤ c ∧ n.length * 16 ≤ 140737488351232 ∧ ∀ x ∈ n, x.length ≤ 140737488351232
theorem TRd.below {w w' : World} {B : Nat} {A : Option Addr} {c : Nat} {n : List (List UInt8)} (h : TRd w B A c n) (hb : Below B w w') : TRd w' B A c n := ⟨h.1.below hb, h.2⟩
theorem TRd.more {w : World} {B B' : Nat} {A : Option Addr} {c : Nat} {n : List (List UInt8)} (h : TRd w B A c n) (hb : B ≤ B') : TRd w B' A c n := ⟨h.1.more hb, h.2⟩
def SRd (w : World) (B : Nat) (x : SmR) : Prop := TRd w B x.A x.c x.s.nm ∧ TRd w B x.tA x.tc x.s.tg ∧ DRd w B x.dA x.dc x.s.d ∧ okS x.s
theorem SRd.below {w w' : World} {B : Nat} {x : SmR} (h : SRd w B x) (hb : Below B w w') : SRd w' B x := ⟨h.1.below hb, h.2.1.below hb, h.2.2.1.below hb, h.2.2.2⟩
theorem SRd.more {w : World} {B B' : Nat} {x : SmR} (h : SRd w B x) (hb : B ≤ B') : SRd w B' x := ⟨h.1.more hb, h.2.1.more hb, h.2.2.1.more hb, h.2.2.2⟩
theorem newd_cell {w w3 : World} {e : TypeId} {cs : List Value} (h : Below (w.drew.alloc (.cells cs.toArray e)).heap.size (w.drew.alloc (.cells cs.toArray e)) w3) (k : Nat) : w3.cell? ⟨w.heap.size, k, none⟩ = cs[k]? := ((Vx.new w.drew e cs).below h (Vx.new w.drew e cs).lt).cell k

theorem kind_get (k : Nat) (h : k < 6) : ([.int .u16 1, .int .u16 33, .int .u16 33, .int .u16 28, .int .u16 5, .int .u16 65535] : List Value)[k]? = some (.int .u16 (([1, 33, 33, 28, 5, 65535].getD k 0 : Nat) : Int)) := by
  rcases (show k = 0 ∨ k = 1 ∨ k = 2 ∨ k = 3 ∨ k = 4 ∨ k = 5 by omega) with rfl | rfl | rfl | rfl | rfl | rfl <;> rfl
set_option maxRecDepth 100000 in
set_option maxHeartbeats 1000000 in
theorem smq_at (x : SmR) (w : World) (h : SRd w w.heap.size x) :
    Calls Try.prog 30 #[.agg x.cells.toArray] w fun e w' => ∃ A' c', e = .returned (.agg (QR.cells ⟨A', c', smQ x.s⟩).toArray) ∧ Ow w' w.heap.size 9 (.slice A' (smQ x.s).nm.length c') (sc (smQ x.s).nm) ∧ Below w.heap.size w w' := by
  obtain ⟨A, c, tA, tc, dA, dc, ⟨nm, tg, ty, sec, n0, n1, n2, ttl, d⟩⟩ := x
  have hn := h.1
  have hty := h.2.2.2.1
  clear h
  simp only at hn hty
  obtain ⟨cl, hcl⟩ : ∃ cl, cl = ty / 128 := ⟨_, rfl⟩
  have kd : (ty : Int).tdiv 128 = (cl : Int) := by rw [Int.tdiv_eq_ediv_of_nonneg (by omega)]; omega
  have kd2 : (ty : Int) / 128 = (cl : Int) := by omega
  have hcl2 : cl ≤ 1 := by omega
  have hQ : smQ ⟨nm, tg, ty, sec, n0, n1, n2, ttl, d⟩ = ⟨madeN nm, kindOf ty, 1 + cl⟩ := by rw [hcl]; rfl
  rw [hQ]
  obtain ⟨mn, hmn⟩ : ∃ mn, mn = madeN nm := ⟨_, rfl⟩
  rw [← hmn]
  have HN := Lib.hid hn
  have HMN := Lib.hid hmn
  obtain ⟨k, hk⟩ : ∃ k, k = ty % 6 := ⟨_, rfl⟩
  have hk6 : k < 6 := by omega
  have hkI : (k : Int) < 6 := by omega
  have hk0 : (0 : Int) ≤ (k : Int) := by omega
  obtain ⟨kd0, hkd⟩ : ∃ kd, kd = kindOf ty := ⟨_, rfl⟩
  have hkk : kd0 = [1, 33, 33, 28, 5, 65535].getD k 0 := by rw [hkd, hk]; rfl
  rw [← hkd]
  have hg := kind_get k hk6
  rw [← hkk] at hg
  have HG := Lib.hid hg
  have kq1 : (ty : Int) % 6 = (k : Int) := by omega
  have kq2 : (ty : Int).tmod 6 = (k : Int) := by rw [Int.tmod_eq_emod_of_nonneg (by omega)]; exact kq1
  have kq3 : ty % 6 = k := hk.symm
  have kq4 : ((ty % 6 : Nat) : Int) = (k : Int) := by rw [kq3]
  have kw1 : IntKind.u16.wrap (ty : Int) = (ty : Int) := by rw [IntKind.wrap_u16]; omega
  have kw2 : IntKind.u16.wrap (cl : Int) = (cl : Int) := by rw [IntKind.wrap_u16]; omega
  have kw3 : IntKind.u16.wrap (1 + (cl : Int)) = 1 + (cl : Int) := by rw [IntKind.wrap_u16]; omega
  clear hcl hQ hn hmn hk hkk hkd hg
  unfold SmR.cells
  simp only
  go_enter Try.func30, Try.ntmps30
  go_upto_region 1 with fail
  have V1 : Vx ((w.alloc (.cells #[.slice A nm.length c, .slice tA tg.length tc, .int .u8 (ty : Int), .int .u8 (sec : Int), .int .u16 (n0 : Int), .int .u16 (n1 : Int), .int .u16 (n2 : Int), .int .u32 (ttl : Int), .slice dA d.length dc] 81)).alloc (.cells #[.slice none 0 0, .int .u16 0, .int .u16 0] 38)) w.heap.size 81 [.slice A nm.length c, .slice tA tg.length tc, .int .u8 (ty : Int), .int .u8 (sec : Int), .int .u16 (n0 : Int), .int .u16 (n1 : Int), .int .u16 (n2 : Int), .int .u32 (ttl : Int), .slice dA d.length dc] := (Vx.new w _ _).alloc _
  have V2 : Vx ((w.alloc (.cells #[.slice A nm.length c, .slice tA tg.length tc, .int .u8 (ty : Int), .int .u8 (sec : Int), .int .u16 (n0 : Int), .int .u16 (n1 : Int), .int .u16 (n2 : Int), .int .u32 (ttl : Int), .slice dA d.length dc] 81)).alloc (.cells #[.slice none 0 0, .int .u16 0, .int .u16 0] 38)) (w.heap.size + 1) 38 [.slice none 0 0, .int .u16 0, .int .u16 0] := by
    have := Vx.new (w.alloc (.cells #[.slice A nm.length c, .slice tA tg.length tc, .int .u8 (ty : Int), .int .u8 (sec : Int), .int .u16 (n0 : Int), .int .u16 (n1 : Int), .int .u16 (n2 : Int), .int .u32 (ttl : Int), .slice dA d.length dc] 81)) 38 [.slice none 0 0, .int .u16 0, .int .u16 0]
    rwa [World.size_alloc] at this
  have hb1 : Below w.heap.size w ((w.alloc (.cells #[.slice A nm.length c, .slice tA tg.length tc, .int .u8 (ty : Int), .int .u8 (sec : Int), .int .u16 (n0 : Int), .int .u16 (n1 : Int), .int .u16 (n2 : Int), .int .u32 (ttl : Int), .slice dA d.length dc] 81)).alloc (.cells #[.slice none 0 0, .int .u16 0, .int .u16 0] 38)) := (below_new w (.cells #[.slice A nm.length c, .slice tA tg.length tc, .int .u8 (ty : Int), .int .u8 (sec : Int), .int .u16 (n0 : Int), .int .u16 (n1 : Int), .int .u16 (n2 : Int), .int .u32 (ttl : Int), .slice dA d.length dc] 81)).trans ((below_new (w.alloc (.cells #[.slice A nm.length c, .slice tA tg.length tc, .int .u8 (ty : Int), .int .u8 (sec : Int), .int .u16 (n0 : Int), .int .u16 (n1 : Int), .int .u16 (n2 : Int), .int .u32 (ttl : Int), .slice dA d.length dc] 81)) (.cells #[.slice none 0 0, .int .u16 0, .int .u16 0] 38)).mono (by simp))
  have hz1 : ((w.alloc (.cells #[.slice A nm.length c, .slice tA tg.length tc, .int .u8 (ty : Int), .int .u8 (sec : Int), .int .u16 (n0 : Int), .int .u16 (n1 : Int), .int .u16 (n2 : Int), .int .u32 (ttl : Int), .slice dA d.length dc] 81)).alloc (.cells #[.slice none 0 0, .int .u16 0, .int .u16 0] 38)).heap.size = w.heap.size + 2 := by simp
  generalize (w.alloc (.cells #[.slice A nm.length c, .slice tA tg.length tc, .int .u8 (ty : Int), .int .u8 (sec : Int), .int .u16 (n0 : Int), .int .u16 (n1 : Int), .int .u16 (n2 : Int), .int .u32 (ttl : Int), .slice dA d.length dc] 81)).alloc (.cells #[.slice none 0 0, .int .u16 0, .int .u16 0] 38) = w1 at *
  have HZ := Lib.hid hz1
  clear hz1
  have K := Lib.hid (fun (W : World) (hW : Below w1.heap.size w1 W) => made_any A c nm W ((HN.out.1.below (hb1.trans (hW.mono hb1.size))).more (hb1.trans (hW.mono hb1.size)).size) HN.out.2.1 HN.out.2.2.1 HN.out.2.2.2)
  have p0 : w1.cell? ⟨w.heap.size, 0, none⟩ = some (.slice A nm.length c) := V1.cell 0
  have p2 : w1.cell? ⟨w.heap.size, 2, none⟩ = some (.int .u8 (ty : Int)) := V1.cell 2
  refine wp_region_held_drew (S := fun w' => w'.cell? ⟨w.heap.size, 0, none⟩ = some (.slice A nm.length c) ∧ w'.cell? ⟨w.heap.size, 2, none⟩ = some (.int .u8 (ty : Int))) (by kernel_rfl) ⟨p0, p2⟩ (fun hH => ?_)
  refine reg_take 0 (v := ?_) rfl (by kernel_rfl) (fun _ _ _ h => h) (by rfl) hH ?_ ?_
  rotate_left
  · intro w hSw; (try dsimp only at hSw); go_simp; (try with_reducible rfl)
  (try simp only [Act.put, List.setIfInBounds_toArray, List.set_cons_zero, List.set_cons_succ])
  refine reg_take 1 (v := ?_) rfl (by kernel_rfl) (fun _ _ _ h => h) (by rfl) hH ?_ ?_
  rotate_left
  · intro w hSw; (try dsimp only at hSw); go_simp; (try with_reducible rfl)
  (try simp only [Act.put, List.setIfInBounds_toArray, List.set_cons_zero, List.set_cons_succ])
  refine reg_take 4 (v := ?_) rfl (by kernel_rfl) (fun _ _ _ h => h) (by rfl) hH ?_ ?_
  rotate_left
  · intro w hSw; (try dsimp only at hSw); go_simp; (try with_reducible rfl)
  (try simp only [Act.put, List.setIfInBounds_toArray, List.set_cons_zero, List.set_cons_succ])
  refine reg_take 5 (v := ?_) rfl (by kernel_rfl) (fun _ _ _ h => h) (by rfl) hH ?_ ?_
  rotate_left
  · intro w hSw; (try dsimp only at hSw); go_simp; (try with_reducible rfl)
  (try simp only [Act.put, List.setIfInBounds_toArray, List.set_cons_zero, List.set_cons_succ])
  refine reg_take 6 (v := ?_) rfl (by kernel_rfl) (fun _ _ _ h => h) (by rfl) hH ?_ ?_
  rotate_left
  · intro w hSw; (try dsimp only at hSw); go_simp; (try with_reducible rfl)
  (try simp only [Act.put, List.setIfInBounds_toArray, List.set_cons_zero, List.set_cons_succ])
  refine reg_take 9 (v := ?_) rfl (by kernel_rfl) (fun _ _ _ h => h) (by rfl) hH ?_ ?_
  rotate_left
  · intro w hSw; (try dsimp only at hSw); go_simp; (try with_reducible rfl)
  (try simp only [Act.put, List.setIfInBounds_toArray, List.set_cons_zero, List.set_cons_succ])
  refine reg_take 10 (v := ?_) rfl (by kernel_rfl) (fun _ _ _ h => h) (by rfl) hH ?_ ?_
  rotate_left
  · intro w hSw; (try dsimp only at hSw); go_simp; (try with_reducible rfl)
  (try simp only [Act.put, List.setIfInBounds_toArray, List.set_cons_zero, List.set_cons_succ])
  refine reg_take 11 (v := ?_) rfl (by kernel_rfl) (fun _ _ _ h => h) (by rfl) hH ?_ ?_
  rotate_left
  · intro w hSw; (try dsimp only at hSw); go_simp; (try with_reducible rfl)
  (try simp only [Act.put, List.setIfInBounds_toArray, List.set_cons_zero, List.set_cons_succ])
  refine reg_take 12 (v := ?_) rfl (by kernel_rfl) (fun _ _ _ h => h) (by rfl) hH ?_ ?_
  rotate_left
  · intro w hSw; (try dsimp only at hSw); go_simp; (try with_reducible rfl)
  (try simp only [Act.put, List.setIfInBounds_toArray, List.set_cons_zero, List.set_cons_succ])
  refine reg_take 13 (v := ?_) rfl (by kernel_rfl) (fun _ _ _ h => h) (by rfl) hH ?_ ?_
  rotate_left
  · intro w hSw; (try dsimp only at hSw); go_simp; (try with_reducible rfl)
  (try simp only [Act.put, List.setIfInBounds_toArray, List.set_cons_zero, List.set_cons_succ])
  refine wpAnyH_ready (rs := [2, 3]) (by kernel_rfl) (by simp) ?_
  refine reg_cons _ rfl (fun K' hK => ?_) (reg_cons _ rfl (fun K' hK => ?_) AllReadyH.nil)
  · go_simp
    go_at_call 31
    refine (K.out _ (Below.refl _ w1).drew).mono ?_
    rw [← HMN.out]
    rintro e w3 ⟨v3, rfl, ho3, hb3⟩
    obtain ⟨A3, c3, rfl, hc3, hr3⟩ := ho3.form6 _ (sc_length _)
    have hb13 : Below w1.heap.size w1 w3 := (Below.refl w1.heap.size w1).drew.trans hb3
    (try dsimp only)
    refine hK.out _ _ ⟨(V1.below hb13 V1.lt).cell 0, (V1.below hb13 V1.lt).cell 2⟩ (fun hH => ?_)
    (try simp only [Act.put, List.setIfInBounds_toArray, List.set_cons_zero, List.set_cons_succ])
    clear hK
    refine wpAnyH_ready (rs := [3]) (by kernel_rfl) (by simp) ?_
    refine reg_cons _ rfl (fun K2 hK2 => ?_) AllReadyH.nil
    go_simp
    have hL : ((w3).alloc (.cells #[.int .u16 1, .int .u16 33, .int .u16 33, .int .u16 28, .int .u16 5, .int .u16 65535] 23)).cell? ⟨(w3).heap.size, k, none⟩ = some (.int .u16 (kd0 : Int)) := by
      have := (Vx.new (w3) 23 [.int .u16 1, .int .u16 33, .int .u16 33, .int .u16 28, .int .u16 5, .int .u16 65535]).cell k
      exact this.trans HG.out
    have hbL : Below w1.heap.size w1 ((w3).alloc (.cells #[.int .u16 1, .int .u16 33, .int .u16 33, .int .u16 28, .int .u16 5, .int .u16 65535] 23)) := hb13.alloc hb13.size _
    refine hK2.out _ _ ⟨(V1.below hbL V1.lt).cell 0, (V1.below hbL V1.lt).cell 2⟩ (fun hH2 => ?_)
    clear hK2
    refine reg_strong (S' := fun w' => (w'.cell? ⟨w.heap.size, 0, none⟩ = some (.slice A nm.length c) ∧ w'.cell? ⟨w.heap.size, 2, none⟩ = some (.int .u8 (ty : Int))) ∧ w'.cell? ⟨(w3).heap.size, k, none⟩ = some (.int .u16 (kd0 : Int))) (fun _ h => h.1) _ _ _ _ ?_
    have hH3 := And.intro hH2 hL
    (try simp only [Act.put, List.setIfInBounds_toArray, List.set_cons_zero, List.set_cons_succ])
    refine reg_take 7 (v := ?_) rfl (by kernel_rfl) (fun _ _ _ h => h) (by rfl) hH3 ?_ ?_
    rotate_left
    · intro w hSw; (try dsimp only at hSw); go_simp; (try with_reducible rfl)
    (try simp only [Act.put, List.setIfInBounds_toArray, List.set_cons_zero, List.set_cons_succ])
    refine reg_take 8 (v := ?_) rfl (by kernel_rfl) (fun _ _ _ h => h) (by rfl) hH3 ?_ ?_
    rotate_left
    · intro w hSw; (try dsimp only at hSw); go_simp; (try with_reducible rfl)
    (try simp only [Act.put, List.setIfInBounds_toArray, List.set_cons_zero, List.set_cons_succ])
    refine reg_take 14 (v := ?_) rfl (by kernel_rfl) (fun _ _ _ h => h) (by rfl) hH3 ?_ ?_
    rotate_left
    · intro w hSw; (try dsimp only at hSw); go_simp; (try with_reducible rfl)
    (try simp only [Act.put, List.setIfInBounds_toArray, List.set_cons_zero, List.set_cons_succ])
    have V9 := V2.below hbL V2.lt
    obtain ⟨x0, x1, x2⟩ := V9.c3
    have f0 := V9.free 0
    have f1 := V9.free 1
    have f2 := V9.free 2
    have hOW := (ho3.alloc (.cells #[.int .u16 1, .int .u16 33, .int .u16 33, .int .u16 28, .int .u16 5, .int .u16 65535] 23)).mono (show w1.heap.size ≤ _ by first | exact Nat.le_refl _ | simp)
    have hBW := hb1.trans ((hbL).mono hb1.size)
    have hz : w.heap.size + 2 ≤ w1.heap.size := by have := HZ.out; omega
    have hs1 := hb13.size
    have hlt9 := V9.lt
    clear hH3
    refine wpAnyH_ready (rs := [15]) (by kernel_rfl) (by simp) ?_
    refine reg_cons _ rfl (fun K2 hK2 => ?_) AllReadyH.nil
    go_simp
    refine hK2.out _ _ ?_ (fun hH => ?_)
    · have q0 := (V1.below hbL V1.lt)
      have q1 := ((q0.setO (g' := w.heap.size + 1) (by omega) 0 (.slice A3 mn.length c3)).setO (g' := w.heap.size + 1) (by omega) 1 (.int .u16 (kd0 : Int))).setO (g' := w.heap.size + 1) (by omega) 2 (.int .u16 (1 + (cl : Int)))
      exact ⟨⟨q1.cell 0, q1.cell 2⟩, by
        have hs2 : w1.drew.heap.size = w1.heap.size := rfl
        rw [World.cell?_setCell_other _ _ _ _ (by intro e; injection e with e1; omega), World.cell?_setCell_other _ _ _ _ (by intro e; injection e with e1; omega), World.cell?_setCell_other _ _ _ _ (by intro e; injection e with e1; omega)]
        assumption⟩
    clear hK2
    refine wpAnyH_done (by kernel_rfl) ?_ _
    go_wp2_with fail
    refine bodyPost_ret (resQ Try.results30 _ _ (w.heap.size + 1) _ _ rfl (set3_vx V9 rfl) rfl) rfl ?_
    exact ⟨A3, c3, rfl, (ow_setO (ow_setO (ow_setO hOW (by omega) _ _) (by omega) _ _) (by omega) _ _).mono (by omega), ((hBW.setCell (by simp) _).setCell (by simp) _).setCell (by simp) _⟩
  · go_simp
    have hL : ((w1.drew).alloc (.cells #[.int .u16 1, .int .u16 33, .int .u16 33, .int .u16 28, .int .u16 5, .int .u16 65535] 23)).cell? ⟨w1.heap.size, k, none⟩ = some (.int .u16 (kd0 : Int)) := by
      have := (Vx.new (w1.drew) 23 [.int .u16 1, .int .u16 33, .int .u16 33, .int .u16 28, .int .u16 5, .int .u16 65535]).cell k
      exact this.trans HG.out
    have hbL : Below w1.heap.size w1 ((w1.drew).alloc (.cells #[.int .u16 1, .int .u16 33, .int .u16 33, .int .u16 28, .int .u16 5, .int .u16 65535] 23)) := (Below.refl w1.heap.size w1).drew.alloc (Nat.le_refl _) _
    refine hK.out _ _ ⟨(V1.below hbL V1.lt).cell 0, (V1.below hbL V1.lt).cell 2⟩ (fun hH2 => ?_)
    clear hK
    refine reg_strong (S' := fun w' => (w'.cell? ⟨w.heap.size, 0, none⟩ = some (.slice A nm.length c) ∧ w'.cell? ⟨w.heap.size, 2, none⟩ = some (.int .u8 (ty : Int))) ∧ w'.cell? ⟨w1.heap.size, k, none⟩ = some (.int .u16 (kd0 : Int))) (fun _ h => h.1) _ _ _ _ ?_
    have hH3 := And.intro hH2 hL
    (try simp only [Act.put, List.setIfInBounds_toArray, List.set_cons_zero, List.set_cons_succ])
    refine reg_take 7 (v := ?_) rfl (by kernel_rfl) (fun _ _ _ h => h) (by rfl) hH3 ?_ ?_
    rotate_left
    · intro w hSw; (try dsimp only at hSw); go_simp; (try with_reducible rfl)
    (try simp only [Act.put, List.setIfInBounds_toArray, List.set_cons_zero, List.set_cons_succ])
    refine reg_take 8 (v := ?_) rfl (by kernel_rfl) (fun _ _ _ h => h) (by rfl) hH3 ?_ ?_
    rotate_left
    · intro w hSw; (try dsimp only at hSw); go_simp; (try with_reducible rfl)
    (try simp only [Act.put, List.setIfInBounds_toArray, List.set_cons_zero, List.set_cons_succ])
    refine wpAnyH_ready (rs := [2]) (by kernel_rfl) (by simp) ?_
    refine reg_cons _ rfl (fun K2 hK2 => ?_) AllReadyH.nil
    go_simp
    go_at_call 31
    refine (K.out _ hbL).mono ?_
    rw [← HMN.out]
    rintro e w3 ⟨v3, rfl, ho3, hb3⟩
    obtain ⟨A3, c3, rfl, hc3, hr3⟩ := ho3.form6 _ (sc_length _)
    have hb13 : Below w1.heap.size w1 w3 := hbL.trans (hb3.mono hbL.size)
    have hLc : w3.cell? ⟨w1.heap.size, k, none⟩ = some (.int .u16 (kd0 : Int)) := (hb3.cell (p := ⟨w1.heap.size, k, none⟩) (by simp)).trans hL
    clear hH3
    (try dsimp only)
    refine hK2.out _ _ ⟨⟨(V1.below hb13 V1.lt).cell 0, (V1.below hb13 V1.lt).cell 2⟩, hLc⟩ (fun hH3 => ?_)
    (try simp only [Act.put, List.setIfInBounds_toArray, List.set_cons_zero, List.set_cons_succ])
    clear hK2
    refine reg_take 14 (v := ?_) rfl (by kernel_rfl) (fun _ _ _ h => h) (by rfl) hH3 ?_ ?_
    rotate_left
    · intro w hSw; (try dsimp only at hSw); go_simp; (try with_reducible rfl)
    (try simp only [Act.put, List.setIfInBounds_toArray, List.set_cons_zero, List.set_cons_succ])
    have V9 := V2.below hb13 V2.lt
    obtain ⟨x0, x1, x2⟩ := V9.c3
    have f0 := V9.free 0
    have f1 := V9.free 1
    have f2 := V9.free 2
    have hOW := (ho3).mono (show w1.heap.size ≤ _ by first | exact Nat.le_refl _ | simp)
    have hBW := hb1.trans ((hb13).mono hb1.size)
    have hz : w.heap.size + 2 ≤ w1.heap.size := by have := HZ.out; omega
    have hs1 := hb13.size
    have hlt9 := V9.lt
    clear hH3
    refine wpAnyH_ready (rs := [15]) (by kernel_rfl) (by simp) ?_
    refine reg_cons _ rfl (fun K2 hK2 => ?_) AllReadyH.nil
    go_simp
    refine hK2.out _ _ ?_ (fun hH => ?_)
    · have q0 := (V1.below hb13 V1.lt)
      have q1 := ((q0.setO (g' := w.heap.size + 1) (by omega) 0 (.slice A3 mn.length c3)).setO (g' := w.heap.size + 1) (by omega) 1 (.int .u16 (kd0 : Int))).setO (g' := w.heap.size + 1) (by omega) 2 (.int .u16 (1 + (cl : Int)))
      exact ⟨⟨q1.cell 0, q1.cell 2⟩, by
        have hs2 : w1.drew.heap.size = w1.heap.size := rfl
        rw [World.cell?_setCell_other _ _ _ _ (by intro e; injection e with e1; omega), World.cell?_setCell_other _ _ _ _ (by intro e; injection e with e1; omega), World.cell?_setCell_other _ _ _ _ (by intro e; injection e with e1; omega)]
        assumption⟩
    clear hK2
    refine wpAnyH_done (by kernel_rfl) ?_ _
    go_wp2_with fail
    refine bodyPost_ret (resQ Try.results30 _ _ (w.heap.size + 1) _ _ rfl (set3_vx V9 rfl) rfl) rfl ?_
    exact ⟨A3, c3, rfl, (ow_setO (ow_setO (ow_setO hOW (by omega) _ _) (by omega) _ _) (by omega) _ _).mono (by omega), ((hBW.setCell (by simp) _).setCell (by simp) _).setCell (by simp) _⟩
open Go.RowKit
def Apt (u v : Value) : Prop := ∀ q, u.ownBlock = some q → v.ownBlock ≠ some q
theorem Apt.symm {u v : Value} (h : Apt u v) : Apt v u := fun q h1 h2 => h q h2 h1
theorem Apt.gr {w w' : World} {u v v' : Value} (h : Apt v u) (hg : Gr w w' v v') (hu : ∀ q, u.ownBlock = some q → q < w.heap.size) : Apt v' u := by
  intro q h1 h2
  rcases hg.2 q h1 with h3 | h3
  · exact h q h3 h2
  · have := hu q h2; omega
def updF {α : Type} (f : Nat → α) (i : Nat) (a : α) : Nat → α := fun j => if j = i then a else f j
@[simp] theorem updF_same {α : Type} (f : Nat → α) (i : Nat) (a : α) : updF f i a i = a := by simp [updF]
theorem updF_ne {α : Type} (f : Nat → α) {i j : Nat} (a : α) (h : j ≠ i) : updF f i a j = f j := by simp [updF, h]
/-- four rows, apart from each other and from finished slices -/
structure Fam (w : World) (base : Nat) (R : Nat → Ob) (D : Ob → Prop) : Prop where
  ok : ∀ i, i < 4 → (R i).ok w base
  dn : ∀ o, D o → o.ok w base
  ap : ∀ i j, i < 4 → j < 4 → i ≠ j → Apt (R i).v (R j).v
  ne : ∀ i, i < 4 → ∀ o, D o → Apt (R i).v o.v
section
variable {w w' : World} {base : Nat} {R R2 : Nat → Ob} {D D2 : Ob → Prop}
theorem Fam.only {g : Nat} (h : Fam w base R D) (hO : Only w w' g) (hg : g < base) : Fam w' base R D := ⟨fun i hi => (h.ok i hi).only hO hg, fun o ho => (h.dn o ho).only hO hg, h.ap, h.ne⟩
theorem Fam.far (h : Fam w base R D) (hb : Below w.heap.size w w') : Fam w' base R D := ⟨fun i hi => (h.ok i hi).far hb, fun o ho => (h.dn o ho).far hb, h.ap, h.ne⟩
theorem Fam.add (h : Fam w base R D) (o : Ob) (hb : Below w.heap.size w w') (ho : o.ok w' w.heap.size) (hB : base ≤ w.heap.size) : Fam w' base R (fun x => x = o ∨ D x) :=
  ⟨fun i hi => (h.ok i hi).far hb, fun x hx => hx.elim (fun e => e ▸ OwM.mono ho hB) (fun hx => (h.dn x hx).far hb), h.ap,
    fun i hi x hx => hx.elim (fun e => e ▸ fun q h1 h2 => by
      have h3 := OwM.block_lt (h.ok i hi) q h1
      have h4 := OwM.lt ho q h2
      omega) (h.ne i hi x)⟩
theorem Fam.app (h : Fam w base R D) (i : Nat) (hi : i < 4) (o : Ob) (hg : Gr w w' (R i).v o.v) (ho : o.ok w' base) : Fam w' base (updF R i o) D := by
  refine ⟨fun j hj => ?_, fun x hx => OwM.kept (h.dn x hx) hg ((h.ne i hi x hx).symm), fun j k hj hk hjk => ?_, fun j hj x hx => ?_⟩
  · by_cases e : j = i
    · subst e; rw [updF_same]; exact ho
    · rw [updF_ne _ _ e]; exact OwM.kept (h.ok j hj) hg (h.ap j i hj hi e)
  · by_cases e : j = i
    · subst e
      rw [updF_same, updF_ne _ _ (Ne.symm hjk)]
      exact (h.ap j k hj hk hjk).gr hg (OwM.block_lt (h.ok k hk))
    · by_cases e2 : k = i
      · subst e2
        rw [updF_same, updF_ne _ _ hjk]
        exact ((h.ap k j hk hj (Ne.symm hjk)).gr hg (OwM.block_lt (h.ok j hj))).symm
      · rw [updF_ne _ _ e, updF_ne _ _ e2]; exact h.ap j k hj hk hjk
  · by_cases e : j = i
    · subst e; rw [updF_same]; exact (h.ne j hj x hx).gr hg (OwM.block_lt (h.dn x hx))
    · rw [updF_ne _ _ e]; exact h.ne j hj x hx
theorem Fam.mono (h : Fam w base R D) (hR : ∀ i, i < 4 → R2 i = R i) (hs : ∀ o, D2 o → D o) : Fam w base R2 D2 :=
  ⟨fun i hi => by rw [hR i hi]; exact h.ok i hi, fun o ho => h.dn o (hs o ho), fun i j hi hj hij => by rw [hR i hi, hR j hj]; exact h.ap i j hi hj hij, fun i hi o ho => by rw [hR i hi]; exact h.ne i hi o (hs o ho)⟩
end
theorem nmO_of {w : World} {base : Nat} {A : Option Addr} {c : Nat} {n : List (List UInt8)} (h : Ow w base 9 (.slice A n.length c) (sc n)) : (nmO A c n).ok w base := h
theorem daO_of {w : World} {base : Nat} {A : Option Addr} {c : Nat} {n : List UInt8} (h : Ow w base 5 (.slice A n.length c) (bc n)) : (daO A c n).ok w base := h
theorem smR_33 {s : Sm} (h : kindOf s.ty = 33) : smR s = ⟨⟨madeN s.nm, 33, 1 + s.ty / 128⟩, s.ttl, [], s.n0, s.n1, s.n2, madeN s.tg⟩ := by
  unfold smR smQ
  rw [if_pos h, h]
theorem smR_no {s : Sm} (h : kindOf s.ty ≠ 33) : smR s = ⟨⟨madeN s.nm, kindOf s.ty, 1 + s.ty / 128⟩, s.ttl, s.d.take 40, 0, 0, 0, []⟩ := by
  unfold smR smQ
  rw [if_neg h]
/-- the rows of a message: records 0 to 2, and the questions -/
def rowF (Aq : Option Addr) (cq : Nat) (lq : List QR) (rs : Nat → RW) : Nat → Ob := fun i => if i = 3 then rwQ Aq cq lq else rwR (rs i).A (rs i).c (rs i).l
def DD (lq : List QR) (rs : Nat → RW) : Ob → Prop := fun o => DQ lq o ∨ ∃ i, i < 3 ∧ DR (rs i).l o
def nilR : Nat → RW := fun _ => ⟨none, 0, []⟩
theorem fam_nil (w : World) (base : Nat) : Fam w base (rowF none 0 [] nilR) (DD [] nilR) := by
  refine ⟨fun i _ => ?_, fun o ho => ?_, fun i j _ _ _ q hq => ?_, fun i _ o ho q hq => ?_⟩
  · unfold rowF; split <;> exact OwM.nil _ _ _ _
  · rcases ho with ⟨x, hx, _⟩ | ⟨i, _, x, hx, _⟩ <;> cases hx
  · unfold rowF at hq; split at hq <;> simp [rwQ, rwR, nilR, Value.ownBlock] at hq
  · unfold rowF at hq; split at hq <;> simp [rwQ, rwR, nilR, Value.ownBlock] at hq
def mrow (id fl : Nat) (Aq : Option Addr) (cq : Nat) (lq : List QR) (rs : Nat → RW) : List Value := [.int .u16 (id : Int), .int .u16 (fl : Int), .slice Aq lq.length cq, (rs 0).v, (rs 1).v, (rs 2).v]
theorem mrow_get (id fl : Nat) (Aq : Option Addr) (cq : Nat) (lq : List QR) (rs : Nat → RW) (i : Nat) (hi : i < 3) : (mrow id fl Aq cq lq rs)[3 + i]? = some (.slice (rs i).A (rs i).l.length (rs i).c) := by
  rcases (show i = 0 ∨ i = 1 ∨ i = 2 by omega) with rfl | rfl | rfl <;> rfl
theorem mrow_set (id fl : Nat) (Aq : Option Addr) (cq : Nat) (lq : List QR) (rs : Nat → RW) (i : Nat) (hi : i < 3) (r : RW) : (mrow id fl Aq cq lq rs).set (3 + i) r.v = mrow id fl Aq cq lq (updF rs i r) := by
  rcases (show i = 0 ∨ i = 1 ∨ i = 2 by omega) with rfl | rfl | rfl <;> simp [mrow, updF]
def msOf (id fl : Nat) (q : List Qn) (f : Nat → List Rc) : Ms := ⟨id, fl, q, f 0, f 1, f 2⟩
theorem add_q (id fl : Nat) (q : List Qn) (f : Nat → List Rc) (s : Sm) (h : s.sec % 4 = 3) : addS (msOf id fl q f) s = msOf id fl (q ++ [smQ s]) f := by simp [addS, h, msOf]
theorem add_r (id fl : Nat) (q : List Qn) (f : Nat → List Rc) (s : Sm) (i : Nat) (h : s.sec % 4 = i) (hi : i < 3) : addS (msOf id fl q f) s = msOf id fl q (updF f i (f i ++ [smR s])) := by
  rcases (show i = 0 ∨ i = 1 ∨ i = 2 by omega) with rfl | rfl | rfl <;> simp [addS, h, msOf, updF]
/-- the message that is being made -/
structure MSt (w0 w : World) (R M id fl : Nat) (k : Nat) (m : Ms) (Aq : Option Addr) (cq : Nat) (lq : List QR) (rs : Nat → RW) : Prop where
  bl : Below w0.heap.size w0 w
  vr : Vx w R 28 zM6
  vm : Vx w M 28 (mrow id fl Aq cq lq rs)
  eq : m = msOf id fl (lq.map QR.q) (fun i => (rs i).l.map RR.r)
  fam : Fam w (M + 1) (rowF Aq cq lq rs) (DD lq rs)
  lq : lq.length ≤ k
  lr : ∀ i, (rs i).l.length ≤ k
  lo : w0.heap.size ≤ R ∧ R < M ∧ M < w.heap.size
section
variable {w0 w w' : World} {R M id fl k : Nat} {m : Ms} {Aq : Option Addr} {cq : Nat} {lq : List QR} {rs : Nat → RW}
theorem MSt.far (h : MSt w0 w R M id fl k m Aq cq lq rs) (hb : Below w.heap.size w w') : MSt w0 w' R M id fl k m Aq cq lq rs :=
  ⟨h.bl.trans (hb.mono h.bl.size), h.vr.below hb h.vr.lt, h.vm.below hb h.vm.lt, h.eq, h.fam.far hb, h.lq, h.lr, h.lo.1, h.lo.2.1, Nat.lt_of_lt_of_le h.lo.2.2 hb.size⟩
theorem MSt.mow (h : MSt w0 w R M id fl k m Aq cq lq rs) (hO : Only w w' R) : MOw w' w0.heap.size ⟨id, fl, Aq, cq, lq, (rs 0).A, (rs 0).c, (rs 0).l, (rs 1).A, (rs 1).c, (rs 1).l, (rs 2).A, (rs 2).c, (rs 2).l⟩ := by
  have hB : w0.heap.size ≤ M + 1 := by have := h.lo; omega
  have hf := h.fam.only hO (by have := h.lo; omega)
  have ok : ∀ o, DD lq rs o → o.ok w' w0.heap.size := fun o ho => OwM.mono (hf.dn o ho) hB
  exact ⟨OwM.mono (hf.ok 3 (by omega)) hB, OwM.mono (hf.ok 0 (by omega)) hB, OwM.mono (hf.ok 1 (by omega)) hB, OwM.mono (hf.ok 2 (by omega)) hB, fun o ho => ok o (Or.inl ho), fun o ho => ok o (Or.inr ⟨0, by omega, ho⟩), fun o ho => ok o (Or.inr ⟨1, by omega, ho⟩), fun o ho => ok o (Or.inr ⟨2, by omega, ho⟩)⟩
theorem MSt.okQ (h : MSt w0 w R M id fl k m Aq cq lq rs) : OwM w (M + 1) 38 3 (.slice Aq lq.length cq) lq.length (qcs lq) := h.fam.ok 3 (by omega)
theorem MSt.okR (h : MSt w0 w R M id fl k m Aq cq lq rs) (i : Nat) (hi : i < 3) : OwM w (M + 1) 41 9 (.slice (rs i).A (rs i).l.length (rs i).c) (rs i).l.length (rcs (rs i).l) := by
  have := h.fam.ok i (by omega)
  unfold rowF at this
  rw [if_neg (by omega)] at this
  exact this
theorem MSt.cellR (h : MSt w0 w R M id fl k m Aq cq lq rs) (i : Nat) (hi : i < 3) : w.cell? ⟨M, 3 + i, none⟩ = some (.slice (rs i).A (rs i).l.length (rs i).c) := by
  rw [h.vm.cell]; exact mrow_get _ _ _ _ _ _ i hi
/-- a question more -/
theorem MSt.addQ (h : MSt w0 w R M id fl k m Aq cq lq rs) {w1 w2 : World} {s : Sm} (hs : s.sec % 4 = 3) {A1 : Option Addr} {c1 : Nat} (hb : Below w.heap.size w w1) (ho : Ow w1 w.heap.size 9 (.slice A1 (smQ s).nm.length c1) (sc (smQ s).nm))
    {A2 : Option Addr} {c2 : Nat} (hg : Gr w1 w2 (.slice Aq lq.length cq) (.slice A2 (lq.length + 1) c2)) (hO : OwM w2 (M + 1) 38 3 (.slice A2 (lq.length + 1) c2) (lq.length + 1) (qcs lq ++ (QR.cells ⟨A1, c1, smQ s⟩))) :
    MSt w0 (w2.setCell ⟨M, 2, none⟩ (.slice A2 (lq.length + 1) c2)) R M id fl (k + 1) (addS m s) A2 c2 (lq ++ [⟨A1, c1, smQ s⟩]) rs := by
  have hlo := h.lo
  have h1 := h.far hb
  have hv : ∀ g, (Value.slice Aq lq.length cq).ownBlock = some g → M + 1 ≤ g := OwM.lt (h.fam.ok 3 (by omega))
  have hbl2 : Below (M + 1) w1 w2 := hg.below hv h1.lo.2.2
  have hF := (h.fam.add (nmO A1 c1 (smQ s).nm) hb (by
    unfold Ob.ok nmO OwM
    have := ho
    unfold Ow at this
    simpa using this) hlo.2.2).app 3 (by omega) (rwQ A2 c2 (lq ++ [⟨A1, c1, smQ s⟩])) (by
      show Gr w1 w2 (.slice Aq lq.length cq) (.slice A2 (lq ++ [(⟨A1, c1, smQ s⟩ : QR)]).length c2)
      rw [List.length_append]; exact hg) (by
      unfold Ob.ok rwQ
      simp only
      rw [List.length_append, qcs_snoc]
      exact hO)
  refine ⟨?_, ?_, ?_, ?_, ?_, by simp; exact h.lq, fun i => Nat.le_succ_of_le (h.lr i), hlo.1, hlo.2.1, ?_⟩
  · exact (h1.bl.trans (hbl2.mono (by omega))).setCell (by show w0.heap.size ≤ M; omega) _
  · exact (h1.vr.below hbl2 (by omega)).setO (by omega) _ _
  · have := (h1.vm.below hbl2 (by omega)).set_ 2 (.slice A2 (lq.length + 1) c2)
    unfold mrow at this ⊢
    rw [List.length_append]
    exact this
  · rw [h.eq, add_q _ _ _ _ _ hs]; simp
  · refine (hF.only (Only.set_ _ M _ _) (by omega)).mono (fun i hi => ?_) (fun o ho => ?_)
    · by_cases e : i = 3 <;> simp [rowF, updF, e]
    · rcases ho with ⟨x, hx, e⟩ | ho
      · rcases List.mem_append.1 hx with hx | hx
        · exact Or.inr (Or.inl ⟨x, hx, e⟩)
        · rw [List.mem_singleton.1 hx] at e; exact Or.inl e
      · exact Or.inr (Or.inr ho)
  · show M < (w2.setCell _ _).heap.size
    have := hg.1.size
    have := h1.lo.2.2
    simp; omega
/-- a record more -/
theorem MSt.addR (h : MSt w0 w R M id fl k m Aq cq lq rs) {w1 w2 : World} {s : Sm} {i : Nat} (hs : s.sec % 4 = i) (hi : i < 3) (x : RR) (hx : x.r = smR s) (hb : Below w.heap.size w w1) (ho1 : (nmO x.A x.c x.r.q.nm).ok w1 w.heap.size) (ho2 : (daO x.dA x.dc x.r.d).ok w1 w.heap.size) (ho3 : (nmO x.tA x.tc x.r.tg).ok w1 w.heap.size)
    {A2 : Option Addr} {c2 : Nat} (hg : Gr w1 w2 (.slice (rs i).A (rs i).l.length (rs i).c) (.slice A2 ((rs i).l.length + 1) c2)) (hO : OwM w2 (M + 1) 41 9 (.slice A2 ((rs i).l.length + 1) c2) ((rs i).l.length + 1) (rcs (rs i).l ++ x.cells)) :
    MSt w0 (w2.setCell ⟨M, 3 + i, none⟩ (.slice A2 ((rs i).l.length + 1) c2)) R M id fl (k + 1) (addS m s) Aq cq lq (updF rs i ⟨A2, c2, (rs i).l ++ [x]⟩) := by
  have hlo := h.lo
  have h1 := h.far hb
  have hri : ∀ j, j < 3 → rowF Aq cq lq rs j = rwR (rs j).A (rs j).c (rs j).l := fun j hj => by unfold rowF; rw [if_neg (by omega)]
  have hv : ∀ g, (Value.slice (rs i).A (rs i).l.length (rs i).c).ownBlock = some g → M + 1 ≤ g := by
    have := OwM.lt (h.fam.ok i (by omega))
    rw [hri i hi] at this
    exact this
  have hbl2 : Below (M + 1) w1 w2 := hg.below hv h1.lo.2.2
  have ad : ∀ (o : Ob) (D : Ob → Prop), o.ok w1 w.heap.size → Fam w1 (M + 1) (rowF Aq cq lq rs) D → (∀ j, j < 4 → ∀ q, (rowF Aq cq lq rs j).v.ownBlock = some q → q < w.heap.size) → Fam w1 (M + 1) (rowF Aq cq lq rs) (fun x => x = o ∨ D x) := fun o D ho hF hq =>
    ⟨hF.ok, fun y hy => hy.elim (fun e => e ▸ OwM.mono ho hlo.2.2) (hF.dn y), hF.ap, fun j hj y hy => hy.elim (fun e => e ▸ fun q h1 h2 => by
      have h3 := hq j hj q h1
      have h4 := OwM.lt ho q h2
      omega) (hF.ne j hj y)⟩
  have hq : ∀ j, j < 4 → ∀ q, (rowF Aq cq lq rs j).v.ownBlock = some q → q < w.heap.size := fun j hj q hq => OwM.block_lt (h.fam.ok j hj) q hq
  have hF := ((ad _ _ ho1 (ad _ _ ho2 (ad _ _ ho3 (h.fam.far hb) hq) hq) hq).app i (by omega) (rwR A2 c2 ((rs i).l ++ [x])) (by
      rw [hri i hi]
      show Gr w1 w2 (.slice (rs i).A (rs i).l.length (rs i).c) (.slice A2 ((rs i).l ++ [x]).length c2)
      rw [List.length_append]; exact hg) (by
      unfold Ob.ok rwR
      simp only
      rw [List.length_append, rcs_snoc]
      exact hO))
  refine ⟨?_, ?_, ?_, ?_, ?_, Nat.le_succ_of_le h.lq, fun j => ?_, hlo.1, hlo.2.1, ?_⟩
  · exact (h1.bl.trans (hbl2.mono (by omega))).setCell (by show w0.heap.size ≤ M; omega) _
  · exact (h1.vr.below hbl2 (by omega)).setO (by omega) _ _
  · have := (h1.vm.below hbl2 (by omega)).set_ (3 + i) (.slice A2 ((rs i).l.length + 1) c2)
    have e := mrow_set id fl Aq cq lq rs i hi ⟨A2, c2, (rs i).l ++ [x]⟩
    unfold RW.v at e
    simp only [List.length_append, List.length_cons, List.length_nil, Nat.zero_add] at e
    rw [← e]
    exact this
  · rw [h.eq, add_r _ _ _ _ _ i hs hi]
    congr 1
    funext j
    by_cases e : j = i
    · subst e; simp [hx]
    · rw [updF_ne _ _ e, updF_ne _ _ e]
  · refine (hF.only (Only.set_ _ M _ _) (by omega)).mono (fun j hj => ?_) (fun o ho => ?_)
    · unfold rowF
      by_cases e : j = i
      · subst e; rw [updF_same, updF_same, if_neg (by omega)]
      · rw [updF_ne _ _ e, updF_ne _ _ e]
    · rcases ho with ho | ⟨j, hj, ho⟩
      · exact Or.inr (Or.inr (Or.inr (Or.inl ho)))
      · by_cases e : j = i
        · subst e
          rw [updF_same] at ho
          obtain ⟨y, hy, e⟩ := ho
          rcases List.mem_append.1 hy with hy | hy
          · exact Or.inr (Or.inr (Or.inr (Or.inr ⟨j, hj, y, hy, e⟩)))
          · rw [List.mem_singleton.1 hy] at e
            rcases e with e | e | e
            · exact Or.inl e
            · exact Or.inr (Or.inl e)
            · exact Or.inr (Or.inr (Or.inl e))
        · rw [updF_ne _ _ e] at ho
          exact Or.inr (Or.inr (Or.inr (Or.inr ⟨j, hj, ho⟩)))
  · by_cases e : j = i
    · subst e; rw [updF_same]; simp; exact h.lr j
    · rw [updF_ne _ _ e]; exact Nat.le_succ_of_le (h.lr j)
  · show M < (w2.setCell _ _).heap.size
    have := hg.1.size
    have := h1.lo.2.2
    simp; omega
end
open Go.RowKit
theorem run_slM_h {P : Program} (W : World) (t e : TypeId) (s : Nat) (ht : P.underlying t = some (.slice e)) (hz : ∀ w, (Go.sizeOf e).run P w = .ok s w) (A : Option Addr) (n cap : Nat) (h : Nat) (h2 : h ≤ cap) : (Instr.slice t (.slice A n cap) none (some (.int .i64 (h : Int))) none).run P W = .ok (.slice A h cap) W := by
  have ht' : P.underlying t = some (.slice (P.elem t)) := by simp [Program.elem, ht]
  have he : P.elem t = e := by simp [Program.elem, ht]
  rw [run_slice_h W t _ _ _ ht' .i64 _ (by omega) (by omega), he, hz]
  have := cutA_zero A cap
  unfold cutA at this
  simp [Result.andThen, sliced, this]
theorem szSm (w : World) : (Go.sizeOf 81).run Try.prog w = .ok 9 w := by kernel_rfl
def smcs (l : List SmR) : List Value := l.flatMap SmR.cells
theorem smcs_get (l : List SmR) (k j : Nat) (hk : k < l.length) (hj : j < 9) : (smcs l)[k * 9 + j]? = l[k].cells[j]? := flat_get SmR.cells 9 SmR.cells_length l k j hk hj
theorem resM1 {fn : Func} {q : Tmp} (h : fn.results = #[.cell q 28]) (tmps : Array Value) (W : World) (g : Nat) (e : TypeId) (cs : List Value) (hq : tmps[q]? = some (.pointer (some ⟨g, 0, none⟩))) (hx : Vx W g e cs) (hn : cs.length = 6) :
    (results fn tmps).run Try.prog W = .ok (.agg cs.toArray) W := by
  simp [results, h, hq, asAddr, hx.loadM hn]
set_option maxRecDepth 100000 in
set_option maxHeartbeats 8000000 in
theorem dmade_fam (id fl : Nat) (A : Option Addr) (c : Nat) (l : List SmR) (w : World) (h : Rd w w.heap.size A (l.length * 9) (smcs l)) (hc : l.length ≤ c) (hx : ∀ x ∈ l, SRd w w.heap.size x) :
    Calls Try.prog 12 #[.int .u16 (id : Int), .int .u16 (fl : Int), .slice A l.length c] w fun e w' => ∃ (M : Nat) (Aq : Option Addr) (cq : Nat) (lq : List QR) (rs : Nat → RW), msOf id fl (lq.map QR.q) (fun i => (rs i).l.map RR.r) = madeM id fl (l.map SmR.s) ∧ e = .returned (.agg (mrow id fl Aq cq lq rs).toArray) ∧ Fam w' (M + 1) (rowF Aq cq lq rs) (DD lq rs) ∧ w.heap.size ≤ M ∧ lq.length ≤ 10 ∧ (∀ i, (rs i).l.length ≤ 10) ∧ Below w.heap.size w w' := by
  obtain ⟨i0, hi, hz0, hz1, hz2⟩ := info_parts Try.infoQ
  obtain ⟨j0, hj', hy0, hy1, hy2⟩ := info_parts Try.infoR
  obtain ⟨K, hK⟩ : ∃ K, K = min l.length 10 := ⟨_, rfl⟩
  have hmin : min (l.length : Int) 10 = (K : Int) := by omega
  have hK1 : K ≤ l.length := by omega
  have hK2 : K ≤ 10 := by omega
  have hKt : (l.map SmR.s).take K = (l.map SmR.s).take 10 := by
    rcases Nat.lt_or_ge l.length 10 with h1 | h1
    · rw [List.take_of_length_le (by simp; omega), List.take_of_length_le (by simp; omega)]
    · rw [show K = 10 by omega]
  have HK := Lib.hid hKt
  have HX0 := Lib.hid hx
  have HR := Lib.hid h
  clear hKt hK hx h
  have ksl : ∀ W, (Instr.slice 45 (.slice A l.length c) none (some (.int .i64 (K : Int))) none).run Try.prog W = .ok (.slice A K c) W := fun W => run_slM_h W _ 81 9 Try.underlying45 szSm A l.length c K (by omega)
  have hV1 : Vx (w.alloc (.cells #[.int .u16 0, .int .u16 0, .slice none 0 0, .slice none 0 0, .slice none 0 0, .slice none 0 0] 28)) w.heap.size 28 zM6 := Vx.new w _ _
  go_enter Try.func12, Try.ntmps12
  go_wp2_with fail
  obtain ⟨M, hM⟩ : ∃ M, M = w.heap.size + 1 := ⟨_, rfl⟩
  have hS0 : MSt w ((w.alloc (.cells #[.int .u16 0, .int .u16 0, .slice none 0 0, .slice none 0 0, .slice none 0 0, .slice none 0 0] 28)).alloc (.cells #[.int .u16 (id : Int), .int .u16 (fl : Int), .slice none 0 0, .slice none 0 0, .slice none 0 0, .slice none 0 0] 28)) w.heap.size M id fl 0 (madeK id fl []) none 0 [] nilR := by
    refine ⟨(below_new w _).trans ((below_new (w.alloc _) _).mono (by simp)), hV1.alloc _, ?_, rfl, fam_nil _ _, Nat.le_refl _, fun _ => Nat.le_refl _, by omega, by omega, by simp; omega⟩
    have := Vx.new (w.alloc (.cells #[.int .u16 0, .int .u16 0, .slice none 0 0, .slice none 0 0, .slice none 0 0, .slice none 0 0] 28)) 28 (mrow id fl none 0 [] nilR)
    rw [World.size_alloc, ← hM] at this
    exact this
  try rw [← hM]
  have HS0 := Lib.hid hS0
  clear hS0 hM hV1
  go_loopw [21] (fun vi wr => ∃ (k : Nat) (Aq : Option Addr) (cq : Nat) (lq : List QR) (rs : Nat → RW), k ≤ K ∧ vi = .int .i64 k ∧ Hid (MSt w wr w.heap.size M id fl k (madeK id fl ((l.map SmR.s).take k)) Aq cq lq rs)) (fun vi _ => K - (intOf vi).toNat)
  case atStart => exact ⟨0, none, 0, [], nilR, Nat.zero_le _, rfl, HS0⟩
  case round =>
    clear HS0
    obtain ⟨k, Aq, cq, lq, rs, hk, rfl, HX⟩ := hrel
    by_cases hlt : k < K
    · have hkl : k < l.length := by omega
      have hft := madeK_take id fl (l.map SmR.s) k (by simpa using hkl)
      rw [List.getElem_map] at hft
      have hSR := (HX0.out _ (List.getElem_mem hkl)).below HX.out.bl
      obtain ⟨bA, oA, hAe, hbA, hcx⟩ := (HR.out.below HX.out.bl).2 (by omega)
      subst hAe
      have hcell : ∀ j u, l[k].cells[j]? = some u → wr.cell? ⟨bA, oA + k * 9 + j, none⟩ = some u := fun j u hu => by
        have hj : j < 9 := by
          rcases Nat.lt_or_ge j 9 with h1 | h1
          · exact h1
          · rw [List.getElem?_eq_none (by simpa using h1)] at hu; cases hu
        rw [Nat.add_assoc]
        exact hcx _ u ((smcs_get l k j hkl hj).trans hu)
      clear hcx
      generalize l[k] = x at hft hSR hcell
      obtain ⟨xA, xc, tA, tc, dA, dc, ⟨nm, tg, ty, sec, n0, n1, n2, ttl, d⟩⟩ := x
      have e0 := hcell 0 _ rfl
      have e1 := hcell 1 _ rfl
      have e2 := hcell 2 _ rfl
      have e3 := hcell 3 _ rfl
      have e4 := hcell 4 _ rfl
      have e5 := hcell 5 _ rfl
      have e6 := hcell 6 _ rfl
      have e7 := hcell 7 _ rfl
      have e8 := hcell 8 _ rfl
      simp only [Nat.add_zero] at e0 e1 e2 e3 e4 e5 e6 e7 e8
      obtain ⟨s, hs⟩ : ∃ s, s = (⟨nm, tg, ty, sec, n0, n1, n2, ttl, d⟩ : Sm) := ⟨_, rfl⟩
      simp only at hft
      rw [← hs] at hft
      have HSR := Lib.hid (hSR.more HX.out.bl.size)
      have HF := Lib.hid hft
      have HS := Lib.hid hs
      obtain ⟨kd, hkd⟩ : ∃ kd, kd = kindOf ty := ⟨_, rfl⟩
      have HKD := Lib.hid hkd
      obtain ⟨cl, hcl⟩ : ∃ cl, cl = 1 + ty / 128 := ⟨_, rfl⟩
      have HCL := Lib.hid hcl
      clear hcell hSR hft hs hkd hcl
      go_upto_region 6 with (first
        | (go_at_call 30
           refine (smq_at ⟨xA, xc, tA, tc, dA, dc, ⟨nm, tg, ty, sec, n0, n1, n2, ttl, d⟩⟩ _ ((HSR.out.below (below_new wr _)).more (below_new wr _).size)).mono ?_
           rintro e w2 ⟨A1, c1, rfl, ho1, hb1⟩
           unfold QR.cells smQ
           dsimp only
           rw [← HKD.out, ← HCL.out]))
      obtain ⟨g9, hg9⟩ : ∃ g, g = wr.heap.size := ⟨_, rfl⟩
      obtain ⟨g10, hg10⟩ : ∃ g, g = w2.heap.size := ⟨_, rfl⟩
      have V9 : Vx (w2.alloc (.cells #[.slice A1 (madeN nm).length c1, .int .u16 (kd : Int), .int .u16 (cl : Int)] 38)) g9 81 [.slice xA nm.length xc, .slice tA tg.length tc, .int .u8 (ty : Int), .int .u8 (sec : Int), .int .u16 (n0 : Int), .int .u16 (n1 : Int), .int .u16 (n2 : Int), .int .u32 (ttl : Int), .slice dA d.length dc] := by
        rw [hg9]; exact ((Vx.new wr 81 [.slice xA nm.length xc, .slice tA tg.length tc, .int .u8 (ty : Int), .int .u8 (sec : Int), .int .u16 (n0 : Int), .int .u16 (n1 : Int), .int .u16 (n2 : Int), .int .u32 (ttl : Int), .slice dA d.length dc]).below hb1 (Vx.new wr 81 [.slice xA nm.length xc, .slice tA tg.length tc, .int .u8 (ty : Int), .int .u8 (sec : Int), .int .u16 (n0 : Int), .int .u16 (n1 : Int), .int .u16 (n2 : Int), .int .u32 (ttl : Int), .slice dA d.length dc]).lt).alloc _
      have V10 : Vx (w2.alloc (.cells #[.slice A1 (madeN nm).length c1, .int .u16 (kd : Int), .int .u16 (cl : Int)] 38)) g10 38 [.slice A1 (madeN nm).length c1, .int .u16 (kd : Int), .int .u16 (cl : Int)] := by rw [hg10]; exact Vx.new w2 _ _
      have hb3 : Below wr.heap.size wr (w2.alloc (.cells #[.slice A1 (madeN nm).length c1, .int .u16 (kd : Int), .int .u16 (cl : Int)] 38)) := ((below_new wr _).trans (hb1.mono (below_new wr _).size)).alloc (by have := hb1.size; simp at this; omega) _
      have ho3 : Ow (w2.alloc (.cells #[.slice A1 (madeN nm).length c1, .int .u16 (kd : Int), .int .u16 (cl : Int)] 38)) wr.heap.size 9 (.slice A1 (madeN nm).length c1) (sc (madeN nm)) := (ho1.alloc _).mono (by simp)
      have hg910 : g9 < g10 := by have := hb1.size; simp at this; omega
      try rw [← hg9]
      try rw [← hg10]
      generalize (w2.alloc (.cells #[.slice A1 (madeN nm).length c1, .int .u16 (kd : Int), .int .u16 (cl : Int)] 38)) = w3 at *
      have hX3 := HX.out.far hb3
      have HS3 := Lib.hid ((HSR.out.below hb3).more hb3.size)
      have hM9 : M < g9 := by have := HX.out.lo; omega
      have hg9w : wr.heap.size ≤ g9 := by omega
      obtain ⟨i, hi'⟩ : ∃ i, i = sec % 4 := ⟨_, rfl⟩
      have hi4 : i < 4 := by omega
      have ki1 : (sec : Int) % 4 = (i : Int) := by omega
      have ki2 : (sec : Int).tmod 4 = (i : Int) := by rw [Int.tmod_eq_emod_of_nonneg (by omega)]; exact ki1
      have ki3 : sec % 4 = i := hi'.symm
      have HI := Lib.hid ki3
      obtain ⟨z0, z1, z2⟩ := V10.c3
      obtain ⟨y0, y1, y2, y3, y4, y5, y6, y7, y8⟩ := V9.c9
      have HX3 := Lib.hid hX3
      have HO3 := Lib.hid ho3
      have HB3 := Lib.hid hb3
      obtain ⟨m0, m1, m2, _, _, _⟩ := hX3.vm.c6
      have hMlt := hX3.lo.2.2
      clear hX3 ho3 hb3 hg9 hg10 hb1 ho1 hi' e0 e1 e2 e3 e4 e5 e6 e7 e8
      have hl10 := V10.lt
      have hl9 := V9.lt
      by_cases hi3 : i = 3
      · subst hi3
        go_wp2_with (first
          | (at_builtin; refine wpList_appM _ rfl _ _ _ _ rfl (M + 1) 3 38 i0 _ 32 Try.underlying24 hi hz0 hz1 hz2 rfl (by omega) (.slice Aq lq.length cq) lq.length (qcs lq) (OwM.alloc (HX3.out.fam.ok 3 (by omega)) _) rfl 1 (QR.cells ⟨A1, c1, smQ s⟩) (by rw [HS.out]; unfold smQ; dsimp only; rw [← HKD.out, ← HCL.out]; exact litM_src Try.underlying24 _ 3 _ 1 rfl (qcells_one ⟨A1, c1, ⟨madeN nm, kd, cl⟩⟩)) (by have := HX3.out.lq; omega) (by simp; omega) ?_
             intro v4 w4 hown4 hgr4 hsz4
             obtain ⟨A4, c4, rfl, hc4, _, _⟩ := hown4.form
             have hbl4 : Below (M + 1) w3 w4 := (below_new w3 _).mono (by omega) |>.trans (hgr4.below (OwM.lt (HX3.out.fam.ok 3 (by omega))) (by simp; omega))
             have V4 := HX3.out.vm.below hbl4 (by omega)
             obtain ⟨_, _, r2, _, _, _⟩ := V4.c6
             have f2 := V4.free 2))
        go_roundw
        case rel =>
          refine ⟨k + 1, A4, c4, lq ++ [⟨A1, c1, smQ s⟩], rs, by omega, by go_num, Lib.hid ?_⟩
          rw [HF.out]
          exact HX.out.addQ (s := s) (by rw [HS.out]; exact HI.out) (HB3.out.alloc HB3.out.size _) (by rw [HS.out]; exact HO3.out.alloc _) hgr4 hown4
        case measure => simp [intOf]; omega
      · have hi3' : i < 3 := by omega
        have hiI : (i : Int) < 3 := by omega
        have hi0 : (0 : Int) ≤ (i : Int) := by omega
        have hine : ((i : Int) == 3) = false := by simp; omega
        clear hi3
        by_cases hk33 : kd = 33
        · subst hk33
          go_upto_region 10 with fail
          obtain ⟨g11, hg11⟩ : ∃ g, g = w3.heap.size := ⟨_, rfl⟩
          have hne1 : ∀ q, (Value.slice A1 (madeN nm).length c1).ownBlock = some q → q ≠ g11 := fun q hq => by have := ow_block_lt HO3.out q hq; omega
          have V11 : Vx (w3.alloc (.cells #[.slice A1 (madeN nm).length c1, .int .u16 33, .int .u16 (cl : Int), .int .u32 (ttl : Int), .slice none 0 0, .int .u16 0, .int .u16 0, .int .u16 0, .slice none 0 0] 41)) g11 41 [.slice A1 (madeN nm).length c1, .int .u16 33, .int .u16 (cl : Int), .int .u32 (ttl : Int), .slice none 0 0, .int .u16 0, .int .u16 0, .int .u16 0, .slice none 0 0] := by rw [hg11]; exact Vx.new w3 _ _
          have V9 := V9.alloc (.cells #[.slice A1 (madeN nm).length c1, .int .u16 33, .int .u16 (cl : Int), .int .u32 (ttl : Int), .slice none 0 0, .int .u16 0, .int .u16 0, .int .u16 0, .slice none 0 0] 41)
          have hb4 := HB3.out.alloc HB3.out.size (.cells #[.slice A1 (madeN nm).length c1, .int .u16 33, .int .u16 (cl : Int), .int .u32 (ttl : Int), .slice none 0 0, .int .u16 0, .int .u16 0, .int .u16 0, .slice none 0 0] 41)
          have ho4 := HO3.out.alloc (.cells #[.slice A1 (madeN nm).length c1, .int .u16 33, .int .u16 (cl : Int), .int .u32 (ttl : Int), .slice none 0 0, .int .u16 0, .int .u16 0, .int .u16 0, .slice none 0 0] 41)
          have hg911 : g9 < g11 := by have := V10.lt; omega
          try rw [← hg11]
          generalize w3.alloc (.cells #[.slice A1 (madeN nm).length c1, .int .u16 33, .int .u16 (cl : Int), .int .u32 (ttl : Int), .slice none 0 0, .int .u16 0, .int .u16 0, .int .u16 0, .slice none 0 0] 41) = w4 at *
          clear y0 y1 y2 y3 y4 y5 y6 y7 y8 z0 z1 z2 m0 m1 m2 hg11
          refine wp_region_held_drew (S := fun w' => w'.cell? ⟨g9, 4, none⟩ = some (.int .u16 (n0 : Int)) ∧ w'.cell? ⟨g9, 5, none⟩ = some (.int .u16 (n1 : Int)) ∧ w'.cell? ⟨g9, 6, none⟩ = some (.int .u16 (n2 : Int)) ∧ w'.cell? ⟨g9, 1, none⟩ = some (.slice tA tg.length tc)) (by kernel_rfl) ⟨V9.cell 4, V9.cell 5, V9.cell 6, V9.cell 1⟩ (fun hH => ?_)
          refine reg_take 0 (v := ?_) rfl (by kernel_rfl) (fun _ _ _ h => h) (by rfl) hH ?_ ?_
          rotate_left
          · intro w hSw; (try dsimp only at hSw); go_simp; (try with_reducible rfl)
          (try simp only [Act.put, List.setIfInBounds_toArray, List.set_cons_zero, List.set_cons_succ])
          refine reg_take 1 (v := ?_) rfl (by kernel_rfl) (fun _ _ _ h => h) (by rfl) hH ?_ ?_
          rotate_left
          · intro w hSw; (try dsimp only at hSw); go_simp; (try with_reducible rfl)
          (try simp only [Act.put, List.setIfInBounds_toArray, List.set_cons_zero, List.set_cons_succ])
          refine reg_take 2 (v := ?_) rfl (by kernel_rfl) (fun _ _ _ h => h) (by rfl) hH ?_ ?_
          rotate_left
          · intro w hSw; (try dsimp only at hSw); go_simp; (try with_reducible rfl)
          (try simp only [Act.put, List.setIfInBounds_toArray, List.set_cons_zero, List.set_cons_succ])
          refine reg_take 3 (v := ?_) rfl (by kernel_rfl) (fun _ _ _ h => h) (by rfl) hH ?_ ?_
          rotate_left
          · intro w hSw; (try dsimp only at hSw); go_simp; (try with_reducible rfl)
          (try simp only [Act.put, List.setIfInBounds_toArray, List.set_cons_zero, List.set_cons_succ])
          refine reg_take 4 (v := ?_) rfl (by kernel_rfl) (fun _ _ _ h => h) (by rfl) hH ?_ ?_
          rotate_left
          · intro w hSw; (try dsimp only at hSw); go_simp; (try with_reducible rfl)
          (try simp only [Act.put, List.setIfInBounds_toArray, List.set_cons_zero, List.set_cons_succ])
          refine reg_take 5 (v := ?_) rfl (by kernel_rfl) (fun _ _ _ h => h) (by rfl) hH ?_ ?_
          rotate_left
          · intro w hSw; (try dsimp only at hSw); go_simp; (try with_reducible rfl)
          (try simp only [Act.put, List.setIfInBounds_toArray, List.set_cons_zero, List.set_cons_succ])
          refine reg_take 6 (v := ?_) rfl (by kernel_rfl) (fun _ _ _ h => h) (by rfl) hH ?_ ?_
          rotate_left
          · intro w hSw; (try dsimp only at hSw); go_simp; (try with_reducible rfl)
          (try simp only [Act.put, List.setIfInBounds_toArray, List.set_cons_zero, List.set_cons_succ])
          refine reg_take 7 (v := ?_) rfl (by kernel_rfl) (fun _ _ _ h => h) (by rfl) hH ?_ ?_
          rotate_left
          · intro w hSw; (try dsimp only at hSw); go_simp; (try with_reducible rfl)
          (try simp only [Act.put, List.setIfInBounds_toArray, List.set_cons_zero, List.set_cons_succ])
          refine reg_take 8 (v := ?_) rfl (by kernel_rfl) (fun _ _ _ h => h) (by rfl) hH ?_ ?_
          rotate_left
          · intro w hSw; (try dsimp only at hSw); go_simp; (try with_reducible rfl)
          (try simp only [Act.put, List.setIfInBounds_toArray, List.set_cons_zero, List.set_cons_succ])
          refine reg_take 9 (v := ?_) rfl (by kernel_rfl) (fun _ _ _ h => h) (by rfl) hH ?_ ?_
          rotate_left
          · intro w hSw; (try dsimp only at hSw); go_simp; (try with_reducible rfl)
          (try simp only [Act.put, List.setIfInBounds_toArray, List.set_cons_zero, List.set_cons_succ])
          refine reg_take 10 (v := ?_) rfl (by kernel_rfl) (fun _ _ _ h => h) (by rfl) hH ?_ ?_
          rotate_left
          · intro w hSw; (try dsimp only at hSw); go_simp; (try with_reducible rfl)
          (try simp only [Act.put, List.setIfInBounds_toArray, List.set_cons_zero, List.set_cons_succ])
          refine reg_take 12 (v := ?_) rfl (by kernel_rfl) (fun _ _ _ h => h) (by rfl) hH ?_ ?_
          rotate_left
          · intro w hSw; (try dsimp only at hSw); go_simp; (try with_reducible rfl)
          (try simp only [Act.put, List.setIfInBounds_toArray, List.set_cons_zero, List.set_cons_succ])
          refine wpAnyH_ready (rs := [11]) (by kernel_rfl) (by simp) ?_
          refine reg_cons _ rfl (fun K1 hK1 => ?_) AllReadyH.nil
          go_simp
          go_at_call 31
          refine (made_any tA tc tg _ ((HSR.out.2.1.1.below hb4.drew).more hb4.drew.size) HSR.out.2.1.2.1 HSR.out.2.1.2.2.1 HSR.out.2.1.2.2.2).mono ?_
          rintro e w5 ⟨v5, rfl, ho5, hb5⟩
          obtain ⟨A5, c5, rfl, hc5, hr5⟩ := ho5.form6 _ (sc_length _)
          have hb45 : Below w4.heap.size w4 w5 := (Below.refl w4.heap.size w4).drew.trans hb5
          have W9 := V9.below hb45 V9.lt
          have W11 := V11.below hb45 V11.lt
          have hb4w := hb4.size
          clear hH
          (try dsimp only)
          refine hK1.out _ _ ⟨W9.cell 4, W9.cell 5, W9.cell 6, W9.cell 1⟩ (fun hH => ?_)
          (try simp only [Act.put, List.setIfInBounds_toArray, List.set_cons_zero, List.set_cons_succ])
          clear hK1
          refine wpAnyH_ready (rs := [13]) (by kernel_rfl) (by simp) ?_
          refine reg_cons _ rfl (fun K1 hK1 => ?_) AllReadyH.nil
          have a5 := W11.cell 5
          have b5 := W11.free 5
          simp only [List.set_cons_zero, List.set_cons_succ, List.getElem?_cons_succ, List.getElem?_cons_zero] at a5
          go_simp
          clear a5 b5 hH
          have W9 := W9.setO (g' := g11) (by omega) 5 (.int .u16 (n0 : Int))
          have W11 := W11.set_ 5 (.int .u16 (n0 : Int))
          (try dsimp only)
          refine hK1.out _ _ ⟨W9.cell 4, W9.cell 5, W9.cell 6, W9.cell 1⟩ (fun hH => ?_)
          (try simp only [Act.put, List.setIfInBounds_toArray, List.set_cons_zero, List.set_cons_succ])
          clear hK1
          refine reg_take 14 (v := ?_) rfl (by kernel_rfl) (fun _ _ _ h => h) (by rfl) hH ?_ ?_
          rotate_left
          · intro w hSw; (try dsimp only at hSw); go_simp; (try with_reducible rfl)
          (try simp only [Act.put, List.setIfInBounds_toArray, List.set_cons_zero, List.set_cons_succ])
          refine wpAnyH_ready (rs := [15]) (by kernel_rfl) (by simp) ?_
          refine reg_cons _ rfl (fun K1 hK1 => ?_) AllReadyH.nil
          have a5 := W11.cell 6
          have b5 := W11.free 6
          simp only [List.set_cons_zero, List.set_cons_succ, List.getElem?_cons_succ, List.getElem?_cons_zero] at a5
          go_simp
          clear a5 b5 hH
          have W9 := W9.setO (g' := g11) (by omega) 6 (.int .u16 (n1 : Int))
          have W11 := W11.set_ 6 (.int .u16 (n1 : Int))
          (try dsimp only)
          refine hK1.out _ _ ⟨W9.cell 4, W9.cell 5, W9.cell 6, W9.cell 1⟩ (fun hH => ?_)
          (try simp only [Act.put, List.setIfInBounds_toArray, List.set_cons_zero, List.set_cons_succ])
          clear hK1
          refine reg_take 16 (v := ?_) rfl (by kernel_rfl) (fun _ _ _ h => h) (by rfl) hH ?_ ?_
          rotate_left
          · intro w hSw; (try dsimp only at hSw); go_simp; (try with_reducible rfl)
          (try simp only [Act.put, List.setIfInBounds_toArray, List.set_cons_zero, List.set_cons_succ])
          refine wpAnyH_ready (rs := [17]) (by kernel_rfl) (by simp) ?_
          refine reg_cons _ rfl (fun K1 hK1 => ?_) AllReadyH.nil
          have a5 := W11.cell 7
          have b5 := W11.free 7
          simp only [List.set_cons_zero, List.set_cons_succ, List.getElem?_cons_succ, List.getElem?_cons_zero] at a5
          go_simp
          clear a5 b5 hH
          have W9 := W9.setO (g' := g11) (by omega) 7 (.int .u16 (n2 : Int))
          have W11 := W11.set_ 7 (.int .u16 (n2 : Int))
          (try dsimp only)
          refine hK1.out _ _ ⟨W9.cell 4, W9.cell 5, W9.cell 6, W9.cell 1⟩ (fun hH => ?_)
          (try simp only [Act.put, List.setIfInBounds_toArray, List.set_cons_zero, List.set_cons_succ])
          clear hK1
          refine reg_take 18 (v := ?_) rfl (by kernel_rfl) (fun _ _ _ h => h) (by rfl) hH ?_ ?_
          rotate_left
          · intro w hSw; (try dsimp only at hSw); go_simp; (try with_reducible rfl)
          (try simp only [Act.put, List.setIfInBounds_toArray, List.set_cons_zero, List.set_cons_succ])
          refine wpAnyH_ready (rs := [19]) (by kernel_rfl) (by simp) ?_
          refine reg_cons _ rfl (fun K1 hK1 => ?_) AllReadyH.nil
          have a5 := W11.cell 8
          have b5 := W11.free 8
          simp only [List.set_cons_zero, List.set_cons_succ, List.getElem?_cons_succ, List.getElem?_cons_zero] at a5
          go_simp
          clear a5 b5 hH
          have W9 := W9.setO (g' := g11) (by omega) 8 (.slice A5 (madeN tg).length c5)
          have W11 := W11.set_ 8 (.slice A5 (madeN tg).length c5)
          (try dsimp only)
          refine hK1.out _ _ ⟨W9.cell 4, W9.cell 5, W9.cell 6, W9.cell 1⟩ (fun hH => ?_)
          (try simp only [Act.put, List.setIfInBounds_toArray, List.set_cons_zero, List.set_cons_succ])
          clear hK1
          simp only [List.set_cons_zero, List.set_cons_succ] at W11
          refine wpAnyH_done (by kernel_rfl) ?_ _
          have hO9 : Only w5 ((((w5.setCell ⟨g11, 5, none⟩ (.int .u16 (n0 : Int))).setCell ⟨g11, 6, none⟩ (.int .u16 (n1 : Int))).setCell ⟨g11, 7, none⟩ (.int .u16 (n2 : Int))).setCell ⟨g11, 8, none⟩ (.slice A5 (madeN tg).length c5)) g11 := (((Only.set_ _ g11 _ _).trans (Only.set_ _ g11 _ _)).trans (Only.set_ _ g11 _ _)).trans (Only.set_ _ g11 _ _)
          have hb6 : Below wr.heap.size wr ((((w5.setCell ⟨g11, 5, none⟩ (.int .u16 (n0 : Int))).setCell ⟨g11, 6, none⟩ (.int .u16 (n1 : Int))).setCell ⟨g11, 7, none⟩ (.int .u16 (n2 : Int))).setCell ⟨g11, 8, none⟩ (.slice A5 (madeN tg).length c5)) := (hb4.trans (hb45.mono hb4.size)).trans (hO9.below (by omega) (by have := hb45.size; omega))
          have hna9 : M + 1 ≤ g9 → g9 < wr.heap.size → False := fun _ h => by omega
          have hna11 : M + 1 ≤ g11 → g11 < wr.heap.size → False := fun _ h => by omega
          have hq6 : Ow ((((w5.setCell ⟨g11, 5, none⟩ (.int .u16 (n0 : Int))).setCell ⟨g11, 6, none⟩ (.int .u16 (n1 : Int))).setCell ⟨g11, 7, none⟩ (.int .u16 (n2 : Int))).setCell ⟨g11, 8, none⟩ (.slice A5 (madeN tg).length c5)) wr.heap.size 9 (.slice A1 (madeN nm).length c1) (sc (madeN nm)) := (((((ho4.drew.far hb5).setNe g11 _ _ hne1).setNe g11 _ _ hne1).setNe g11 _ _ hne1).setNe g11 _ _ hne1)
          have ht6 : Ow ((((w5.setCell ⟨g11, 5, none⟩ (.int .u16 (n0 : Int))).setCell ⟨g11, 6, none⟩ (.int .u16 (n1 : Int))).setCell ⟨g11, 7, none⟩ (.int .u16 (n2 : Int))).setCell ⟨g11, 8, none⟩ (.slice A5 (madeN tg).length c5)) wr.heap.size 9 (.slice A5 (madeN tg).length c5) (sc (madeN tg)) := (ow_setO (ow_setO (ow_setO (ow_setO ho5 (g := g11) (by exact V11.lt) _ _) (g := g11) (by exact V11.lt) _ _) (g := g11) (by exact V11.lt) _ _) (g := g11) (by exact V11.lt) _ _).mono (by show wr.heap.size ≤ w4.heap.size; omega)
          have hi9 : wr.heap.size ≤ g11 := by omega
          generalize ((((w5.setCell ⟨g11, 5, none⟩ (.int .u16 (n0 : Int))).setCell ⟨g11, 6, none⟩ (.int .u16 (n1 : Int))).setCell ⟨g11, 7, none⟩ (.int .u16 (n2 : Int))).setCell ⟨g11, 8, none⟩ (.slice A5 (madeN tg).length c5)) = w6 at *
          go_upto_region 12 with fail
          refine wp_region_held_drew (S := fun w' => w'.cell? ⟨g9, 3, none⟩ = some (.int .u8 (sec : Int)) ∧ w'.cell? ⟨g11, 0, none⟩ = some (Value.slice A1 (madeN nm).length c1) ∧ w'.cell? ⟨g11, 1, none⟩ = some (.int .u16 33) ∧ w'.cell? ⟨g11, 2, none⟩ = some (.int .u16 (cl : Int)) ∧ w'.cell? ⟨g11, 3, none⟩ = some (.int .u32 (ttl : Int)) ∧ w'.cell? ⟨g11, 4, none⟩ = some (.slice none 0 0) ∧ w'.cell? ⟨g11, 5, none⟩ = some (.int .u16 (n0 : Int)) ∧ w'.cell? ⟨g11, 6, none⟩ = some (.int .u16 (n1 : Int)) ∧ w'.cell? ⟨g11, 7, none⟩ = some (.int .u16 (n2 : Int)) ∧ w'.cell? ⟨g11, 8, none⟩ = some (.slice A5 (madeN tg).length c5)) (by kernel_rfl) ⟨(W9).cell 3, (W11).cell 0, (W11).cell 1, (W11).cell 2, (W11).cell 3, (W11).cell 4, (W11).cell 5, (W11).cell 6, (W11).cell 7, (W11).cell 8⟩ (fun hH => ?_)
          refine reg_take 0 (v := ?_) rfl (by kernel_rfl) (fun _ _ _ h => h) (by rfl) hH ?_ ?_
          rotate_left
          · intro w hSw; (try dsimp only at hSw); go_simp; (try with_reducible rfl)
          (try simp only [Act.put, List.setIfInBounds_toArray, List.set_cons_zero, List.set_cons_succ])
          refine reg_take 1 (v := ?_) rfl (by kernel_rfl) (fun _ _ _ h => h) (by rfl) hH ?_ ?_
          rotate_left
          · intro w hSw; (try dsimp only at hSw); go_simp; (try with_reducible rfl)
          (try simp only [Act.put, List.setIfInBounds_toArray, List.set_cons_zero, List.set_cons_succ])
          refine reg_take 2 (v := ?_) rfl (by kernel_rfl) (fun _ _ _ h => h) (by rfl) hH ?_ ?_
          rotate_left
          · intro w hSw; (try dsimp only at hSw); go_simp; (try with_reducible rfl)
          (try simp only [Act.put, List.setIfInBounds_toArray, List.set_cons_zero, List.set_cons_succ])
          refine reg_take 3 (v := ?_) rfl (by kernel_rfl) (fun _ _ _ h => h) (by rfl) hH ?_ ?_
          rotate_left
          · intro w hSw; (try dsimp only at hSw); go_simp; (try with_reducible rfl)
          (try simp only [Act.put, List.setIfInBounds_toArray, List.set_cons_zero, List.set_cons_succ])
          refine reg_take 4 (v := ?_) rfl (by kernel_rfl) (fun _ _ _ h => h) (by rfl) hH ?_ ?_
          rotate_left
          · intro w hSw; (try dsimp only at hSw); go_simp; (try with_reducible rfl)
          (try simp only [Act.put, List.setIfInBounds_toArray, List.set_cons_zero, List.set_cons_succ])
          refine reg_take 5 (v := ?_) rfl (by kernel_rfl) (fun _ _ _ h => h) (by rfl) hH ?_ ?_
          rotate_left
          · intro w hSw; (try dsimp only at hSw); go_simp; (try with_reducible rfl)
          (try simp only [Act.put, List.setIfInBounds_toArray, List.set_cons_zero, List.set_cons_succ])
          refine reg_take 6 (v := ?_) rfl (by kernel_rfl) (fun _ _ _ h => h) (by rfl) hH ?_ ?_
          rotate_left
          · intro w hSw; (try dsimp only at hSw); go_simp; (try with_reducible rfl)
          (try simp only [Act.put, List.setIfInBounds_toArray, List.set_cons_zero, List.set_cons_succ])
          refine reg_take 7 (v := ?_) rfl (by kernel_rfl) (fun _ _ _ h => h) (by rfl) hH ?_ ?_
          rotate_left
          · intro w hSw; (try dsimp only at hSw); go_simp; (try with_reducible rfl)
          (try simp only [Act.put, List.setIfInBounds_toArray, List.set_cons_zero, List.set_cons_succ])
          refine reg_take 9 (v := ?_) rfl (by kernel_rfl) (fun _ _ _ h => h) (by rfl) hH ?_ ?_
          rotate_left
          · intro w hSw; (try dsimp only at hSw); go_simp; (try with_reducible rfl)
          (try simp only [Act.put, List.setIfInBounds_toArray, List.set_cons_zero, List.set_cons_succ])
          refine reg_take 12 (v := ?_) rfl (by kernel_rfl) (fun _ _ _ h => h) (by rfl) hH ?_ ?_
          rotate_left
          · intro w hSw; (try dsimp only at hSw); go_simp; (try with_reducible rfl)
          (try simp only [Act.put, List.setIfInBounds_toArray, List.set_cons_zero, List.set_cons_succ])
          have hX6 := HX.out.far hb6
          have hM6 : M < w6.heap.size := hX6.lo.2.2
          have c8 : w6.cell? ⟨M, 3 + i, none⟩ = some (.slice (rs i).A (rs i).l.length (rs i).c) := hX6.cellR i hi3'
          have hLb : Below w6.heap.size w6 (w6.alloc (.cells #[Value.slice A1 (madeN nm).length c1, .int .u16 33, .int .u16 (cl : Int), .int .u32 (ttl : Int), .slice none 0 0, .int .u16 (n0 : Int), .int .u16 (n1 : Int), .int .u16 (n2 : Int), .slice A5 (madeN tg).length c5] 41)) := below_new w6 _
          have hX7 := hX6.far hLb
          have c9 : (w6.alloc (.cells #[Value.slice A1 (madeN nm).length c1, .int .u16 33, .int .u16 (cl : Int), .int .u32 (ttl : Int), .slice none 0 0, .int .u16 (n0 : Int), .int .u16 (n1 : Int), .int .u16 (n2 : Int), .slice A5 (madeN tg).length c5] 41)).cell? ⟨M, 3 + i, none⟩ = some (.slice (rs i).A (rs i).l.length (rs i).c) := hX7.cellR i hi3'
          refine wpAnyH_ready (rs := [8, 10]) (by kernel_rfl) (by simp) ?_
          refine reg_cons _ rfl (fun K1 hK1 => ?_) (reg_cons _ rfl (fun K1 hK1 => ?_) AllReadyH.nil)
          · go_simp
            refine hK1.out _ _ ⟨(W9).cell 3, (W11).cell 0, (W11).cell 1, (W11).cell 2, (W11).cell 3, (W11).cell 4, (W11).cell 5, (W11).cell 6, (W11).cell 7, (W11).cell 8⟩ (fun hH => ?_)
            (try simp only [Act.put, List.setIfInBounds_toArray, List.set_cons_zero, List.set_cons_succ])
            clear hK1
            refine wpAnyH_ready (rs := [10]) (by kernel_rfl) (by simp) ?_
            refine reg_cons _ rfl (fun K1 hK1 => ?_) AllReadyH.nil
            go_simp
            refine hK1.out _ _ ⟨(W9.alloc _).cell 3, (W11.alloc _).cell 0, (W11.alloc _).cell 1, (W11.alloc _).cell 2, (W11.alloc _).cell 3, (W11.alloc _).cell 4, (W11.alloc _).cell 5, (W11.alloc _).cell 6, (W11.alloc _).cell 7, (W11.alloc _).cell 8⟩ (fun hH => ?_)
            (try simp only [Act.put, List.setIfInBounds_toArray, List.set_cons_zero, List.set_cons_succ])
            clear hK1
            refine wpAnyH_ready (rs := [11]) (by kernel_rfl) (by simp) ?_
            refine reg_cons _ rfl (fun K1 hK1 => ?_) AllReadyH.nil
            refine step_appM rfl _ _ _ _ rfl (M + 1) 9 41 j0 _ 96 Try.underlying25 hj' hy0 hy1 hy2 rfl (by omega) (.slice (rs i).A (rs i).l.length (rs i).c) (rs i).l.length (rcs (rs i).l) (hX7.okR i hi3').drew rfl (.slice (some ⟨w6.heap.size, 0, none⟩) 1 1) rfl 1 (RR.cells ⟨A1, c1, none, 0, A5, c5, ⟨⟨madeN nm, 33, cl⟩, ttl, [], n0, n1, n2, madeN tg⟩⟩) (litM_src (w := w6.drew) Try.underlying25 41 9 (RR.cells ⟨A1, c1, none, 0, A5, c5, ⟨⟨madeN nm, 33, cl⟩, ttl, [], n0, n1, n2, madeN tg⟩⟩) 1 rfl (rcells_one _)) (by have := hX7.lr i; omega) (by simp; omega) ?_
            intro v7 w7 hown7 hgr7 hsz7
            obtain ⟨A7, c7, rfl, hc7, _, _⟩ := hown7.form
            have hbl7 : Below (M + 1) (w6.alloc (.cells #[Value.slice A1 (madeN nm).length c1, .int .u16 33, .int .u16 (cl : Int), .int .u32 (ttl : Int), .slice none 0 0, .int .u16 (n0 : Int), .int .u16 (n1 : Int), .int .u16 (n2 : Int), .slice A5 (madeN tg).length c5] 41)).drew w7 := hgr7.below (OwM.lt (hX7.okR i hi3')) (by simp; omega)
            have X9 := (W9.alloc (.cells #[Value.slice A1 (madeN nm).length c1, .int .u16 33, .int .u16 (cl : Int), .int .u32 (ttl : Int), .slice none 0 0, .int .u16 (n0 : Int), .int .u16 (n1 : Int), .int .u16 (n2 : Int), .slice A5 (madeN tg).length c5] 41)).drew
            have X11 := (W11.alloc (.cells #[Value.slice A1 (madeN nm).length c1, .int .u16 33, .int .u16 (cl : Int), .int .u32 (ttl : Int), .slice none 0 0, .int .u16 (n0 : Int), .int .u16 (n1 : Int), .int .u16 (n2 : Int), .slice A5 (madeN tg).length c5] 41)).drew
            have Y9 : Vx w7 g9 81 [.slice xA nm.length xc, .slice tA tg.length tc, .int .u8 (ty : Int), .int .u8 (sec : Int), .int .u16 (n0 : Int), .int .u16 (n1 : Int), .int .u16 (n2 : Int), .int .u32 (ttl : Int), .slice dA d.length dc] := X9.grown hgr7.1 (fun e => hna9 ((OwM.lt (HX.out.okR i hi3')) _ e.symm) ((OwM.block_lt (HX.out.okR i hi3')) _ e.symm))
            have Y11 : Vx w7 g11 41 [Value.slice A1 (madeN nm).length c1, .int .u16 33, .int .u16 (cl : Int), .int .u32 (ttl : Int), .slice none 0 0, .int .u16 (n0 : Int), .int .u16 (n1 : Int), .int .u16 (n2 : Int), .slice A5 (madeN tg).length c5] := X11.grown hgr7.1 (fun e => hna11 ((OwM.lt (HX.out.okR i hi3')) _ e.symm) ((OwM.block_lt (HX.out.okR i hi3')) _ e.symm))
            clear hH
            refine hK1.out _ _ ⟨(Y9).cell 3, (Y11).cell 0, (Y11).cell 1, (Y11).cell 2, (Y11).cell 3, (Y11).cell 4, (Y11).cell 5, (Y11).cell 6, (Y11).cell 7, (Y11).cell 8⟩ (fun hH => ?_)
            (try simp only [Act.put, List.setIfInBounds_toArray, List.set_cons_zero, List.set_cons_succ])
            clear hK1
            refine reg_take 13 (v := ?_) rfl (by kernel_rfl) (fun _ _ _ h => h) (by rfl) hH ?_ ?_
            rotate_left
            · intro w hSw; (try dsimp only at hSw); go_simp; (try with_reducible rfl)
            (try simp only [Act.put, List.setIfInBounds_toArray, List.set_cons_zero, List.set_cons_succ])
            refine wpAnyH_ready (rs := [14]) (by kernel_rfl) (by simp) ?_
            refine reg_cons _ rfl (fun K1 hK1 => ?_) AllReadyH.nil
            have VM := (hX7.vm.drew).below hbl7 (by omega)
            have r3 : w7.cell? ⟨M, 3 + i, none⟩ = some (.slice (rs i).A (rs i).l.length (rs i).c) := by
              rw [VM.cell]; exact mrow_get _ _ _ _ _ _ i hi3'
            have f3 := VM.free (3 + i)
            go_simp
            refine hK1.out _ _ ⟨(Y9.setO (g' := M) (by omega) (3 + i) (.slice A7 ((rs i).l.length + 1) c7)).cell 3, (Y11.setO (g' := M) (by omega) (3 + i) (.slice A7 ((rs i).l.length + 1) c7)).cell 0, (Y11.setO (g' := M) (by omega) (3 + i) (.slice A7 ((rs i).l.length + 1) c7)).cell 1, (Y11.setO (g' := M) (by omega) (3 + i) (.slice A7 ((rs i).l.length + 1) c7)).cell 2, (Y11.setO (g' := M) (by omega) (3 + i) (.slice A7 ((rs i).l.length + 1) c7)).cell 3, (Y11.setO (g' := M) (by omega) (3 + i) (.slice A7 ((rs i).l.length + 1) c7)).cell 4, (Y11.setO (g' := M) (by omega) (3 + i) (.slice A7 ((rs i).l.length + 1) c7)).cell 5, (Y11.setO (g' := M) (by omega) (3 + i) (.slice A7 ((rs i).l.length + 1) c7)).cell 6, (Y11.setO (g' := M) (by omega) (3 + i) (.slice A7 ((rs i).l.length + 1) c7)).cell 7, (Y11.setO (g' := M) (by omega) (3 + i) (.slice A7 ((rs i).l.length + 1) c7)).cell 8⟩ (fun hH => ?_)
            clear hK1
            refine wpAnyH_done (by kernel_rfl) ?_ _
            clear hH r3 f3 c8 c9
            go_wp2_with fail
            go_roundw
            case rel =>
              refine ⟨k + 1, Aq, cq, lq, updF rs i ⟨A7, c7, (rs i).l ++ [⟨A1, c1, none, 0, A5, c5, ⟨⟨madeN nm, 33, cl⟩, ttl, [], n0, n1, n2, madeN tg⟩⟩]⟩, by omega, by go_num, Lib.hid ?_⟩
              rw [HF.out]
              exact HX.out.addR (s := s) (by rw [HS.out]; exact HI.out) hi3' ⟨A1, c1, none, 0, A5, c5, ⟨⟨madeN nm, 33, cl⟩, ttl, [], n0, n1, n2, madeN tg⟩⟩ (by rw [HS.out, HCL.out]; exact (smR_33 (s := ⟨nm, tg, ty, sec, n0, n1, n2, ttl, d⟩) HKD.out.symm).symm) ((hb6.trans (hLb.mono hb6.size)).drew) (nmO_of ((hq6.alloc _).drew)) (OwM.nil _ _ _ _) (nmO_of ((ht6.alloc _).drew)) hgr7 hown7
            case measure => simp [intOf]; omega
          · go_simp
            refine hK1.out _ _ ⟨(W9.alloc _).cell 3, (W11.alloc _).cell 0, (W11.alloc _).cell 1, (W11.alloc _).cell 2, (W11.alloc _).cell 3, (W11.alloc _).cell 4, (W11.alloc _).cell 5, (W11.alloc _).cell 6, (W11.alloc _).cell 7, (W11.alloc _).cell 8⟩ (fun hH => ?_)
            (try simp only [Act.put, List.setIfInBounds_toArray, List.set_cons_zero, List.set_cons_succ])
            clear hK1
            refine wpAnyH_ready (rs := [8]) (by kernel_rfl) (by simp) ?_
            refine reg_cons _ rfl (fun K1 hK1 => ?_) AllReadyH.nil
            go_simp
            refine hK1.out _ _ ⟨(W9.alloc _).cell 3, (W11.alloc _).cell 0, (W11.alloc _).cell 1, (W11.alloc _).cell 2, (W11.alloc _).cell 3, (W11.alloc _).cell 4, (W11.alloc _).cell 5, (W11.alloc _).cell 6, (W11.alloc _).cell 7, (W11.alloc _).cell 8⟩ (fun hH => ?_)
            (try simp only [Act.put, List.setIfInBounds_toArray, List.set_cons_zero, List.set_cons_succ])
            clear hK1
            refine wpAnyH_ready (rs := [11]) (by kernel_rfl) (by simp) ?_
            refine reg_cons _ rfl (fun K1 hK1 => ?_) AllReadyH.nil
            refine step_appM rfl _ _ _ _ rfl (M + 1) 9 41 j0 _ 96 Try.underlying25 hj' hy0 hy1 hy2 rfl (by omega) (.slice (rs i).A (rs i).l.length (rs i).c) (rs i).l.length (rcs (rs i).l) (hX7.okR i hi3').drew rfl (.slice (some ⟨w6.heap.size, 0, none⟩) 1 1) rfl 1 (RR.cells ⟨A1, c1, none, 0, A5, c5, ⟨⟨madeN nm, 33, cl⟩, ttl, [], n0, n1, n2, madeN tg⟩⟩) (litM_src (w := w6.drew) Try.underlying25 41 9 (RR.cells ⟨A1, c1, none, 0, A5, c5, ⟨⟨madeN nm, 33, cl⟩, ttl, [], n0, n1, n2, madeN tg⟩⟩) 1 rfl (rcells_one _)) (by have := hX7.lr i; omega) (by simp; omega) ?_
            intro v7 w7 hown7 hgr7 hsz7
            obtain ⟨A7, c7, rfl, hc7, _, _⟩ := hown7.form
            have hbl7 : Below (M + 1) (w6.alloc (.cells #[Value.slice A1 (madeN nm).length c1, .int .u16 33, .int .u16 (cl : Int), .int .u32 (ttl : Int), .slice none 0 0, .int .u16 (n0 : Int), .int .u16 (n1 : Int), .int .u16 (n2 : Int), .slice A5 (madeN tg).length c5] 41)).drew w7 := hgr7.below (OwM.lt (hX7.okR i hi3')) (by simp; omega)
            have X9 := (W9.alloc (.cells #[Value.slice A1 (madeN nm).length c1, .int .u16 33, .int .u16 (cl : Int), .int .u32 (ttl : Int), .slice none 0 0, .int .u16 (n0 : Int), .int .u16 (n1 : Int), .int .u16 (n2 : Int), .slice A5 (madeN tg).length c5] 41)).drew
            have X11 := (W11.alloc (.cells #[Value.slice A1 (madeN nm).length c1, .int .u16 33, .int .u16 (cl : Int), .int .u32 (ttl : Int), .slice none 0 0, .int .u16 (n0 : Int), .int .u16 (n1 : Int), .int .u16 (n2 : Int), .slice A5 (madeN tg).length c5] 41)).drew
            have Y9 : Vx w7 g9 81 [.slice xA nm.length xc, .slice tA tg.length tc, .int .u8 (ty : Int), .int .u8 (sec : Int), .int .u16 (n0 : Int), .int .u16 (n1 : Int), .int .u16 (n2 : Int), .int .u32 (ttl : Int), .slice dA d.length dc] := X9.grown hgr7.1 (fun e => hna9 ((OwM.lt (HX.out.okR i hi3')) _ e.symm) ((OwM.block_lt (HX.out.okR i hi3')) _ e.symm))
            have Y11 : Vx w7 g11 41 [Value.slice A1 (madeN nm).length c1, .int .u16 33, .int .u16 (cl : Int), .int .u32 (ttl : Int), .slice none 0 0, .int .u16 (n0 : Int), .int .u16 (n1 : Int), .int .u16 (n2 : Int), .slice A5 (madeN tg).length c5] := X11.grown hgr7.1 (fun e => hna11 ((OwM.lt (HX.out.okR i hi3')) _ e.symm) ((OwM.block_lt (HX.out.okR i hi3')) _ e.symm))
            clear hH
            refine hK1.out _ _ ⟨(Y9).cell 3, (Y11).cell 0, (Y11).cell 1, (Y11).cell 2, (Y11).cell 3, (Y11).cell 4, (Y11).cell 5, (Y11).cell 6, (Y11).cell 7, (Y11).cell 8⟩ (fun hH => ?_)
            (try simp only [Act.put, List.setIfInBounds_toArray, List.set_cons_zero, List.set_cons_succ])
            clear hK1
            refine reg_take 13 (v := ?_) rfl (by kernel_rfl) (fun _ _ _ h => h) (by rfl) hH ?_ ?_
            rotate_left
            · intro w hSw; (try dsimp only at hSw); go_simp; (try with_reducible rfl)
            (try simp only [Act.put, List.setIfInBounds_toArray, List.set_cons_zero, List.set_cons_succ])
            refine wpAnyH_ready (rs := [14]) (by kernel_rfl) (by simp) ?_
            refine reg_cons _ rfl (fun K1 hK1 => ?_) AllReadyH.nil
            have VM := (hX7.vm.drew).below hbl7 (by omega)
            have r3 : w7.cell? ⟨M, 3 + i, none⟩ = some (.slice (rs i).A (rs i).l.length (rs i).c) := by
              rw [VM.cell]; exact mrow_get _ _ _ _ _ _ i hi3'
            have f3 := VM.free (3 + i)
            go_simp
            refine hK1.out _ _ ⟨(Y9.setO (g' := M) (by omega) (3 + i) (.slice A7 ((rs i).l.length + 1) c7)).cell 3, (Y11.setO (g' := M) (by omega) (3 + i) (.slice A7 ((rs i).l.length + 1) c7)).cell 0, (Y11.setO (g' := M) (by omega) (3 + i) (.slice A7 ((rs i).l.length + 1) c7)).cell 1, (Y11.setO (g' := M) (by omega) (3 + i) (.slice A7 ((rs i).l.length + 1) c7)).cell 2, (Y11.setO (g' := M) (by omega) (3 + i) (.slice A7 ((rs i).l.length + 1) c7)).cell 3, (Y11.setO (g' := M) (by omega) (3 + i) (.slice A7 ((rs i).l.length + 1) c7)).cell 4, (Y11.setO (g' := M) (by omega) (3 + i) (.slice A7 ((rs i).l.length + 1) c7)).cell 5, (Y11.setO (g' := M) (by omega) (3 + i) (.slice A7 ((rs i).l.length + 1) c7)).cell 6, (Y11.setO (g' := M) (by omega) (3 + i) (.slice A7 ((rs i).l.length + 1) c7)).cell 7, (Y11.setO (g' := M) (by omega) (3 + i) (.slice A7 ((rs i).l.length + 1) c7)).cell 8⟩ (fun hH => ?_)
            clear hK1
            refine wpAnyH_done (by kernel_rfl) ?_ _
            clear hH r3 f3 c8 c9
            go_wp2_with fail
            go_roundw
            case rel =>
              refine ⟨k + 1, Aq, cq, lq, updF rs i ⟨A7, c7, (rs i).l ++ [⟨A1, c1, none, 0, A5, c5, ⟨⟨madeN nm, 33, cl⟩, ttl, [], n0, n1, n2, madeN tg⟩⟩]⟩, by omega, by go_num, Lib.hid ?_⟩
              rw [HF.out]
              exact HX.out.addR (s := s) (by rw [HS.out]; exact HI.out) hi3' ⟨A1, c1, none, 0, A5, c5, ⟨⟨madeN nm, 33, cl⟩, ttl, [], n0, n1, n2, madeN tg⟩⟩ (by rw [HS.out, HCL.out]; exact (smR_33 (s := ⟨nm, tg, ty, sec, n0, n1, n2, ttl, d⟩) HKD.out.symm).symm) ((hb6.trans (hLb.mono hb6.size)).drew) (nmO_of ((hq6.alloc _).drew)) (OwM.nil _ _ _ _) (nmO_of ((ht6.alloc _).drew)) hgr7 hown7
            case measure => simp [intOf]; omega
        · have hkne : ((kd : Int) == 33) = false := by simp; omega
          obtain ⟨t, ht⟩ : ∃ t, t = d.take 40 := ⟨_, rfl⟩
          have htl : t.length = min d.length 40 := by rw [ht, List.length_take, Nat.min_comm]
          have hmin2 : min (d.length : Int) 40 = (t.length : Int) := by omega
          have htle : t.length ≤ d.length := by omega
          have hrt : Rd wr wr.heap.size dA t.length (bc t) := by
            have h0 := HSR.out.2.2.1.1
            refine ⟨by simp, fun hn => ?_⟩
            obtain ⟨bb, oo, e, hb, hcc⟩ := h0.2 (by simp only; omega)
            refine ⟨bb, oo, e, hb, fun j u hu => hcc j u ?_⟩
            unfold bc at hu ⊢
            rw [ht, List.map_take] at hu
            rw [List.getElem?_take] at hu
            split at hu
            · exact hu
            · cases hu
          have hdc : d.length ≤ dc := HSR.out.2.2.1.2.1
          have hd47 : d.length ≤ 140737488355328 := HSR.out.2.2.1.2.2
          have ksl2 : ∀ W, (Instr.slice 22 (.slice dA d.length dc) none (some (.int .i64 (t.length : Int))) none).run Try.prog W = .ok (.slice dA t.length dc) W := fun W => run_sl_h W _ 5 Try.underlying22 szByte dA d.length dc t.length (by omega)
          have HT := Lib.hid ht
          have HRT := Lib.hid hrt
          clear ht htl hrt
          obtain ⟨g11, hg11⟩ : ∃ g, g = w3.heap.size := ⟨_, rfl⟩
          have hne1 : ∀ q, (Value.slice A1 (madeN nm).length c1).ownBlock = some q → q ≠ g11 := fun q hq => by have := ow_block_lt HO3.out q hq; omega
          have hg911 : g9 < g11 := by have := V10.lt; omega
          have HG11 := Lib.hid hg11
          have V11 : Vx (w3.alloc (.cells #[Value.slice A1 (madeN nm).length c1, .int .u16 (kd : Int), .int .u16 (cl : Int), .int .u32 (ttl : Int), .slice none 0 0, .int .u16 0, .int .u16 0, .int .u16 0, .slice none 0 0] 41)) g11 41 [Value.slice A1 (madeN nm).length c1, .int .u16 (kd : Int), .int .u16 (cl : Int), .int .u32 (ttl : Int), .slice none 0 0, .int .u16 0, .int .u16 0, .int .u16 0, .slice none 0 0] := by rw [hg11]; exact Vx.new w3 _ _
          clear hg11
          go_upto_region 12 with (first
            | (go_at_call 7
               refine (bclone dA dc t _ _ (Nat.le_refl _) ((HRT.out.below (HB3.out.alloc HB3.out.size _)).more (HB3.out.alloc HB3.out.size _).size) (by omega)).mono ?_
               rintro e w5 ⟨v5, rfl, ho5, hb5⟩
               obtain ⟨B5, c5, rfl, hc5, hr5⟩ := ho5.form6 _ (bc_length _)
               have W11 := V11.below hb5 V11.lt
               have a4 : w5.cell? ⟨w3.heap.size, 4, none⟩ = some (.slice none 0 0) := by rw [← HG11.out]; exact W11.cell 4
               have b4 : w5.frozen? ⟨w3.heap.size, 4, none⟩ = false := by rw [← HG11.out]; exact W11.free 4))
          try rw [← HG11.out]
          have W9 := ((V9.alloc (.cells #[Value.slice A1 (madeN nm).length c1, .int .u16 (kd : Int), .int .u16 (cl : Int), .int .u32 (ttl : Int), .slice none 0 0, .int .u16 0, .int .u16 0, .int .u16 0, .slice none 0 0] 41)).below hb5 (V9.alloc _).lt).setO (g' := g11) (by omega) 4 (.slice B5 t.length c5)
          have W11 := W11.set_ 4 (.slice B5 t.length c5)
          simp only [List.set_cons_zero, List.set_cons_succ] at W11
          have hi9 : wr.heap.size ≤ g11 := by omega
          have hb5w : Below wr.heap.size wr w5 := (HB3.out.alloc HB3.out.size _).trans (hb5.mono (HB3.out.alloc HB3.out.size _).size)
          have hb6 : Below wr.heap.size wr (w5.setCell ⟨g11, 4, none⟩ (.slice B5 t.length c5)) := hb5w.setCell (by exact hi9) _
          have hq6 : Ow (w5.setCell ⟨g11, 4, none⟩ (.slice B5 t.length c5)) wr.heap.size 9 (.slice A1 (madeN nm).length c1) (sc (madeN nm)) := ((HO3.out.alloc _).far hb5).setNe g11 _ _ hne1
          have ht6 : Ow (w5.setCell ⟨g11, 4, none⟩ (.slice B5 t.length c5)) wr.heap.size 5 (.slice B5 t.length c5) (bc t) := (ow_setO ho5 (g := g11) (by have := HG11.out; simp; omega) _ _).mono (by have := HB3.out.size; simp; omega)
          clear a4 b4 V11 V9 y0 y1 y2 y3 y4 y5 y6 y7 y8 z0 z1 z2 m0 m1 m2 hb5 ho5 hr5 HG11 hb5w
          generalize (w5.setCell ⟨g11, 4, none⟩ (.slice B5 t.length c5)) = w6 at *
          have hna9 : M + 1 ≤ g9 → g9 < wr.heap.size → False := fun _ h => by omega
          have hna11 : M + 1 ≤ g11 → g11 < wr.heap.size → False := fun _ h => by omega
          refine wp_region_held_drew (S := fun w' => w'.cell? ⟨g9, 3, none⟩ = some (.int .u8 (sec : Int)) ∧ w'.cell? ⟨g11, 0, none⟩ = some (Value.slice A1 (madeN nm).length c1) ∧ w'.cell? ⟨g11, 1, none⟩ = some (.int .u16 (kd : Int)) ∧ w'.cell? ⟨g11, 2, none⟩ = some (.int .u16 (cl : Int)) ∧ w'.cell? ⟨g11, 3, none⟩ = some (.int .u32 (ttl : Int)) ∧ w'.cell? ⟨g11, 4, none⟩ = some (.slice B5 t.length c5) ∧ w'.cell? ⟨g11, 5, none⟩ = some (.int .u16 0) ∧ w'.cell? ⟨g11, 6, none⟩ = some (.int .u16 0) ∧ w'.cell? ⟨g11, 7, none⟩ = some (.int .u16 0) ∧ w'.cell? ⟨g11, 8, none⟩ = some (.slice none 0 0)) (by kernel_rfl) ⟨(W9).cell 3, (W11).cell 0, (W11).cell 1, (W11).cell 2, (W11).cell 3, (W11).cell 4, (W11).cell 5, (W11).cell 6, (W11).cell 7, (W11).cell 8⟩ (fun hH => ?_)
          refine reg_take 0 (v := ?_) rfl (by kernel_rfl) (fun _ _ _ h => h) (by rfl) hH ?_ ?_
          rotate_left
          · intro w hSw; (try dsimp only at hSw); go_simp; (try with_reducible rfl)
          (try simp only [Act.put, List.setIfInBounds_toArray, List.set_cons_zero, List.set_cons_succ])
          refine reg_take 1 (v := ?_) rfl (by kernel_rfl) (fun _ _ _ h => h) (by rfl) hH ?_ ?_
          rotate_left
          · intro w hSw; (try dsimp only at hSw); go_simp; (try with_reducible rfl)
          (try simp only [Act.put, List.setIfInBounds_toArray, List.set_cons_zero, List.set_cons_succ])
          refine reg_take 2 (v := ?_) rfl (by kernel_rfl) (fun _ _ _ h => h) (by rfl) hH ?_ ?_
          rotate_left
          · intro w hSw; (try dsimp only at hSw); go_simp; (try with_reducible rfl)
          (try simp only [Act.put, List.setIfInBounds_toArray, List.set_cons_zero, List.set_cons_succ])
          refine reg_take 3 (v := ?_) rfl (by kernel_rfl) (fun _ _ _ h => h) (by rfl) hH ?_ ?_
          rotate_left
          · intro w hSw; (try dsimp only at hSw); go_simp; (try with_reducible rfl)
          (try simp only [Act.put, List.setIfInBounds_toArray, List.set_cons_zero, List.set_cons_succ])
          refine reg_take 4 (v := ?_) rfl (by kernel_rfl) (fun _ _ _ h => h) (by rfl) hH ?_ ?_
          rotate_left
          · intro w hSw; (try dsimp only at hSw); go_simp; (try with_reducible rfl)
          (try simp only [Act.put, List.setIfInBounds_toArray, List.set_cons_zero, List.set_cons_succ])
          refine reg_take 5 (v := ?_) rfl (by kernel_rfl) (fun _ _ _ h => h) (by rfl) hH ?_ ?_
          rotate_left
          · intro w hSw; (try dsimp only at hSw); go_simp; (try with_reducible rfl)
          (try simp only [Act.put, List.setIfInBounds_toArray, List.set_cons_zero, List.set_cons_succ])
          refine reg_take 6 (v := ?_) rfl (by kernel_rfl) (fun _ _ _ h => h) (by rfl) hH ?_ ?_
          rotate_left
          · intro w hSw; (try dsimp only at hSw); go_simp; (try with_reducible rfl)
          (try simp only [Act.put, List.setIfInBounds_toArray, List.set_cons_zero, List.set_cons_succ])
          refine reg_take 7 (v := ?_) rfl (by kernel_rfl) (fun _ _ _ h => h) (by rfl) hH ?_ ?_
          rotate_left
          · intro w hSw; (try dsimp only at hSw); go_simp; (try with_reducible rfl)
          (try simp only [Act.put, List.setIfInBounds_toArray, List.set_cons_zero, List.set_cons_succ])
          refine reg_take 9 (v := ?_) rfl (by kernel_rfl) (fun _ _ _ h => h) (by rfl) hH ?_ ?_
          rotate_left
          · intro w hSw; (try dsimp only at hSw); go_simp; (try with_reducible rfl)
          (try simp only [Act.put, List.setIfInBounds_toArray, List.set_cons_zero, List.set_cons_succ])
          refine reg_take 12 (v := ?_) rfl (by kernel_rfl) (fun _ _ _ h => h) (by rfl) hH ?_ ?_
          rotate_left
          · intro w hSw; (try dsimp only at hSw); go_simp; (try with_reducible rfl)
          (try simp only [Act.put, List.setIfInBounds_toArray, List.set_cons_zero, List.set_cons_succ])
          have hX6 := HX.out.far hb6
          have hM6 : M < w6.heap.size := hX6.lo.2.2
          have c8 : w6.cell? ⟨M, 3 + i, none⟩ = some (.slice (rs i).A (rs i).l.length (rs i).c) := hX6.cellR i hi3'
          have hLb : Below w6.heap.size w6 (w6.alloc (.cells #[Value.slice A1 (madeN nm).length c1, .int .u16 (kd : Int), .int .u16 (cl : Int), .int .u32 (ttl : Int), .slice B5 t.length c5, .int .u16 0, .int .u16 0, .int .u16 0, .slice none 0 0] 41)) := below_new w6 _
          have hX7 := hX6.far hLb
          have c9 : (w6.alloc (.cells #[Value.slice A1 (madeN nm).length c1, .int .u16 (kd : Int), .int .u16 (cl : Int), .int .u32 (ttl : Int), .slice B5 t.length c5, .int .u16 0, .int .u16 0, .int .u16 0, .slice none 0 0] 41)).cell? ⟨M, 3 + i, none⟩ = some (.slice (rs i).A (rs i).l.length (rs i).c) := hX7.cellR i hi3'
          refine wpAnyH_ready (rs := [8, 10]) (by kernel_rfl) (by simp) ?_
          refine reg_cons _ rfl (fun K1 hK1 => ?_) (reg_cons _ rfl (fun K1 hK1 => ?_) AllReadyH.nil)
          · go_simp
            refine hK1.out _ _ ⟨(W9).cell 3, (W11).cell 0, (W11).cell 1, (W11).cell 2, (W11).cell 3, (W11).cell 4, (W11).cell 5, (W11).cell 6, (W11).cell 7, (W11).cell 8⟩ (fun hH => ?_)
            (try simp only [Act.put, List.setIfInBounds_toArray, List.set_cons_zero, List.set_cons_succ])
            clear hK1
            refine wpAnyH_ready (rs := [10]) (by kernel_rfl) (by simp) ?_
            refine reg_cons _ rfl (fun K1 hK1 => ?_) AllReadyH.nil
            go_simp
            refine hK1.out _ _ ⟨(W9.alloc _).cell 3, (W11.alloc _).cell 0, (W11.alloc _).cell 1, (W11.alloc _).cell 2, (W11.alloc _).cell 3, (W11.alloc _).cell 4, (W11.alloc _).cell 5, (W11.alloc _).cell 6, (W11.alloc _).cell 7, (W11.alloc _).cell 8⟩ (fun hH => ?_)
            (try simp only [Act.put, List.setIfInBounds_toArray, List.set_cons_zero, List.set_cons_succ])
            clear hK1
            refine wpAnyH_ready (rs := [11]) (by kernel_rfl) (by simp) ?_
            refine reg_cons _ rfl (fun K1 hK1 => ?_) AllReadyH.nil
            refine step_appM rfl _ _ _ _ rfl (M + 1) 9 41 j0 _ 96 Try.underlying25 hj' hy0 hy1 hy2 rfl (by omega) (.slice (rs i).A (rs i).l.length (rs i).c) (rs i).l.length (rcs (rs i).l) (hX7.okR i hi3').drew rfl (.slice (some ⟨w6.heap.size, 0, none⟩) 1 1) rfl 1 (RR.cells ⟨A1, c1, B5, c5, none, 0, ⟨⟨madeN nm, kd, cl⟩, ttl, t, 0, 0, 0, []⟩⟩) (litM_src (w := w6.drew) Try.underlying25 41 9 (RR.cells ⟨A1, c1, B5, c5, none, 0, ⟨⟨madeN nm, kd, cl⟩, ttl, t, 0, 0, 0, []⟩⟩) 1 rfl (rcells_one _)) (by have := hX7.lr i; omega) (by simp; omega) ?_
            intro v7 w7 hown7 hgr7 hsz7
            obtain ⟨A7, c7, rfl, hc7, _, _⟩ := hown7.form
            have hbl7 : Below (M + 1) (w6.alloc (.cells #[Value.slice A1 (madeN nm).length c1, .int .u16 (kd : Int), .int .u16 (cl : Int), .int .u32 (ttl : Int), .slice B5 t.length c5, .int .u16 0, .int .u16 0, .int .u16 0, .slice none 0 0] 41)).drew w7 := hgr7.below (OwM.lt (hX7.okR i hi3')) (by simp; omega)
            have X9 := (W9.alloc (.cells #[Value.slice A1 (madeN nm).length c1, .int .u16 (kd : Int), .int .u16 (cl : Int), .int .u32 (ttl : Int), .slice B5 t.length c5, .int .u16 0, .int .u16 0, .int .u16 0, .slice none 0 0] 41)).drew
            have X11 := (W11.alloc (.cells #[Value.slice A1 (madeN nm).length c1, .int .u16 (kd : Int), .int .u16 (cl : Int), .int .u32 (ttl : Int), .slice B5 t.length c5, .int .u16 0, .int .u16 0, .int .u16 0, .slice none 0 0] 41)).drew
            have Y9 : Vx w7 g9 81 [.slice xA nm.length xc, .slice tA tg.length tc, .int .u8 (ty : Int), .int .u8 (sec : Int), .int .u16 (n0 : Int), .int .u16 (n1 : Int), .int .u16 (n2 : Int), .int .u32 (ttl : Int), .slice dA d.length dc] := X9.grown hgr7.1 (fun e => hna9 ((OwM.lt (HX.out.okR i hi3')) _ e.symm) ((OwM.block_lt (HX.out.okR i hi3')) _ e.symm))
            have Y11 : Vx w7 g11 41 [Value.slice A1 (madeN nm).length c1, .int .u16 (kd : Int), .int .u16 (cl : Int), .int .u32 (ttl : Int), .slice B5 t.length c5, .int .u16 0, .int .u16 0, .int .u16 0, .slice none 0 0] := X11.grown hgr7.1 (fun e => hna11 ((OwM.lt (HX.out.okR i hi3')) _ e.symm) ((OwM.block_lt (HX.out.okR i hi3')) _ e.symm))
            clear hH
            refine hK1.out _ _ ⟨(Y9).cell 3, (Y11).cell 0, (Y11).cell 1, (Y11).cell 2, (Y11).cell 3, (Y11).cell 4, (Y11).cell 5, (Y11).cell 6, (Y11).cell 7, (Y11).cell 8⟩ (fun hH => ?_)
            (try simp only [Act.put, List.setIfInBounds_toArray, List.set_cons_zero, List.set_cons_succ])
            clear hK1
            refine reg_take 13 (v := ?_) rfl (by kernel_rfl) (fun _ _ _ h => h) (by rfl) hH ?_ ?_
            rotate_left
            · intro w hSw; (try dsimp only at hSw); go_simp; (try with_reducible rfl)
            (try simp only [Act.put, List.setIfInBounds_toArray, List.set_cons_zero, List.set_cons_succ])
            refine wpAnyH_ready (rs := [14]) (by kernel_rfl) (by simp) ?_
            refine reg_cons _ rfl (fun K1 hK1 => ?_) AllReadyH.nil
            have VM := (hX7.vm.drew).below hbl7 (by omega)
            have r3 : w7.cell? ⟨M, 3 + i, none⟩ = some (.slice (rs i).A (rs i).l.length (rs i).c) := by
              rw [VM.cell]; exact mrow_get _ _ _ _ _ _ i hi3'
            have f3 := VM.free (3 + i)
            go_simp
            refine hK1.out _ _ ⟨(Y9.setO (g' := M) (by omega) (3 + i) (.slice A7 ((rs i).l.length + 1) c7)).cell 3, (Y11.setO (g' := M) (by omega) (3 + i) (.slice A7 ((rs i).l.length + 1) c7)).cell 0, (Y11.setO (g' := M) (by omega) (3 + i) (.slice A7 ((rs i).l.length + 1) c7)).cell 1, (Y11.setO (g' := M) (by omega) (3 + i) (.slice A7 ((rs i).l.length + 1) c7)).cell 2, (Y11.setO (g' := M) (by omega) (3 + i) (.slice A7 ((rs i).l.length + 1) c7)).cell 3, (Y11.setO (g' := M) (by omega) (3 + i) (.slice A7 ((rs i).l.length + 1) c7)).cell 4, (Y11.setO (g' := M) (by omega) (3 + i) (.slice A7 ((rs i).l.length + 1) c7)).cell 5, (Y11.setO (g' := M) (by omega) (3 + i) (.slice A7 ((rs i).l.length + 1) c7)).cell 6, (Y11.setO (g' := M) (by omega) (3 + i) (.slice A7 ((rs i).l.length + 1) c7)).cell 7, (Y11.setO (g' := M) (by omega) (3 + i) (.slice A7 ((rs i).l.length + 1) c7)).cell 8⟩ (fun hH => ?_)
            clear hK1
            refine wpAnyH_done (by kernel_rfl) ?_ _
            clear hH r3 f3 c8 c9
            go_wp2_with fail
            go_roundw
            case rel =>
              refine ⟨k + 1, Aq, cq, lq, updF rs i ⟨A7, c7, (rs i).l ++ [⟨A1, c1, B5, c5, none, 0, ⟨⟨madeN nm, kd, cl⟩, ttl, t, 0, 0, 0, []⟩⟩]⟩, by omega, by go_num, Lib.hid ?_⟩
              rw [HF.out]
              exact HX.out.addR (s := s) (by rw [HS.out]; exact HI.out) hi3' ⟨A1, c1, B5, c5, none, 0, ⟨⟨madeN nm, kd, cl⟩, ttl, t, 0, 0, 0, []⟩⟩ (by rw [HS.out, HKD.out, HT.out, HCL.out]; exact (smR_no (s := ⟨nm, tg, ty, sec, n0, n1, n2, ttl, d⟩) (by rw [← HKD.out]; exact hk33)).symm) ((hb6.trans (hLb.mono hb6.size)).drew) (nmO_of ((hq6.alloc _).drew)) (daO_of ((ht6.alloc _).drew)) (OwM.nil _ _ _ _) hgr7 hown7
            case measure => simp [intOf]; omega
          · go_simp
            refine hK1.out _ _ ⟨(W9.alloc _).cell 3, (W11.alloc _).cell 0, (W11.alloc _).cell 1, (W11.alloc _).cell 2, (W11.alloc _).cell 3, (W11.alloc _).cell 4, (W11.alloc _).cell 5, (W11.alloc _).cell 6, (W11.alloc _).cell 7, (W11.alloc _).cell 8⟩ (fun hH => ?_)
            (try simp only [Act.put, List.setIfInBounds_toArray, List.set_cons_zero, List.set_cons_succ])
            clear hK1
            refine wpAnyH_ready (rs := [8]) (by kernel_rfl) (by simp) ?_
            refine reg_cons _ rfl (fun K1 hK1 => ?_) AllReadyH.nil
            go_simp
            refine hK1.out _ _ ⟨(W9.alloc _).cell 3, (W11.alloc _).cell 0, (W11.alloc _).cell 1, (W11.alloc _).cell 2, (W11.alloc _).cell 3, (W11.alloc _).cell 4, (W11.alloc _).cell 5, (W11.alloc _).cell 6, (W11.alloc _).cell 7, (W11.alloc _).cell 8⟩ (fun hH => ?_)
            (try simp only [Act.put, List.setIfInBounds_toArray, List.set_cons_zero, List.set_cons_succ])
            clear hK1
            refine wpAnyH_ready (rs := [11]) (by kernel_rfl) (by simp) ?_
            refine reg_cons _ rfl (fun K1 hK1 => ?_) AllReadyH.nil
            refine step_appM rfl _ _ _ _ rfl (M + 1) 9 41 j0 _ 96 Try.underlying25 hj' hy0 hy1 hy2 rfl (by omega) (.slice (rs i).A (rs i).l.length (rs i).c) (rs i).l.length (rcs (rs i).l) (hX7.okR i hi3').drew rfl (.slice (some ⟨w6.heap.size, 0, none⟩) 1 1) rfl 1 (RR.cells ⟨A1, c1, B5, c5, none, 0, ⟨⟨madeN nm, kd, cl⟩, ttl, t, 0, 0, 0, []⟩⟩) (litM_src (w := w6.drew) Try.underlying25 41 9 (RR.cells ⟨A1, c1, B5, c5, none, 0, ⟨⟨madeN nm, kd, cl⟩, ttl, t, 0, 0, 0, []⟩⟩) 1 rfl (rcells_one _)) (by have := hX7.lr i; omega) (by simp; omega) ?_
            intro v7 w7 hown7 hgr7 hsz7
            obtain ⟨A7, c7, rfl, hc7, _, _⟩ := hown7.form
            have hbl7 : Below (M + 1) (w6.alloc (.cells #[Value.slice A1 (madeN nm).length c1, .int .u16 (kd : Int), .int .u16 (cl : Int), .int .u32 (ttl : Int), .slice B5 t.length c5, .int .u16 0, .int .u16 0, .int .u16 0, .slice none 0 0] 41)).drew w7 := hgr7.below (OwM.lt (hX7.okR i hi3')) (by simp; omega)
            have X9 := (W9.alloc (.cells #[Value.slice A1 (madeN nm).length c1, .int .u16 (kd : Int), .int .u16 (cl : Int), .int .u32 (ttl : Int), .slice B5 t.length c5, .int .u16 0, .int .u16 0, .int .u16 0, .slice none 0 0] 41)).drew
            have X11 := (W11.alloc (.cells #[Value.slice A1 (madeN nm).length c1, .int .u16 (kd : Int), .int .u16 (cl : Int), .int .u32 (ttl : Int), .slice B5 t.length c5, .int .u16 0, .int .u16 0, .int .u16 0, .slice none 0 0] 41)).drew
            have Y9 : Vx w7 g9 81 [.slice xA nm.length xc, .slice tA tg.length tc, .int .u8 (ty : Int), .int .u8 (sec : Int), .int .u16 (n0 : Int), .int .u16 (n1 : Int), .int .u16 (n2 : Int), .int .u32 (ttl : Int), .slice dA d.length dc] := X9.grown hgr7.1 (fun e => hna9 ((OwM.lt (HX.out.okR i hi3')) _ e.symm) ((OwM.block_lt (HX.out.okR i hi3')) _ e.symm))
            have Y11 : Vx w7 g11 41 [Value.slice A1 (madeN nm).length c1, .int .u16 (kd : Int), .int .u16 (cl : Int), .int .u32 (ttl : Int), .slice B5 t.length c5, .int .u16 0, .int .u16 0, .int .u16 0, .slice none 0 0] := X11.grown hgr7.1 (fun e => hna11 ((OwM.lt (HX.out.okR i hi3')) _ e.symm) ((OwM.block_lt (HX.out.okR i hi3')) _ e.symm))
            clear hH
            refine hK1.out _ _ ⟨(Y9).cell 3, (Y11).cell 0, (Y11).cell 1, (Y11).cell 2, (Y11).cell 3, (Y11).cell 4, (Y11).cell 5, (Y11).cell 6, (Y11).cell 7, (Y11).cell 8⟩ (fun hH => ?_)
            (try simp only [Act.put, List.setIfInBounds_toArray, List.set_cons_zero, List.set_cons_succ])
            clear hK1
            refine reg_take 13 (v := ?_) rfl (by kernel_rfl) (fun _ _ _ h => h) (by rfl) hH ?_ ?_
            rotate_left
            · intro w hSw; (try dsimp only at hSw); go_simp; (try with_reducible rfl)
            (try simp only [Act.put, List.setIfInBounds_toArray, List.set_cons_zero, List.set_cons_succ])
            refine wpAnyH_ready (rs := [14]) (by kernel_rfl) (by simp) ?_
            refine reg_cons _ rfl (fun K1 hK1 => ?_) AllReadyH.nil
            have VM := (hX7.vm.drew).below hbl7 (by omega)
            have r3 : w7.cell? ⟨M, 3 + i, none⟩ = some (.slice (rs i).A (rs i).l.length (rs i).c) := by
              rw [VM.cell]; exact mrow_get _ _ _ _ _ _ i hi3'
            have f3 := VM.free (3 + i)
            go_simp
            refine hK1.out _ _ ⟨(Y9.setO (g' := M) (by omega) (3 + i) (.slice A7 ((rs i).l.length + 1) c7)).cell 3, (Y11.setO (g' := M) (by omega) (3 + i) (.slice A7 ((rs i).l.length + 1) c7)).cell 0, (Y11.setO (g' := M) (by omega) (3 + i) (.slice A7 ((rs i).l.length + 1) c7)).cell 1, (Y11.setO (g' := M) (by omega) (3 + i) (.slice A7 ((rs i).l.length + 1) c7)).cell 2, (Y11.setO (g' := M) (by omega) (3 + i) (.slice A7 ((rs i).l.length + 1) c7)).cell 3, (Y11.setO (g' := M) (by omega) (3 + i) (.slice A7 ((rs i).l.length + 1) c7)).cell 4, (Y11.setO (g' := M) (by omega) (3 + i) (.slice A7 ((rs i).l.length + 1) c7)).cell 5, (Y11.setO (g' := M) (by omega) (3 + i) (.slice A7 ((rs i).l.length + 1) c7)).cell 6, (Y11.setO (g' := M) (by omega) (3 + i) (.slice A7 ((rs i).l.length + 1) c7)).cell 7, (Y11.setO (g' := M) (by omega) (3 + i) (.slice A7 ((rs i).l.length + 1) c7)).cell 8⟩ (fun hH => ?_)
            clear hK1
            refine wpAnyH_done (by kernel_rfl) ?_ _
            clear hH r3 f3 c8 c9
            go_wp2_with fail
            go_roundw
            case rel =>
              refine ⟨k + 1, Aq, cq, lq, updF rs i ⟨A7, c7, (rs i).l ++ [⟨A1, c1, B5, c5, none, 0, ⟨⟨madeN nm, kd, cl⟩, ttl, t, 0, 0, 0, []⟩⟩]⟩, by omega, by go_num, Lib.hid ?_⟩
              rw [HF.out]
              exact HX.out.addR (s := s) (by rw [HS.out]; exact HI.out) hi3' ⟨A1, c1, B5, c5, none, 0, ⟨⟨madeN nm, kd, cl⟩, ttl, t, 0, 0, 0, []⟩⟩ (by rw [HS.out, HKD.out, HT.out, HCL.out]; exact (smR_no (s := ⟨nm, tg, ty, sec, n0, n1, n2, ttl, d⟩) (by rw [← HKD.out]; exact hk33)).symm) ((hb6.trans (hLb.mono hb6.size)).drew) (nmO_of ((hq6.alloc _).drew)) (daO_of ((ht6.alloc _).drew)) (OwM.nil _ _ _ _) hgr7 hown7
            case measure => simp [intOf]; omega
    · have hkK : k = K := by omega
      subst hkK
      have hfin := HX.out.eq
      rw [HK.out] at hfin
      have hcs : mrow id fl Aq cq lq rs = MR.cells ⟨id, fl, Aq, cq, lq, (rs 0).A, (rs 0).c, (rs 0).l, (rs 1).A, (rs 1).c, (rs 1).l, (rs 2).A, (rs 2).c, (rs 2).l⟩ := rfl
      have hvr := HX.out.vr
      have hvm := HX.out.vm
      have hbl := HX.out.bl
      have HF := Lib.hid hfin
      have HC := Lib.hid hcs
      clear hfin hcs
      go_wp2_with (first
        | (refine wpList_store_row rfl 28 _ _ rfl w.heap.size _ rfl rfl _ _ hvr (by kernel_rfl) rfl (by kernel_rfl) ?_)
        | (refine wpList_load_row rfl 28 _ rfl M rfl _ _ _ _ hvm Try.underlying28 rfl (by kernel_rfl) ?_))
      refine bodyPost_ret (resM1 Try.results12 _ _ w.heap.size _ _ rfl (hvr.row _) rfl) rfl ?_
      have hlo := HX.out.lo
      refine ⟨M, Aq, cq, lq, rs, HF.out.symm, rfl, HX.out.fam.only (Only.row _ _ _) (by omega), by omega, by have := HX.out.lq; omega, fun i => by have := HX.out.lr i; omega, ?_⟩
      exact hbl.trans ((Only.row _ _ _).below (Nat.le_refl _) (by have := hbl.size; omega))
theorem fam_mow {w : World} {base M id fl : Nat} {Aq : Option Addr} {cq : Nat} {lq : List QR} {rs : Nat → RW} (hf : Fam w (M + 1) (rowF Aq cq lq rs) (DD lq rs)) (hM : base ≤ M) : MOw w base ⟨id, fl, Aq, cq, lq, (rs 0).A, (rs 0).c, (rs 0).l, (rs 1).A, (rs 1).c, (rs 1).l, (rs 2).A, (rs 2).c, (rs 2).l⟩ := by
  have hB : base ≤ M + 1 := by omega
  have ok : ∀ o, DD lq rs o → o.ok w base := fun o ho => OwM.mono (hf.dn o ho) hB
  exact ⟨OwM.mono (hf.ok 3 (by omega)) hB, OwM.mono (hf.ok 0 (by omega)) hB, OwM.mono (hf.ok 1 (by omega)) hB, OwM.mono (hf.ok 2 (by omega)) hB, fun o ho => ok o (Or.inl ho), fun o ho => ok o (Or.inr ⟨0, by omega, ho⟩), fun o ho => ok o (Or.inr ⟨1, by omega, ho⟩), fun o ho => ok o (Or.inr ⟨2, by omega, ho⟩)⟩
theorem dmade_at (id fl : Nat) (A : Option Addr) (c : Nat) (l : List SmR) (w : World) (h : Rd w w.heap.size A (l.length * 9) (smcs l)) (hc : l.length ≤ c) (hx : ∀ x ∈ l, SRd w w.heap.size x) :
    Calls Try.prog 12 #[.int .u16 (id : Int), .int .u16 (fl : Int), .slice A l.length c] w fun e w' => ∃ x : MR, x.m = madeM id fl (l.map SmR.s) ∧ e = .returned (.agg x.cells.toArray) ∧ MOw w' w.heap.size x ∧ Below w.heap.size w w' := by
  refine (dmade_fam id fl A c l w h hc hx).mono ?_
  rintro e w' ⟨M, Aq, cq, lq, rs, hm, rfl, hf, hM, _, _, hb⟩
  exact ⟨⟨id, fl, Aq, cq, lq, (rs 0).A, (rs 0).c, (rs 0).l, (rs 1).A, (rs 1).c, (rs 1).l, (rs 2).A, (rs 2).c, (rs 2).l⟩, hm, rfl, fam_mow hf hM, hb⟩
open Go.ChangeShapes Go.WideShapes Go.ChangeAt Go.RowKit
section
variable {H : Type} {enc : TypeId × Value → H} {W : World}
theorem smFields : fieldsOf Try.prog 81 = some [(36, 0), (36, 1), (5, 2), (5, 3), (79, 4), (39, 7), (22, 8)] := by kernel_rfl
set_option maxRecDepth 100000 in
theorem open_sm {cs : List Value} {d : DataW H} {ps : List MemPlace} {n : Nat} (h : DataW.trod enc Try.prog W 0 (fun _ => true) true n 81 cs = some (d, ps)) (hre : ∀ n ∈ d.weights Try.prog 81, n ≤ reachBytes) :
    ∃ x : SmR, cs = x.cells ∧ SRd W W.heap.size x := by
  obtain ⟨xs, m, hcl, hxl, hfi⟩ := trod_structL smFields h
  rw [show Try.prog.cellsOf 81 = 9 by kernel_rfl] at hcl
  match cs, hcl with
  | [c0, c1, c2, c3, c4, c5, c6, c7, c8], _ =>
    obtain ⟨y0, t0, w0⟩ := hfi 0 _ _ rfl
    obtain ⟨y1, t1, w1⟩ := hfi 1 _ _ rfl
    obtain ⟨y2, t2, w2⟩ := hfi 2 _ _ rfl
    obtain ⟨y3, t3, w3⟩ := hfi 3 _ _ rfl
    obtain ⟨y4, t4, w4⟩ := hfi 4 _ _ rfl
    obtain ⟨y5, t5, w5⟩ := hfi 5 _ _ rfl
    obtain ⟨y6, t6, w6⟩ := hfi 6 _ _ rfl
    rw [show Try.prog.cellsOf 36 = 1 by kernel_rfl] at t0 t1
    rw [show Try.prog.cellsOf 5 = 1 by kernel_rfl] at t2 t3
    rw [show Try.prog.cellsOf 79 = 3 by kernel_rfl] at t4
    rw [show Try.prog.cellsOf 39 = 1 by kernel_rfl] at t5
    rw [show Try.prog.cellsOf 22 = 1 by kernel_rfl] at t6
    simp only [List.drop_succ_cons, List.drop_zero, List.take_succ_cons, List.take_zero] at t0 t1 t2 t3 t4 t5 t6
    obtain ⟨A0, k0, l0, rfl, h0⟩ := open_cellS Try.underlying36 Try.underlying9 Try.cellsStr Try.bytesStr t0 (fun n hn => hre n (w0 n hn))
    obtain ⟨A1, k1, l1, rfl, h1⟩ := open_cellS Try.underlying36 Try.underlying9 Try.cellsStr Try.bytesStr t1 (fun n hn => hre n (w1 n hn))
    obtain ⟨A6, k6, l6, rfl, h6, h6c, h6l⟩ := open_cellB Try.underlying22 Try.underlying5 Try.cellsByte Try.bytesByte t6 (fun n hn => hre n (w6 n hn))
    obtain ⟨z2, rfl, b2⟩ := trod_int_nat 256 Try.underlying5 (by decide) t2
    obtain ⟨z3, rfl, b3⟩ := trod_int_nat 256 Try.underlying5 (by decide) t3
    obtain ⟨z5, rfl, b5⟩ := trod_int_nat 4294967296 Try.underlying39 (by decide) t5
    obtain ⟨a0, a1, a2, q, _, u0, u1, u2⟩ := trod_array3 Try.underlying79 (by kernel_rfl) t4
    obtain ⟨v0, rfl, g0⟩ := trod_int_nat 65536 Try.underlying23 (by decide) u0
    obtain ⟨v1, rfl, g1⟩ := trod_int_nat 65536 Try.underlying23 (by decide) u1
    obtain ⟨v2, rfl, g2⟩ := trod_int_nat 65536 Try.underlying23 (by decide) u2
    exact ⟨⟨A0, k0, A1, k1, A6, k6, ⟨l0, l1, z2, z3, v0, v1, v2, z5, l6⟩⟩, rfl, h0, h1, ⟨h6, h6c, by simp only; omega⟩, b2, b3, g0, g1, g2, b5⟩
instance : Inhabited SmR := ⟨⟨none, 0, none, 0, none, 0, ⟨[], [], 0, 0, 0, 0, 0, 0, []⟩⟩⟩
set_option maxRecDepth 100000 in
theorem open_sms {base : Nat} {v : Value} {d : DataW H} {ps : List MemPlace} (hval : Value.okWide Try.prog W .any base 45 v) (hd : DataW.Trod enc Try.prog W 0 (fun _ => true) true 45 v d ps) (hre : ∀ n ∈ d.weights Try.prog 45, n ≤ reachBytes) :
    ∃ (A : Option Addr) (c : Nat) (l : List SmR), v = .slice A l.length c ∧ l.length ≤ c ∧ l.length ≤ 2000000000000 ∧ Rd W W.heap.size A (l.length * 9) (l.flatMap SmR.cells) ∧ ∀ x ∈ l, SRd W W.heap.size x := by
  have ht := Try.underlying45
  have hby : Try.prog.bytesOf 81 = 88 := by kernel_rfl
  have hce : Try.prog.cellsOf 81 = 9 := by kernel_rfl
  obtain ⟨a1, len, cap, rfl⟩ := okWide_slice ht hval
  obtain ⟨fuel, hfu⟩ := hd
  rcases Go.Deep.open_slice ht hfu with ⟨hcs, hx⟩ | ⟨a, len', cap', m, n, D, Pl, hcs, _, hl, hm, hmm, hx, hV⟩
  · simp [Value.cells] at hcs
    obtain ⟨rfl, rfl, rfl⟩ := hcs
    exact ⟨none, 0, [], rfl, Nat.le_refl _, by simp, Rd.nil _ _ _, fun _ h => by cases h⟩
  · simp [Value.cells] at hcs
    obtain ⟨rfl, rfl, rfl⟩ := hcs
    simp only [if_true] at hmm
    obtain rfl := hmm.symm
    simp only [Prod.mk.injEq] at hx
    obtain ⟨rfl, rfl⟩ := hx
    have hw := hre (((List.map D (List.range len)).length + (List.map (fun j => D (len + j)) (List.range (cap - len))).length) * Try.prog.bytesOf 81) (by simp [DataW.weights, ht])
    simp only [List.length_map, List.length_range, hby, reachBytes] at hw
    rw [hce] at hV
    obtain ⟨R, hR⟩ := Go.Deep.choose_lt (α := SmR) (n := len) (p := fun i x => W.cells? 0 (a.add (i * 9)) 9 = some x.cells ∧ SRd W W.heap.size x) (fun i hi => by
      obtain ⟨cs', h1, h2⟩ := hV i (by omega)
      obtain ⟨x, hx, hs⟩ := open_sm h2 (fun n hn => hre n (by
        simp only [DataW.weights, ht, List.mem_cons, List.mem_append]
        right; left
        exact weights_all_memS hn (List.mem_map.2 ⟨i, List.mem_range.2 hi, rfl⟩)))
      subst hx
      exact ⟨x, h1, hs⟩)
    have hrl : ((List.range len).map R).length = len := by simp
    refine ⟨some a, cap, (List.range len).map R, by rw [hrl], by rw [hrl]; exact hl, by rw [hrl]; omega, ?_, fun x hx => ?_⟩
    · rw [hrl]
      have hfl : (((List.range len).map R).flatMap SmR.cells).length = len * 9 := by
        have : ∀ q : List SmR, (q.flatMap SmR.cells).length = q.length * 9 := fun q => by
          induction q with
          | nil => rfl
          | cons a q ih => rw [List.flatMap_cons, List.length_append, SmR.cells_length, List.length_cons, ih]; omega
        rw [this, hrl]
      refine rd_of_cells _ hfl fun j u hu => ?_
      have hj : j < len * 9 := by
        rcases Nat.lt_or_ge j (len * 9) with h1 | h1
        · exact h1
        · rw [List.getElem?_eq_none (by omega)] at hu; cases hu
      have hq : j / 9 < len := by omega
      have hjq : j = j / 9 * 9 + j % 9 := by omega
      have h1 := flat_get SmR.cells 9 SmR.cells_length ((List.range len).map R) (j / 9) (j % 9) (by rw [hrl]; exact hq) (by omega)
      rw [← hjq, hu] at h1
      simp only [List.getElem_map, List.getElem_range] at h1
      obtain ⟨_, _, h3⟩ := World.cells?_some (hR (j / 9) hq).1
      have h4 := h3 (j % 9) (by omega)
      rw [Go.Deep.add_add, ← hjq] at h4
      rw [h4, h1]
    · obtain ⟨i, hi, rfl⟩ := List.mem_map.1 hx
      exact (hR i (List.mem_range.1 hi)).2
end
end Go.Proofs.Ytlipmlbijddopaa
