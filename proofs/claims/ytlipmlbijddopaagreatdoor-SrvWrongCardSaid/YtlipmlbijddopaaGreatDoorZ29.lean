/-
  OpenG; SrvN; SrvFr; SrvAp; SrvAm; SrvFs; SrvAn; SrvBq
-/
import Derived.Test.YtlipmlbijddopaaGreatDoorZ03
import Derived.Test.YtlipmlbijddopaaGreatDoorZ02
import Derived.Test.YtlipmlbijddopaaGreatDoorZ26
import Derived.Lib.AppendIntMem
import Derived.Lib.LaidTab
import Derived.Test.YtlipmlbijddopaaGreatDoorZ28
import Derived.Test.YtlipmlbijddopaaGreatDoorZ19
import Derived.Test.YtlipmlbijddopaaGreatDoorZ01
import Derived.BigQuiet
import Derived.Deep.CutRange
import Derived.Deep.CutBlock
namespace Go.Proofs
open Go.Shelf
theorem Tryz.lays156 : Go.Proofs.Lays.n156 Tryz.prog Tryz.lays156_ren := {
  mixed := by kernel_rfl
  f156 := Tryz.func90.trans (congrArg some (by kernel_rfl))
  f165 := Tryz.func131.trans (congrArg some (by kernel_rfl))
  f166 := Tryz.func132.trans (congrArg some (by kernel_rfl))
  f169 := Tryz.func72.trans (congrArg some (by kernel_rfl))
  f240 := Tryz.func110.trans (congrArg some (by kernel_rfl))
  f241 := Tryz.func166.trans (congrArg some (by kernel_rfl))
  f276 := Tryz.func147.trans (congrArg some (by kernel_rfl))
  f277 := Tryz.func180.trans (congrArg some (by kernel_rfl))
  t0 := Tryz.underlying0
  a0 := Tryz.isAgg0
  z0 := Tryz.sizeOf0
  v0 := Tryz.zeroValue0
  t3 := Tryz.underlying3
  a3 := Tryz.isAgg3
  z3 := Tryz.sizeOf3
  v3 := Tryz.zeroValue3
  t4 := Tryz.underlying4
  a4 := Tryz.isAgg4
  z4 := Tryz.sizeOf4
  v4 := Tryz.zeroValue4
  t9 := Tryz.underlying9
  a9 := Tryz.isAgg9
  z9 := Tryz.sizeOf9
  v9 := Tryz.zeroValue9
  t20 := Tryz.underlying20
  a20 := Tryz.isAgg20
  z20 := Tryz.sizeOf20
  v20 := Tryz.zeroValue20
  t31 := Tryz.underlying38
  a31 := Tryz.isAgg38
  z31 := Tryz.sizeOf38
  v31 := Tryz.zeroValue38
  t37 := Tryz.underlying22
  a37 := Tryz.isAgg22
  z37 := Tryz.sizeOf22
  v37 := Tryz.zeroValue22
  t70 := Tryz.underlying123
  a70 := Tryz.isAgg123
  z70 := Tryz.sizeOf123
  v70 := Tryz.zeroValue123
  t72 := Tryz.underlying125
  a72 := Tryz.isAgg125
  z72 := Tryz.sizeOf125
  v72 := Tryz.zeroValue125
  t75 := Tryz.underlying127
  a75 := Tryz.isAgg127
  z75 := Tryz.sizeOf127
  v75 := Tryz.zeroValue127
  t76 := Tryz.underlying129
  a76 := Tryz.isAgg129
  z76 := Tryz.sizeOf129
  v76 := Tryz.zeroValue129
  t127 := Tryz.underlying179
  a127 := Tryz.isAgg179
  z127 := Tryz.sizeOf179
  v127 := Tryz.zeroValue179
  t164 := Tryz.underlying218
  a164 := Tryz.isAgg218
  z164 := Tryz.sizeOf218
  v164 := Tryz.zeroValue218 }
theorem Tryz.Builder_Extra_156 : Builder.Extra Tryz.prog Tryz.lays156_ren := {
  sizeBuilder := by kernel_rfl
  liesBuilder := by kernel_rfl
  t5 := Tryz.underlying5
  a5 := Tryz.isAgg5
  z5 := Tryz.sizeOf5
  v5 := Tryz.zeroValue5
  infoByte := by kernel_rfl
  cellsByte := by kernel_rfl
  sizeByte := by kernel_rfl
  neB5 := by decide }
open Go.RowKit in
/-- strings.Join: "Join concatenates the elements of its first argument to create a single string. The separator string sep is placed between elements in the resulting string.": HOWEVER MANY ELEMENTS. Below the heap's end the world is as it was. (LAID: no walk: one application.) -/
theorem Tryz.strings_Join (bk o c : Nat) (xs : List ByteArray) (sep : ByteArray) (w : World) (hcells : ∀ (j : Nat) x, xs[j]? = some x → w.cell? ⟨bk, o + j, none⟩ = some (.string x)) (hbk : bk < w.heap.size) (hN : xs.length ≤ 140737488355328) (hcap : xs.length ≤ c) (hlen : (Lib.join (xs.map (·.data.toList)) sep.data.toList).length ≤ 140737488355328) :
    Calls Tryz.prog 90 #[.slice (some ⟨bk, o, none⟩) xs.length c, .string sep] w fun e w' => e = .returned (.string ⟨(Lib.join (xs.map (·.data.toList)) sep.data.toList).toArray⟩) ∧ Below w.heap.size w w' := Any.strings_Join Tryz.lays156 Tryz.Builder_Extra_156 bk o c xs sep w hcells hbk hN hcap hlen
end Go.Proofs
namespace Go.Proofs.YtlipmlbijddopaaGreatDoor
open Go.RowKit in
theorem grownBy_set (w : World) (g k : Nat) (u : Value) : w.grownBy (w.setCell ⟨g, k, none⟩ u) (some g) :=
  ⟨rfl, rfl, rfl, by simp, fun i hi hne => Below.heap_setCell w ⟨g, k, none⟩ u i (fun e => hne (by rw [e]))⟩
end Go.Proofs.YtlipmlbijddopaaGreatDoor
set_option linter.unusedVariables false
set_option linter.unusedSimpArgs false
namespace Go.Proofs.YtlipmlbijddopaaGreatDoor
def NR0 (w : World) (B : Nat) (A : Option Addr) (c : Nat) (n : List (List UInt8)) : Prop := Rd w B A n.length (sc n) ∧ n.length ≤ c ∧ n.length * 16 ≤ 140737488351232 ∧ ∀ s ∈ n, s.length ≤ 140737488351232
open Go.ChangeShapes Go.WideShapes Go.ChangeAt Go.RowKit
section
variable {P : Program} {H : Type} {enc : TypeId × Value → H} {W : World}
theorem weights_all_memS {P : Program} {e : TypeId} {d : DataW H} {n : Nat} (hn : n ∈ d.weights P e) : ∀ {l : List (DataW H)}, d ∈ l → n ∈ DataW.weightsAll P e l := by
  intro l
  induction l with
  | nil => intro h; cases h
  | cons b l ih =>
    intro h
    simp only [DataW.weightsAll, List.mem_append]
    rcases List.mem_cons.1 h with rfl | h
    · exact .inl hn
    · exact .inr (ih h)
theorem nat_of {k : IntKind} {z : Int} {m : Nat} (h : (Lit.int k z).wf = true) (hm : k.min = 0 ∧ k.max < (m : Int)) : ∃ n : Nat, z = (n : Int) ∧ n < m := by
  simp [Lit.wf, hm.1] at h
  exact ⟨z.toNat, by omega, by omega⟩
/-- the fields' types and places of a struct -/
def fieldsOf (P : Program) (t : TypeId) : Option (List (TypeId × Nat)) := match P.underlying t with
  | some (.struct fs) => some (fs.toList.map fun f => (f.type, f.offset))
  | _ => none
theorem trod_structL {t : TypeId} {l : List (TypeId × Nat)} {cs : List Value} {d : DataW H} {ps : List MemPlace} {n : Nat} (hf : fieldsOf P t = some l) (h : DataW.trod enc P W 0 (fun _ => true) true n t cs = some (d, ps)) :
    ∃ (xs : List (DataW H × List MemPlace)) (m : Nat), cs.length = P.cellsOf t ∧ xs.length = l.length ∧
      ∀ (i : Nat) (e : TypeId) (o : Nat), l[i]? = some (e, o) → ∃ y, DataW.trod enc P W 0 (fun _ => true) true m e ((cs.drop o).take (P.cellsOf e)) = some y ∧ ∀ n ∈ y.1.weights P e, n ∈ d.weights P t := by
  unfold fieldsOf at hf
  split at hf
  · rename_i fs hu
    obtain ⟨xs, m, _, hx, hcl, hxl, hfi⟩ := DataW.trod_struct hu h
    have hl := (Option.some.inj hf)
    simp only [Prod.mk.injEq] at hx
    obtain ⟨rfl, rfl⟩ := hx
    refine ⟨xs, m, hcl, by rw [hxl, ← hl]; simp, fun i e o hi => ?_⟩
    rw [← hl, List.getElem?_map] at hi
    obtain ⟨f, hf1, hf2⟩ := Option.map_eq_some_iff.1 hi
    cases hf2
    have hi2 : i < xs.length := by
      rw [hxl]
      have := (List.getElem?_eq_some_iff.1 hf1).1
      simpa using this
    have := hfi i f (by simpa using hf1)
    rw [List.getElem?_eq_getElem hi2] at this
    refine ⟨xs[i], this, fun n hn => ?_⟩
    simp only [DataW.weights, hu]
    exact DataW.weights_mem_each (j := i) (t := f.type) (d := xs[i].1) (by rw [List.getElem?_map, hf1]; rfl) (by rw [List.getElem?_map, List.getElem?_eq_getElem hi2]; rfl) n hn
  · cases hf
end
section
variable {H : Type} {enc : TypeId × Value → H} {W : World}
theorem trod_int_nat {P : Program} {t : TypeId} {k : IntKind} {V : Value} {y : DataW H × List MemPlace} {n : Nat} (m : Nat) (ht : P.underlying t = some (.int k)) (hm : k.min = 0 ∧ k.max < (m : Int)) (h : DataW.trod enc P W 0 (fun _ => true) true n t [V] = some y) : ∃ z : Nat, V = .int k (z : Int) ∧ z < m := by
  obtain ⟨z, h1, _, h2⟩ := DataW.trod_int ht h
  simp only [List.cons.injEq, and_true] at h1
  obtain ⟨q, rfl, hq⟩ := nat_of h2 hm
  exact ⟨q, h1, hq⟩
/-- a slice of structs is opened -/
theorem open_rowsG {P : Program} {α : Type} [Inhabited α] (f : α → List Value) (s : Nat) (hs : ∀ x, (f x).length = s) (hs1 : 0 < s) {t e : TypeId} (ht : P.underlying t = some (.slice e)) (hce : P.cellsOf e = s) (by_ : Nat) (hby : P.bytesOf e = by_) (Q : α → Prop)
    {V : Value} {d : DataW H} {ps : List MemPlace} {n : Nat} (h : DataW.trod enc P W 0 (fun _ => true) true n t [V] = some (d, ps)) (hre : ∀ n ∈ d.weights P t, n ≤ reachBytes)
    (ho : ∀ cs d ps n, DataW.trod enc P W 0 (fun _ => true) true n e cs = some (d, ps) → (∀ n ∈ d.weights P e, n ≤ reachBytes) → ∃ x, cs = f x ∧ Q x) :
    ∃ (A : Option Addr) (c : Nat) (l : List α), V = .slice A l.length c ∧ l.length ≤ c ∧ l.length * by_ ≤ 140737488351232 ∧ Rd W W.heap.size A (l.length * s) (l.flatMap f) ∧ ∀ x ∈ l, Q x := by
  rcases Go.Deep.open_slice ht h with ⟨hcs, hx⟩ | ⟨a, len, cap, m, n', D, Pl, hcs, _, hl, hm, hmm, hx, hV⟩
  · simp only [List.cons.injEq, and_true] at hcs
    exact ⟨none, 0, [], hcs, Nat.le_refl _, by simp, by simpa using Rd.nil _ _ _, fun _ h => by cases h⟩
  · simp only [List.cons.injEq, and_true] at hcs
    subst hcs
    simp only [if_true] at hmm
    obtain rfl := hmm.symm
    simp only [Prod.mk.injEq] at hx
    obtain ⟨rfl, rfl⟩ := hx
    have hw := hre (((List.map D (List.range len)).length + (List.map (fun j => D (len + j)) (List.range (cap - len))).length) * P.bytesOf e) (by simp [DataW.weights, ht])
    simp only [List.length_map, List.length_range, hby, reachBytes] at hw
    rw [hce] at hV
    obtain ⟨R, hR⟩ := Go.Deep.choose_lt (α := α) (n := len) (p := fun i x => W.cells? 0 (a.add (i * s)) s = some (f x) ∧ Q x) (fun i hi => by
      obtain ⟨cs', h1, h2⟩ := hV i (by omega)
      obtain ⟨x, hx, hsx⟩ := ho _ _ _ _ h2 (fun n hn => hre n (by
        simp only [DataW.weights, ht, List.mem_cons, List.mem_append]
        right; left
        exact weights_all_memS hn (List.mem_map.2 ⟨i, List.mem_range.2 hi, rfl⟩)))
      subst hx
      exact ⟨x, h1, hsx⟩)
    have hrl : ((List.range len).map R).length = len := by simp
    have hwl : len * by_ ≤ 140737488351232 := Nat.le_trans (Nat.mul_le_mul_right _ (Nat.le_add_right _ _)) hw
    refine ⟨some a, cap, (List.range len).map R, by rw [hrl], by rw [hrl]; exact hl, by rw [hrl]; exact hwl, ?_, fun x hx => ?_⟩
    · rw [hrl]
      have hfl : (((List.range len).map R).flatMap f).length = len * s := by
        have : ∀ q : List α, (q.flatMap f).length = q.length * s := fun q => by
          induction q with
          | nil => simp
          | cons a q ih => rw [List.flatMap_cons, List.length_append, hs, List.length_cons, ih, Nat.add_mul, Nat.one_mul, Nat.add_comm]
        rw [this, hrl]
      refine rd_of_cells _ hfl fun j u hu => ?_
      have hj : j < len * s := by
        rcases Nat.lt_or_ge j (len * s) with h1 | h1
        · exact h1
        · rw [List.getElem?_eq_none (by omega)] at hu; cases hu
      have hq : j / s < len := Nat.div_lt_of_lt_mul (by rw [Nat.mul_comm]; exact hj)
      have hjq : j = j / s * s + j % s := by rw [Nat.mul_comm]; exact (Nat.div_add_mod j s).symm
      have hms : j % s < s := Nat.mod_lt _ hs1
      have h1 := flat_get f s hs ((List.range len).map R) (j / s) (j % s) (by rw [hrl]; exact hq) hms
      rw [← hjq, hu] at h1
      simp only [List.getElem_map, List.getElem_range] at h1
      obtain ⟨_, _, h3⟩ := World.cells?_some (hR (j / s) hq).1
      have h4 := h3 (j % s) hms
      rw [Go.Deep.add_add, ← hjq] at h4
      rw [h4, h1]
    · obtain ⟨i, hi, rfl⟩ := List.mem_map.1 hx
      exact (hR i (List.mem_range.1 hi)).2
instance : Inhabited QR := ⟨⟨none, 0, zQ⟩⟩
instance : Inhabited RR := ⟨⟨none, 0, none, 0, none, 0, zR⟩⟩
end
end Go.Proofs.YtlipmlbijddopaaGreatDoor
set_option linter.unusedVariables false
set_option linter.unusedSimpArgs false
namespace Go.Proofs.YtlipmlbijddopaaGreatDoor
open Go.RowKit
namespace Srv
/-- whether one of them has this TTL, or there is none and it is 0 -/
def someA (l : List Ad) (t k : Nat) : Bool := (decide (l.length = 0) && decide (t = 0)) || (l.take k).any fun x => decide (x.ttl = t)
end Srv
namespace Srv
theorem tiers_len : ∀ {ts : List (List Ad)}, (∀ t ∈ ts, t ≠ []) → ts.length ≤ ts.flatten.length
  | [], _ => Nat.le_refl _
  | t :: ts, h => by
    have h1 := tiers_len (ts := ts) fun x hx => h x (List.mem_cons_of_mem _ hx)
    have h2 := List.length_pos_iff.2 (h t (List.mem_cons_self ..))
    simp only [List.length_cons, List.flatten_cons, List.length_append]
    omega
end Srv
/-- the table that strconv.Itoa reads -/
def EnvT (w : World) : Prop := Lib.TabIs Tryz.prog w "internal/strconv.uint64pow10" .u64 Lib.pow10Tab
theorem EnvT.below {w w' : World} (h : EnvT w) (hb : Below w.heap.size w w') : EnvT w' := Lib.tabBelow_of_tabIs h w' hb
theorem ito_of {w : World} (h : EnvT w) {n : Int} (h0 : -9223372036854775808 ≤ n) (h1 : n ≤ 9223372036854775807) : ItoOk w n := fun W hW => Tryz.strconv_Itoa n h0 h1 W (h.below hW)

set_option maxRecDepth 100000 in
set_option maxHeartbeats 1000000 in
theorem aeq_at (A1 A2 : Option Addr) (c1 c2 n : Nat) (l : List Ad) (w : World) (B : Nat) (h1 : AsRd w B A1 c1 n l) (h2 : AsRd w B A2 c2 n l) :
    Calls Tryz.prog 27 #[.slice A1 n c1, .slice A2 n c2] w fun e w' => e = .returned (.bool true) ∧ ∃ q, w' = w.drewN q := by
  have H1 := Lib.hid h1
  have H2 := Lib.hid h2
  have hnl := h1.2.2.2.1
  have HLN := Lib.hid h1.2.1
  clear h1 h2
  have mixed : Tryz.prog.follows .mixedOrders = true := by kernel_rfl
  go_enter Tryz.func27, Tryz.ntmps27
  go_wp2_with fail
  go_loopw [13] (fun vk wr => ∃ k q : Nat, k ≤ n ∧ vk = .int .i64 k ∧ wr = w.drewN q) (fun vk _ => n - (intOf vk).toNat)
  case atStart => exact ⟨0, 0, Nat.zero_le _, rfl, rfl⟩
  case round =>
    obtain ⟨k, q, hk, rfl, hwr⟩ := hrel
    have r1 : AsRd wr B A1 c1 n l := by rw [hwr]; exact H1.out
    have r2 : AsRd wr B A2 c2 n l := by rw [hwr]; exact H2.out
    have HW := Lib.hid hwr
    clear hwr
    rcases Nat.lt_or_ge k n with hlt | hge
    · have hkl : k < l.length := by rw [HLN.out]; exact hlt
      obtain ⟨b, o, rfl, _, hc⟩ := r1.at_ hlt
      obtain ⟨b', o', rfl, _, hc'⟩ := r2.at_ hlt
      have f1 := hc hkl
      have f2 := hc' hkl
      obtain ⟨x, hx⟩ : ∃ x, x = l[k] := ⟨_, rfl⟩
      rw [← hx] at f1 f2
      clear hx hc hc' r1 r2
      obtain ⟨xh, xpo, xpr, xwe, xttl⟩ := x
      obtain ⟨c0, c1, c2, c3, c4⟩ := f1.cells
      obtain ⟨d0, d1, d2, d3, d4⟩ := f2.cells
      dsimp only at c0 c1 c2 c3 c4 d0 d1 d2 d3 d4
      clear f1 f2
      go_wp2_with fail
      go_quiet (fail)
      go_wp2_with fail
      go_roundw
      case rel => exact ⟨k + 1, q + nq, by omega, by go_num, by rw [HW.out]; simp⟩
      case measure => simp [intOf]; omega
    · have : k = n := by omega
      subst this
      go_wp2_with fail
      go_ret
      exact ⟨rfl, q, HW.out⟩
end Go.Proofs.YtlipmlbijddopaaGreatDoor
set_option linter.unusedVariables false
namespace Go.Proofs.YtlipmlbijddopaaGreatDoor
open Go.ChangeShapes Go.WideShapes Go.ChangeAt Go.RowKit
theorem envT_of {laid : List (String × DataW Unit)} {x y : String × DataW Unit} {rest : List (String × DataW Unit)} {W : World} (he : laid = x :: y :: ("internal/strconv.uint64pow10", Lib.tabData .u64 Lib.pow10Tab) :: rest) (hL : laidMet Tryz.prog laid W) : EnvT W := by
  subst he
  exact Lib.tabIs_of_head (P := Tryz.prog) (g := 0) (t := 256) (e := 231) (n := 20) (by kernel_rfl) (by kernel_rfl) Tryz.underlying256 Tryz.underlying231 (by kernel_rfl) (by kernel_rfl) (laidMet_tail (laidMet_tail hL))
section
variable {H : Type} {enc : TypeId × Value → H} {W : World}
theorem adFields : fieldsOf Tryz.prog 31 = some [(9, 0), (3, 1), (3, 2), (3, 3), (28, 4)] := by kernel_rfl
theorem trod_int_i64 {P : Program} {t : TypeId} {V : Value} {y : DataW H × List MemPlace} {n : Nat} (ht : P.underlying t = some (.int .i64)) (h : DataW.trod enc P W 0 (fun _ => true) true n t [V] = some y) : ∃ z : Int, V = .int .i64 z ∧ -9223372036854775808 ≤ z ∧ z ≤ 9223372036854775807 := by
  obtain ⟨z, h1, _, h2⟩ := DataW.trod_int ht h
  simp only [List.cons.injEq, and_true] at h1
  refine ⟨z, h1, ?_⟩
  simp [Lit.wf, IntKind.min, IntKind.max, IntKind.signed, IntKind.bits] at h2
  omega
theorem trod_str {P : Program} {t : TypeId} {V : Value} {y : DataW H × List MemPlace} {n : Nat} (ht : P.underlying t = some .string) (h : DataW.trod enc P W 0 (fun _ => true) true n t [V] = some y) (hre : ∀ n ∈ y.1.weights P t, n ≤ reachBytes) : ∃ l : List UInt8, V = .string ⟨l.toArray⟩ ∧ l.length ≤ 140737488351232 := by
  obtain ⟨s, h1, rfl, _⟩ := DataW.trod_string ht h
  simp only [List.cons.injEq, and_true] at h1
  refine ⟨s.data.toList, by simpa using h1, ?_⟩
  have := hre s.data.toList.length (by simp [DataW.weights])
  simpa [reachBytes] using this
set_option maxRecDepth 100000 in
theorem open_ad {cs : List Value} {d : DataW H} {ps : List MemPlace} {n : Nat} (h : DataW.trod enc Tryz.prog W 0 (fun _ => true) true n 31 cs = some (d, ps)) (hre : ∀ n ∈ d.weights Tryz.prog 31, n ≤ reachBytes) :
    ∃ x : Ad, cs = x.cells ∧ AdOk x := by
  obtain ⟨xs, m, hcl, hxl, hfi⟩ := trod_structL adFields h
  rw [show Tryz.prog.cellsOf 31 = 5 by kernel_rfl] at hcl
  match cs, hcl with
  | [c0, c1, c2, c3, c4], _ =>
    obtain ⟨y0, t0, w0⟩ := hfi 0 _ _ rfl
    obtain ⟨y1, t1, w1⟩ := hfi 1 _ _ rfl
    obtain ⟨y2, t2, w2⟩ := hfi 2 _ _ rfl
    obtain ⟨y3, t3, w3⟩ := hfi 3 _ _ rfl
    obtain ⟨y4, t4, w4⟩ := hfi 4 _ _ rfl
    rw [show Tryz.prog.cellsOf 9 = 1 by kernel_rfl] at t0
    rw [show Tryz.prog.cellsOf 3 = 1 by kernel_rfl] at t1 t2 t3
    rw [show Tryz.prog.cellsOf 28 = 1 by kernel_rfl] at t4
    simp only [List.drop_succ_cons, List.drop_zero, List.take_succ_cons, List.take_zero] at t0 t1 t2 t3 t4
    obtain ⟨l0, rfl, h0⟩ := trod_str Tryz.underlying9 t0 (fun n hn => hre n (w0 n hn))
    obtain ⟨z1, rfl, a1, b1⟩ := trod_int_i64 Tryz.underlying3 t1
    obtain ⟨z2, rfl, a2, b2⟩ := trod_int_i64 Tryz.underlying3 t2
    obtain ⟨z3, rfl, a3, b3⟩ := trod_int_i64 Tryz.underlying3 t3
    obtain ⟨z4, rfl, b4⟩ := trod_int_nat 4294967296 Tryz.underlying28 (by decide) t4
    exact ⟨⟨l0, z1, z2, z3, z4⟩, rfl, h0, a1, b1, a2, b2, a3, b3, b4⟩
set_option maxRecDepth 100000 in
theorem open_ads {base : Nat} {v : Value} {d : DataW H} {ps : List MemPlace} (hval : Value.okWide Tryz.prog W .any base 27 v) (hd : DataW.Trod enc Tryz.prog W 0 (fun _ => true) true 27 v d ps) (hre : ∀ n ∈ d.weights Tryz.prog 27, n ≤ reachBytes) :
    ∃ (A : Option Addr) (c : Nat) (l : List Ad), v = .slice A l.length c ∧ AsRd W W.heap.size A c l.length l := by
  have ht := Tryz.underlying27
  obtain ⟨a1, len, cap, rfl⟩ := okWide_slice ht hval
  obtain ⟨fuel, hfu⟩ := hd
  obtain ⟨A, c, l, e, hc, hb, hr, hx⟩ := open_rowsG Ad.cells 5 Ad.cells_length (by omega) ht (by kernel_rfl) 48 (by kernel_rfl) AdOk (V := .slice a1 len cap) hfu hre (fun cs d ps n h1 h2 => open_ad h1 h2)
  exact ⟨A, c, l, e, hr, rfl, hc, by omega, hx⟩
end
end Go.Proofs.YtlipmlbijddopaaGreatDoor
set_option linter.unusedVariables false
set_option linter.unusedSimpArgs false
namespace Go.Proofs.YtlipmlbijddopaaGreatDoor
namespace Sv
/-- an answer in numbers -/
structure Sa where
  host : Nat
  pr : Nat
  we : Nat
  po : Nat
  ttl : Nat
  ot : Nat
def okS (s : Sa) : Prop := s.host < 256 ∧ s.pr < 256 ∧ s.we < 256 ∧ s.po < 65536 ∧ s.ttl < 4294967296 ∧ s.ot < 256
def svc : List (List UInt8) := [[95, 109, 101, 116, 114, 105, 99, 115], [95, 116, 99, 112], [101, 120, 97, 109, 112, 108, 101]]
def oth : List (List UInt8) := [[95, 111, 116, 104, 101, 114], [95, 116, 99, 112], [101, 120, 97, 109, 112, 108, 101]]
def svq : Qn := ⟨svc, 33, 1⟩
def hostOf (k : Nat) : List (List UInt8) := [[[110, 49], [101, 120, 97, 109, 112, 108, 101]], [[110, 50], [101, 120, 97, 109, 112, 108, 101]], [[97], [98, 45, 99]], [[120]]].getD (k % 4) []
def hostT (k : Nat) : List UInt8 := [[110, 49, 46, 101, 120, 97, 109, 112, 108, 101], [110, 50, 46, 101, 120, 97, 109, 112, 108, 101], [97, 46, 98, 45, 99], [120]].getD (k % 4) []
def port (s : Sa) : Nat := max s.po 1
def recS (s : Sa) : Rc := if s.ot % 8 = 1 then ⟨⟨oth, 33, 1⟩, s.ttl, [], s.pr, s.we, port s, hostOf s.host⟩ else if s.ot % 8 = 2 then ⟨⟨svc, 1, 1⟩, 0, [1, 2, 3, 4], 0, 0, 0, []⟩ else ⟨svq, s.ttl, [], s.pr, s.we, port s, hostOf s.host⟩
def sec (s : Sa) : Nat := if s.ot % 8 = 3 then 1 + s.host / 4 % 2 else 0
def isOut (s : Sa) : Bool := decide (s.ot % 8 ≠ 1 ∧ s.ot % 8 ≠ 2 ∧ s.ot % 8 ≠ 3)
def ad (s : Sa) : Ad := ⟨hostT s.host, (port s : Int), (s.pr : Int), (s.we : Int), s.ttl⟩
def add (m : Ms) (s : Sa) : Ms := if sec s = 0 then ⟨m.id, m.fl, m.qs, m.r0 ++ [recS s], m.r1, m.r2⟩ else if sec s = 1 then ⟨m.id, m.fl, m.qs, m.r0, m.r1 ++ [recS s], m.r2⟩ else ⟨m.id, m.fl, m.qs, m.r0, m.r1, m.r2 ++ [recS s]⟩
def ansK (id : Nat) (l : List Sa) : Ms := l.foldl add ⟨id, 32768, [svq], [], [], []⟩
def ansM (id : Nat) (l : List Sa) : Ms := ansK id (l.take 20)
def outK (l : List Sa) : List Ad := (l.filter isOut).map ad
def outM (l : List Sa) : List Ad := outK (l.take 20)
theorem ansK_snoc (id : Nat) (l : List Sa) (s : Sa) : ansK id (l ++ [s]) = add (ansK id l) s := by simp [ansK]
theorem outK_snoc (l : List Sa) (s : Sa) : outK (l ++ [s]) = outK l ++ if isOut s = true then [ad s] else [] := by
  unfold outK
  rw [List.filter_append, List.map_append]
  congr 1
  by_cases h : isOut s = true <;> simp [List.filter, h]
theorem sec_lt (s : Sa) : sec s < 3 := by
  unfold sec
  split <;> omega
theorem fold_add (l : List Sa) : ∀ m : Ms, l.foldl add m = ⟨m.id, m.fl, m.qs, m.r0 ++ (l.filter fun s => decide (sec s = 0)).map recS, m.r1 ++ (l.filter fun s => decide (sec s = 1)).map recS, m.r2 ++ (l.filter fun s => decide (sec s = 2)).map recS⟩ := by
  induction l with
  | nil => intro m; simp
  | cons a l ih =>
    intro m
    rw [List.foldl_cons, ih]
    have h := sec_lt a
    obtain h0 | h0 | h0 : sec a = 0 ∨ sec a = 1 ∨ sec a = 2 := by omega
    all_goals simp [add, h0, List.filter]
theorem ansK_is (id : Nat) (l : List Sa) : ansK id l = ⟨id, 32768, [svq], (l.filter fun s => decide (sec s = 0)).map recS, (l.filter fun s => decide (sec s = 1)).map recS, (l.filter fun s => decide (sec s = 2)).map recS⟩ := by
  unfold ansK
  rw [fold_add]; simp
theorem four (k : Nat) : k % 4 = 0 ∨ k % 4 = 1 ∨ k % 4 = 2 ∨ k % 4 = 3 := by omega
theorem host_right (k : Nat) : rightN (hostOf k) = true := by
  unfold hostOf
  rcases four k with h | h | h | h <;> rw [h] <;> kernel_rfl
theorem host_size (k : Nat) : (formN (hostOf k)).length ≤ 12 := by
  unfold hostOf
  rcases four k with h | h | h | h <;> rw [h] <;> decide
theorem host_hosts (k : Nat) : Srv.hostN (hostOf k) = true := by
  unfold hostOf
  rcases four k with h | h | h | h <;> rw [h] <;> kernel_rfl
theorem host_len (k : Nat) : (hostOf k).length ≠ 0 := by
  unfold hostOf
  rcases four k with h | h | h | h <;> rw [h] <;> decide
theorem host_text (k : Nat) : textR (hostOf k) = (hostT k, 0) := by
  unfold hostOf hostT
  rcases four k with h | h | h | h <;> rw [h] <;> kernel_rfl
theorem svc_right : rightN svc = true := by kernel_rfl
theorem oth_right : rightN oth = true := by kernel_rfl
theorem rec_right (s : Sa) : rightR (recS s) = true := by
  have h1 := host_right s.host
  unfold recS
  by_cases h : s.ot % 8 = 1
  · rw [if_pos h]; simp [rightR, oth_right, h1]
  · rw [if_neg h]
    by_cases h2 : s.ot % 8 = 2
    · rw [if_pos h2]; simp [rightR, svc_right]
    · rw [if_neg h2]; simp [rightR, svq, svc_right, h1]
theorem rec_ok {s : Sa} (h : okS s) : okR (recS s) := by
  obtain ⟨_, h1, h2, h3, h4, _⟩ := h
  have hp : port s < 65536 := by unfold port; omega
  unfold recS
  split
  · exact ⟨⟨show 33 < 65536 by decide, show 1 < 65536 by decide⟩, h4, by dsimp only; omega, by dsimp only; omega, hp⟩
  · split
    · exact ⟨⟨show 1 < 65536 by decide, show 1 < 65536 by decide⟩, show 0 < 4294967296 by decide, show 0 < 65536 by decide, show 0 < 65536 by decide, show 0 < 65536 by decide⟩
    · exact ⟨⟨show 33 < 65536 by decide, show 1 < 65536 by decide⟩, h4, by dsimp only; omega, by dsimp only; omega, hp⟩
theorem rec_short (s : Sa) : sizeN (recS s).q.nm ≤ 23 ∧ (dataR (recS s)).length ≤ 18 := by
  have h1 := host_size s.host
  have e1 : sizeN oth ≤ 23 := by decide
  have e2 : sizeN svc ≤ 23 := by decide
  unfold recS
  split
  · exact ⟨e1, by simp [dataR]; omega⟩
  · split
    · exact ⟨e2, by simp [dataR]⟩
    · exact ⟨e2, by simp [dataR, svq]; omega⟩
theorem ansM_fine {id : Nat} {l : List Sa} (hid : id < 65536) (hl : ∀ s ∈ l, okS s) : Fine (ansM id l) := by
  have hlen : (l.take 20).length ≤ 20 := by rw [List.length_take]; omega
  have hl2 : ∀ s ∈ l.take 20, okS s := fun s h => hl s (List.mem_of_mem_take h)
  unfold ansM
  obtain ⟨k, hk⟩ : ∃ k, k = l.take 20 := ⟨_, rfl⟩
  rw [← hk] at hlen hl2 ⊢
  clear hk hl
  rw [ansK_is]
  have hm : ∀ (p : Sa → Bool) r, r ∈ (k.filter p).map recS → ∃ s ∈ k, r = recS s := fun p r h => by
    obtain ⟨s, hs, rfl⟩ := List.mem_map.1 h
    exact ⟨s, (List.mem_filter.1 hs).1, rfl⟩
  have hsum : ((k.filter fun s => decide (sec s = 0)).map recS).length + ((k.filter fun s => decide (sec s = 1)).map recS).length + ((k.filter fun s => decide (sec s = 2)).map recS).length ≤ k.length := by
    simp only [List.length_map]
    clear hlen hl2 hm
    induction k with
    | nil => simp
    | cons a k ih =>
      have h := sec_lt a
      obtain h0 | h0 | h0 : sec a = 0 ∨ sec a = 1 ∨ sec a = 2 := by omega
      all_goals
        simp only [List.filter, h0]
        simp
        omega
  have hr : ∀ (p : Sa → Bool), ((k.filter p).map recS).all rightR = true := fun p => by
    rw [List.all_eq_true]
    intro r h
    obtain ⟨s, _, rfl⟩ := hm p r h
    exact rec_right s
  have ho : ∀ (p : Sa → Bool), ∀ r ∈ (k.filter p).map recS, okR r := fun p r h => by
    obtain ⟨s, hs, rfl⟩ := hm p r h
    exact rec_ok (hl2 s hs)
  have hd : ∀ (p : Sa → Bool), ∀ r ∈ (k.filter p).map recS, sizeN r.q.nm ≤ 23 ∧ (dataR r).length ≤ 18 := fun p r h => by
    obtain ⟨s, _, rfl⟩ := hm p r h
    exact rec_short s
  have hright : rightM ⟨id, 32768, [svq], (k.filter fun s => decide (sec s = 0)).map recS, (k.filter fun s => decide (sec s = 1)).map recS, (k.filter fun s => decide (sec s = 2)).map recS⟩ = true := by
    unfold rightM
    rw [hr, hr, hr]
    simp [svq, svc_right]
  refine ⟨hright, ⟨hid, show 32768 < 65536 by decide, fun q h => ?_, ho _, ho _, ho _⟩, ?_, ?_⟩
  · rw [List.mem_singleton] at h
    subst h
    exact ⟨by decide, by decide⟩
  · simp only [Ms.num, List.length_singleton]; omega
  · have := form_bound (q := svq) (N := 23) (D := 18) rfl hright (show sizeN svc ≤ 23 by decide) (hd _) (hd _) (hd _)
    dsimp only at this
    omega
theorem out_filter (s : Sa) : ((decide ((recS s).q.ty = 33) && (decide ((recS s).q.cl = 1) && decide ((recS s).q.nm = svc))) && decide (sec s = 0)) = isOut s := by
  have hne : ¬ oth = svc := by decide
  unfold recS sec isOut
  by_cases h1 : s.ot % 8 = 1
  · simp [h1, hne]
  · by_cases h2 : s.ot % 8 = 2
    · simp [h2]
    · by_cases h3 : s.ot % 8 = 3
      · simp [h3]
      · simp [h1, h2, h3, svq]
theorem answers_ans (id : Nat) (l : List Sa) : answersM (ansM id l) svc 33 = ((l.take 20).filter isOut).map recS := by
  unfold ansM answersM
  rw [ansK_is]
  dsimp only
  rw [List.filter_map, List.filter_filter]
  congr 1
  apply List.filter_congr
  intro s _
  exact out_filter s
theorem rec_out {s : Sa} (h : isOut s = true) : recS s = ⟨svq, s.ttl, [], s.pr, s.we, port s, hostOf s.host⟩ := by
  unfold isOut at h
  rw [decide_eq_true_eq] at h
  unfold recS
  rw [if_neg h.1, if_neg h.2.1]
theorem adR_out {s : Sa} (h : isOut s = true) : Srv.adR (recS s) = ad s := by
  rw [rec_out h]
  unfold Srv.adR ad
  dsimp only
  rw [host_text]
theorem add_out (l : List Sa) : Srv.addA ((l.filter isOut).map recS) = outK l := by
  unfold Srv.addA outK
  rw [List.filter_map, List.map_map]
  have h1 : (l.filter isOut).filter ((fun r => !Srv.rootR r) ∘ recS) = l.filter isOut := by
    rw [List.filter_eq_self]
    intro s hs
    have h := (List.mem_filter.1 hs).2
    simp only [Function.comp, rec_out h]
    have hl := host_len s.host
    simp only [Srv.rootR, decide_eq_false hl, Bool.not_false]
  rw [h1]
  apply List.map_congr_left
  intro s hs
  exact adR_out (List.mem_filter.1 hs).2
theorem ok_out (l : List Sa) : Srv.okA ((l.filter isOut).map recS) = true := by
  unfold Srv.okA
  rw [List.all_eq_true]
  intro r hr
  obtain ⟨s, hs, rfl⟩ := List.mem_map.1 hr
  rw [rec_out (List.mem_filter.1 hs).2]
  have hp : ¬ port s = 0 := by unfold port; omega
  simp [Srv.badR, hp, host_hosts]
/-- what is taken out of a reply that Answer makes -/
theorem take_ans {id : Nat} {l : List Sa} (hid : id < 65536) (hl : ∀ s ∈ l, okS s) : Srv.takeN (formM (Srv.askM id svc)) (formM (ansM id l)) = (Srv.onceA (Srv.sortA (outM l)), 0) := by
  rw [take_fine hid svc_right (ansM_fine hid hl)]
  have e := ansK_is id (l.take 20)
  rw [take_reply (id := id) (n := svc) (m := ansM id l) (by unfold ansM; rw [e]) (by unfold ansM; rw [e]; rfl) (by unfold ansM; rw [e]; show 32768 / 32768 % 2 = 1; decide)]
  have hf : (ansM id l).fl = 32768 := by unfold ansM; rw [e]
  rw [hf, answers_ans, ok_out, add_out]
  rfl
theorem ask_svc (id : Nat) (hid : id < 65536) : Srv.askN id [95, 109, 101, 116, 114, 105, 99, 115, 46, 95, 116, 99, 112, 46, 101, 120, 97, 109, 112, 108, 101] = (formM (Srv.askM id svc), 0) := by
  have h : rparse [95, 109, 101, 116, 114, 105, 99, 115, 46, 95, 116, 99, 112, 46, 101, 120, 97, 109, 112, 108, 101] = (svc, 0) := by kernel_rfl
  unfold Srv.askN
  rw [h, if_neg (by simp [svc])]
  exact (ask_fine hid svc_right).write
/-! ### turned round, and with others between -/
instance : Inhabited Sa := ⟨⟨0, 0, 0, 0, 0, 0⟩⟩
def zS : Sa := ⟨0, 0, 0, 0, 0, 0⟩
def othS (x : Sa) : Sa := ⟨x.host, x.pr, x.we, x.po, x.ttl, 1 + x.ot % 3⟩
theorem othS_out (x : Sa) : isOut (othS x) = false := by
  unfold isOut othS
  rw [decide_eq_false_iff_not]
  dsimp only
  omega
theorem othS_ok {x : Sa} (h : okS x) : okS (othS x) := by
  obtain ⟨h1, h2, h3, h4, h5, h6⟩ := h
  exact ⟨h1, h2, h3, h4, h5, by unfold othS; dsimp only; omega⟩
def oneT (l os : List Sa) (by_ i : Nat) : List Sa := l.getD ((i + by_) % l.length) zS :: (if os.length = 0 then [] else [othS (os.getD (i % os.length) zS)])
def turnK (l os : List Sa) (by_ k : Nat) : List Sa := (List.range k).flatMap (oneT l os by_)
theorem turnK_zero (l os : List Sa) (by_ : Nat) : turnK l os by_ 0 = [] := rfl
theorem turnK_succ (l os : List Sa) (by_ k : Nat) : turnK l os by_ (k + 1) = turnK l os by_ k ++ oneT l os by_ k := by
  unfold turnK
  rw [List.range_succ, List.flatMap_append]
  simp
theorem turnK_len (l os : List Sa) (by_ k : Nat) : (turnK l os by_ k).length ≤ 2 * k := by
  induction k with
  | zero => simp [turnK]
  | succ k ih =>
    rw [turnK_succ, List.length_append]
    have : (oneT l os by_ k).length ≤ 2 := by unfold oneT; split <;> simp
    omega
theorem outK_turn (l os : List Sa) (by_ k : Nat) : outK (turnK l os by_ k) = outK ((List.range k).map fun i => l.getD ((i + by_) % l.length) zS) := by
  induction k with
  | zero => rfl
  | succ k ih =>
    rw [turnK_succ, List.range_succ, List.map_append, List.map_singleton, outK_snoc, ← ih]
    unfold oneT
    by_cases h : os.length = 0
    · rw [if_pos h, outK_snoc]
    · rw [if_neg h, show ∀ (a b : Sa), ([a, b] : List Sa) = [a] ++ [b] from fun _ _ => rfl, ← List.append_assoc, outK_snoc, outK_snoc, othS_out]
      simp
theorem round_is (l : List Sa) (by_ : Nat) : ((List.range l.length).map fun i => l.getD ((i + by_) % l.length) zS) = l.drop (by_ % l.length) ++ l.take (by_ % l.length) := by
  rcases Nat.eq_zero_or_pos l.length with h0 | h0
  · have : l = [] := List.eq_nil_of_length_eq_zero h0
    subst this; simp
  · have hk := Nat.mod_lt by_ h0
    apply List.ext_getElem
    · rw [List.length_map, List.length_range, List.length_append, List.length_drop, List.length_take]; omega
    · intro i h1 h2
      have hi : i < l.length := by simpa using h1
      rw [List.getElem_map, List.getElem_range]
      have hm : (i + by_) % l.length < l.length := Nat.mod_lt _ h0
      rw [List.getD_eq_getElem?_getD, List.getElem?_eq_getElem hm]
      simp only [Option.getD_some]
      have hadd : (i + by_) % l.length = (i + by_ % l.length) % l.length := by simp
      rcases Nat.lt_or_ge (i + by_ % l.length) l.length with h | h
      · have e : (i + by_) % l.length = by_ % l.length + i := by rw [hadd, Nat.mod_eq_of_lt h]; omega
        rw [List.getElem_append_left (by rw [List.length_drop]; omega), List.getElem_drop]
        simp only [e]
      · have e : (i + by_) % l.length = i - (l.length - by_ % l.length) := by
          rw [hadd, Nat.mod_eq_sub_mod h, Nat.mod_eq_of_lt (by omega)]; omega
        rw [List.getElem_append_right (by rw [List.length_drop]; omega), List.getElem_take]
        simp only [e, List.length_drop]
theorem outK_perm {l k : List Sa} (h : l.Perm k) : (outK l).Perm (outK k) := (h.filter isOut).map ad
/-- turned round, what is taken is the same -/
theorem turn_same (l os : List Sa) (by_ : Nat) (hl : l.length ≤ 10) : Srv.sortA (outM (turnK l os by_ l.length)) = Srv.sortA (outM l) := by
  have h1 := turnK_len l os by_ l.length
  unfold outM
  rw [List.take_of_length_le (by omega), List.take_of_length_le (by omega), outK_turn, round_is]
  refine Srv.sortA_congr (outK_perm ?_)
  have h2 : (l.drop (by_ % l.length) ++ l.take (by_ % l.length)).Perm (l.take (by_ % l.length) ++ l.drop (by_ % l.length)) := List.perm_append_comm
  rwa [List.take_append_drop] at h2
theorem turn_ok {l os : List Sa} (by_ : Nat) (hl : ∀ s ∈ l, okS s) (ho : ∀ s ∈ os, okS s) (k : Nat) : ∀ s ∈ turnK l os by_ k, okS s := by
  have hz : okS zS := ⟨by decide, by decide, by decide, by decide, by decide, by decide⟩
  have hg : ∀ (m : List Sa) (i : Nat), (∀ s ∈ m, okS s) → okS (m.getD i zS) := fun m i hm => by
    rw [List.getD_eq_getElem?_getD]
    rcases Nat.lt_or_ge i m.length with h | h
    · rw [List.getElem?_eq_getElem h]; exact hm _ (List.getElem_mem h)
    · rw [List.getElem?_eq_none h]; exact hz
  intro s hs
  obtain ⟨i, _, h⟩ := List.mem_flatMap.1 hs
  unfold oneT at h
  rcases List.mem_cons.1 h with rfl | h
  · exact hg l _ hl
  · split at h
    · cases h
    · rw [List.mem_singleton] at h
      subst h
      exact othS_ok (hg os _ ho)
/-! ### replies that are wrong -/
def badTg (port_ : Bool) : List (List UInt8) := if port_ = true then [[110, 49]] else [[110, 49], [101, 120, 32, 97, 109, 112, 108, 101]]
def badR (port_ : Bool) : Rc := ⟨svq, 0, [], 0, 0, if port_ = true then 0 else 1, badTg port_⟩
def wrongM (fl : Nat) (l : List Sa) (port_ where_ : Bool) : Ms := ⟨9, fl, [svq], if where_ = true then badR port_ :: (ansM 9 l).r0 else (ansM 9 l).r0 ++ [badR port_], (ansM 9 l).r1, (ansM 9 l).r2⟩
def wrongF (code : Nat) (cut : Bool) : Nat := 32768 + code % 16 + if cut = true then 512 else 0
def wrongE (code : Nat) (cut : Bool) : Nat := if cut = true then 183 else if code % 16 ≠ 0 then 184 else 185
theorem bad_right (p : Bool) : rightR (badR p) = true := by cases p <;> kernel_rfl
theorem bad_ok (p : Bool) : okR (badR p) := by
  cases p <;> exact ⟨⟨show 33 < 65536 by decide, show 1 < 65536 by decide⟩, show 0 < 4294967296 by decide, show 0 < 65536 by decide, show 0 < 65536 by decide, by decide⟩
theorem bad_short (p : Bool) : sizeN (badR p).q.nm ≤ 23 ∧ (dataR (badR p)).length ≤ 20 := by
  refine ⟨show sizeN svc ≤ 23 by decide, ?_⟩
  cases p <;> decide
theorem bad_bad (p : Bool) : Srv.rootR (badR p) = false ∧ Srv.badR (badR p) = true := by cases p <;> exact ⟨by kernel_rfl, by kernel_rfl⟩
theorem mem_wrong {l : List Rc} {r x : Rc} {wh : Bool} (h : x ∈ if wh = true then r :: l else l ++ [r]) : x = r ∨ x ∈ l := by
  cases wh
  · rw [if_neg (by simp)] at h
    rcases List.mem_append.1 h with h | h
    · exact .inr h
    · rw [List.mem_singleton] at h; exact .inl h
  · rw [if_pos rfl] at h
    rcases List.mem_cons.1 h with h | h
    · exact .inl h
    · exact .inr h
theorem wrong_fine {l : List Sa} (hl : ∀ s ∈ l, okS s) (fl : Nat) (hf : fl < 65536) (p wh : Bool) : Fine (wrongM fl l p wh) := by
  have hfi := ansM_fine (id := 9) (by omega) hl
  obtain ⟨a0, a1, a2, a3⟩ := rightM_q hfi.right
  have hk := hfi.ok
  have hlen : (ansM 9 l).r0.length + (ansM 9 l).r1.length + (ansM 9 l).r2.length ≤ 20 := by
    unfold ansM
    rw [ansK_is]
    simp only [List.length_map]
    have h20 : (l.take 20).length ≤ 20 := by rw [List.length_take]; omega
    refine Nat.le_trans ?_ h20
    generalize l.take 20 = k
    induction k with
    | nil => simp
    | cons a k ih =>
      have h := sec_lt a
      obtain h0 | h0 | h0 : sec a = 0 ∨ sec a = 1 ∨ sec a = 2 := by omega
      all_goals
        simp only [List.filter, h0]
        simp
        omega
  have hd : ∀ r, (r ∈ (ansM 9 l).r0 ∨ r ∈ (ansM 9 l).r1 ∨ r ∈ (ansM 9 l).r2) → sizeN r.q.nm ≤ 23 ∧ (dataR r).length ≤ 20 := fun r h => by
    unfold ansM at h
    rw [ansK_is] at h
    dsimp only at h
    have : ∃ s, r = recS s := by
      rcases h with h | h | h
      all_goals
        obtain ⟨s, _, rfl⟩ := List.mem_map.1 h
        exact ⟨s, rfl⟩
    obtain ⟨s, rfl⟩ := this
    have := rec_short s
    exact ⟨this.1, by omega⟩
  have hwl : (wrongM fl l p wh).r0.length = (ansM 9 l).r0.length + 1 := by unfold wrongM; cases wh <;> simp
  have hright : rightM (wrongM fl l p wh) = true := by
    unfold rightM
    rw [Bool.and_eq_true, Bool.and_eq_true, Bool.and_eq_true]
    refine ⟨by simp [wrongM, svq, svc_right], List.all_eq_true.2 fun r h => ?_, List.all_eq_true.2 a2, List.all_eq_true.2 a3⟩
    rcases mem_wrong h with rfl | h
    · exact bad_right p
    · exact a1 r h
  refine ⟨hright, ⟨show 9 < 65536 by decide, hf, fun q h => ?_, fun r h => ?_, hk.r1, hk.r2⟩, ?_, ?_⟩
  · simp only [wrongM, List.mem_singleton] at h
    subst h
    exact ⟨show 33 < 65536 by decide, show 1 < 65536 by decide⟩
  · rcases mem_wrong h with rfl | h
    · exact bad_ok p
    · exact hk.r0 r h
  · show (1 + (wrongM fl l p wh).r0.length + (ansM 9 l).r1.length + (ansM 9 l).r2.length) ≤ 256
    omega
  · have := form_bound (m := wrongM fl l p wh) (q := svq) (N := 23) (D := 20) rfl hright (show sizeN svc ≤ 23 by decide) (fun r h => by
      rcases mem_wrong h with rfl | h
      · exact bad_short p
      · exact hd r (.inl h)) (fun r h => hd r (.inr (.inl h))) (fun r h => hd r (.inr (.inr h)))
    have e1 : (wrongM fl l p wh).r1 = (ansM 9 l).r1 := rfl
    have e2 : (wrongM fl l p wh).r2 = (ansM 9 l).r2 := rfl
    rw [e1, e2] at this
    omega
theorem take_wrong {l : List Sa} (hl : ∀ s ∈ l, okS s) (code : Nat) (cut p wh : Bool) : Srv.takeN (formM (Srv.askM 9 svc)) (formM (wrongM (wrongF code cut) l p wh)) = ([], wrongE code cut) := by
  have hf : wrongF code cut < 65536 := by unfold wrongF; split <;> omega
  rw [take_fine (by omega) svc_right (wrong_fine hl _ hf p wh)]
  have e0 : (wrongM (wrongF code cut) l p wh).fl = wrongF code cut := rfl
  rw [take_reply (id := 9) (n := svc) rfl rfl (by rw [e0]; unfold wrongF; split <;> omega), e0]
  have hin : badR p ∈ answersM (wrongM (wrongF code cut) l p wh) svc 33 := by
    unfold answersM
    refine List.mem_filter.2 ⟨?_, by simp [badR, svq]⟩
    unfold wrongM
    cases wh <;> simp
  have hok : Srv.okA (answersM (wrongM (wrongF code cut) l p wh) svc 33) = false := okA_bad hin (bad_bad p).1 (bad_bad p).2
  rw [hok]
  unfold wrongE
  cases cut
  · have h1 : ¬ wrongF code false / 512 % 2 = 1 := by unfold wrongF; rw [if_neg (by simp)]; omega
    have h2 : wrongF code false % 16 = code % 16 := by unfold wrongF; rw [if_neg (by simp)]; omega
    rw [if_neg h1, h2]
    by_cases h3 : code % 16 = 0
    · rw [if_neg (by omega), if_pos rfl, if_neg (by simp), if_neg (by omega)]
    · rw [if_pos h3, if_neg (by simp), if_pos h3]
  · have h1 : wrongF code true / 512 % 2 = 1 := by unfold wrongF; rw [if_pos rfl]; omega
    rw [if_pos h1, if_pos rfl]
theorem take_nil (r : List UInt8) : Srv.takeN [] r = ([], 181) := by
  unfold Srv.takeN
  rw [if_pos]
  kernel_rfl
theorem ask_root : Srv.askN 9 [46] = ([], 180) := by
  have h : (rparse [46]).2 ≠ 0 ∨ (rparse [46]).1.length = 0 := .inr (by kernel_rfl)
  unfold Srv.askN
  rw [if_pos h]
theorem ask_dots : Srv.askN 9 [97, 46, 46, 98] = ([], 180) := by
  have h : (rparse [97, 46, 46, 98]).2 ≠ 0 ∨ (rparse [97, 46, 46, 98]).1.length = 0 := .inl (by decide)
  unfold Srv.askN
  rw [if_pos h]
theorem take_short {r : List UInt8} (h : r.length < 12) : Srv.takeN (formM (Srv.askM 9 svc)) r = ([], 171) := by
  have ha : Srv.askedB (formM (Srv.askM 9 svc)) = true := by
    unfold Srv.askedB
    rw [(ask_fine (id := 9) (by omega) svc_right).read]
    simp [asked_ask]
  have hr : (readM r).2 = 171 := by unfold readM; rw [if_neg (by omega), if_pos h]
  unfold Srv.takeN
  rw [if_neg (by rw [ha]; simp), if_pos (by rw [hr]; omega), hr]
end Sv
end Go.Proofs.YtlipmlbijddopaaGreatDoor
set_option linter.unusedVariables false
set_option linter.unusedSimpArgs false
namespace Go.Proofs.YtlipmlbijddopaaGreatDoor
open Go.RowKit
namespace Sv
def Apt (u v : Value) : Prop := ∀ q, u.ownBlock = some q → v.ownBlock ≠ some q
theorem Apt.symm {u v : Value} (h : Apt u v) : Apt v u := fun q h1 h2 => h q h2 h1
theorem Apt.gr {w w' : World} {u v v' : Value} (h : Apt v u) (hg : Gr w w' v v') (hu : ∀ q, u.ownBlock = some q → q < w.heap.size) : Apt v' u := by
  intro q h1 h2
  rcases hg.2 q h1 with h3 | h3
  · exact h q h3 h2
  · have := hu q h2; omega
def updF {α : Type} (f : Nat → α) (i : Nat) (a : α) : Nat → α := fun j => if j = i then a else f j
@[simp] theorem updF_same {α : Type} (f : Nat → α) (i : Nat) (a : α) : updF f i a i = a := by simp [updF]
theorem updF_ne {α : Type} (f : Nat → α) {i j : Nat} (a : α) (h : j ≠ i) : updF f i a j = f j := by simp [updF, h]
theorem ownM_setNe {w : World} {base g s n : Nat} {e : TypeId} {v : Value} {xs : List Value} (h : OwM w base e s v n xs) (hne : v.ownBlock ≠ some g) (k : Nat) (u : Value) : OwM (w.setCell ⟨g, k, none⟩ u) base e s v n xs :=
  World.ownsRow.kept h (grownBy_set w g k u) (.inr hne)
/-- four rows behind M, apart from each other and from finished slices -/
structure Fm (w : World) (M b : Nat) (R : Nat → Ob) (D : Ob → Prop) : Prop where
  ok : ∀ i, i < 4 → (R i).ok w (M + 1)
  dn : ∀ o, D o → o.ok w b
  dm : ∀ o, D o → o.v.ownBlock ≠ some M
  ap : ∀ i j, i < 4 → j < 4 → i ≠ j → Apt (R i).v (R j).v
  ne : ∀ i, i < 4 → ∀ o, D o → Apt (R i).v o.v
section
variable {w w' : World} {M b : Nat} {R R2 : Nat → Ob} {D D2 : Ob → Prop}
theorem Fm.only {g : Nat} (h : Fm w M b R D) (hO : Only w w' g) (hg : g < b) (hM : g < M + 1) : Fm w' M b R D := ⟨fun i hi => (h.ok i hi).only hO hM, fun o ho => (h.dn o ho).only hO hg, h.dm, h.ap, h.ne⟩
theorem Fm.far (h : Fm w M b R D) (hb : Below w.heap.size w w') : Fm w' M b R D := ⟨fun i hi => (h.ok i hi).far hb, fun o ho => (h.dn o ho).far hb, h.dm, h.ap, h.ne⟩
theorem Fm.setM (h : Fm w M b R D) (k : Nat) (u : Value) : Fm (w.setCell ⟨M, k, none⟩ u) M b R D := ⟨fun i hi => OwM.setL (h.ok i hi) (Nat.lt_succ_self M) k u, fun o ho => ownM_setNe (h.dn o ho) (h.dm o ho) k u, h.dm, h.ap, h.ne⟩
theorem Fm.more (h : Fm w M b R D) (hn : ∀ o, D2 o → D o ∨ (o.ok w b ∧ o.v.ownBlock ≠ some M ∧ ∀ i, i < 4 → Apt (R i).v o.v)) : Fm w M b R D2 :=
  ⟨h.ok, fun o ho => (hn o ho).elim (h.dn o) (fun x => x.1), fun o ho => (hn o ho).elim (h.dm o) (fun x => x.2.1), h.ap, fun i hi o ho => (hn o ho).elim (h.ne i hi o) (fun x => x.2.2 i hi)⟩
theorem Fm.fresh (h : Fm w M b R D) (hb : Below w.heap.size w w') {o : Ob} (ho : o.ok w' w.heap.size) (hM : M < w.heap.size) (hB : b ≤ w.heap.size) : o.ok w' b ∧ o.v.ownBlock ≠ some M ∧ ∀ i, i < 4 → Apt (R i).v o.v :=
  ⟨OwM.mono ho hB, fun e => by have := OwM.lt ho M e; omega, fun i hi q h1 h2 => by
    have h3 := OwM.block_lt (h.ok i hi) q h1
    have h4 := OwM.lt ho q h2
    omega⟩
theorem Fm.noBlock {o : Ob} (ho : o.ok w b) (hn : o.v.ownBlock = none) : o.ok w b ∧ o.v.ownBlock ≠ some M ∧ ∀ i, i < 4 → Apt (R i).v o.v :=
  ⟨ho, by rw [hn]; simp, fun i _ q _ h2 => by rw [hn] at h2; cases h2⟩
theorem Fm.app (h : Fm w M b R D) (i : Nat) (hi : i < 4) (o : Ob) (hg : Gr w w' (R i).v o.v) (ho : o.ok w' (M + 1)) : Fm w' M b (updF R i o) D := by
  refine ⟨fun j hj => ?_, fun x hx => OwM.kept (h.dn x hx) hg ((h.ne i hi x hx).symm), h.dm, fun j k hj hk hjk => ?_, fun j hj x hx => ?_⟩
  · by_cases e : j = i
    · subst e; rw [updF_same]; exact ho
    · rw [updF_ne _ _ e]; exact OwM.kept (h.ok j hj) hg (h.ap j i hj hi e)
  · by_cases e : j = i
    · subst e
      rw [updF_same, updF_ne _ _ (Ne.symm hjk)]
      exact (h.ap j k hj hk hjk).gr hg (OwM.block_lt (h.ok k hk))
    · by_cases e2 : k = i
      · subst e2
        rw [updF_same, updF_ne _ _ hjk]
        exact ((h.ap k j hk hj (Ne.symm hjk)).gr hg (OwM.block_lt (h.ok j hj))).symm
      · rw [updF_ne _ _ e, updF_ne _ _ e2]; exact h.ap j k hj hk hjk
  · by_cases e : j = i
    · subst e; rw [updF_same]; exact (h.ne j hj x hx).gr hg (OwM.block_lt (h.dn x hx))
    · rw [updF_ne _ _ e]; exact h.ne j hj x hx
theorem Fm.mono (h : Fm w M b R D) (hR : ∀ i, i < 4 → R2 i = R i) (hs : ∀ o, D2 o → D o) : Fm w M b R2 D2 :=
  ⟨fun i hi => by rw [hR i hi]; exact h.ok i hi, fun o ho => h.dn o (hs o ho), fun o ho => h.dm o (hs o ho), fun i j hi hj hij => by rw [hR i hi, hR j hj]; exact h.ap i j hi hj hij, fun i hi o ho => by rw [hR i hi]; exact h.ne i hi o (hs o ho)⟩
end
/-- records 0 to 2, and the addresses -/
def rowA (Ao : Option Addr) (co : Nat) (lo : List Ad) (rs : Nat → RW) : Nat → Ob := fun i => if i = 3 then ⟨31, 5, .slice Ao lo.length co, lo.length, acs lo⟩ else rwR (rs i).A (rs i).c (rs i).l
def DA (Aq : Option Addr) (cq : Nat) (lq : List QR) (rs : Nat → RW) : Ob → Prop := fun o => o = rwQ Aq cq lq ∨ DQ lq o ∨ ∃ i, i < 3 ∧ DR (rs i).l o
def nilR : Nat → RW := fun _ => ⟨none, 0, []⟩
def mrowA (id : Nat) (Aq : Option Addr) (cq : Nat) (lq : List QR) (rs : Nat → RW) : List Value := [.int .u16 (id : Int), .int .u16 32768, .slice Aq lq.length cq, (rs 0).v, (rs 1).v, (rs 2).v]
theorem mrowA_get (id : Nat) (Aq : Option Addr) (cq : Nat) (lq : List QR) (rs : Nat → RW) (i : Nat) (hi : i < 3) : (mrowA id Aq cq lq rs)[3 + i]? = some (.slice (rs i).A (rs i).l.length (rs i).c) := by
  rcases (show i = 0 ∨ i = 1 ∨ i = 2 by omega) with rfl | rfl | rfl <;> rfl
theorem mrowA_set (id : Nat) (Aq : Option Addr) (cq : Nat) (lq : List QR) (rs : Nat → RW) (i : Nat) (hi : i < 3) (r : RW) : (mrowA id Aq cq lq rs).set (3 + i) r.v = mrowA id Aq cq lq (updF rs i r) := by
  rcases (show i = 0 ∨ i = 1 ∨ i = 2 by omega) with rfl | rfl | rfl <;> simp [mrowA, updF]
def msOf (id : Nat) (f : Nat → List Rc) : Ms := ⟨id, 32768, [svq], f 0, f 1, f 2⟩
theorem add_r (id : Nat) (f : Nat → List Rc) (s : Sa) : add (msOf id f) s = msOf id (updF f (sec s) (f (sec s) ++ [recS s])) := by
  have h := sec_lt s
  rcases (show sec s = 0 ∨ sec s = 1 ∨ sec s = 2 by omega) with e | e | e <;> simp [add, e, msOf, updF]
/-- the message and the addresses that are being made -/
structure AMem (w0 w : World) (M id kr ko : Nat) (Aq : Option Addr) (cq : Nat) (lq : List QR) (rs : Nat → RW) (Ao : Option Addr) (co : Nat) (lo : List Ad) (E : Ob → Prop) : Prop where
  bl : Below w0.heap.size w0 w
  vr : Vx w w0.heap.size 72 zM6
  vg : Vx w (w0.heap.size + 2) 76 [.slice (some ⟨w0.heap.size + 1, 0, none⟩) 3 3, .int .u16 33, .int .u16 1]
  vm : Vx w M 72 (mrowA id Aq cq lq rs)
  fam : Fm w M (w0.heap.size + 1) (rowA Ao co lo rs) (fun o => E o ∨ DA Aq cq lq rs o)
  lr : ∀ i, (rs i).l.length ≤ kr
  ll : lo.length ≤ ko
  lt : w0.heap.size + 2 < M ∧ M < w.heap.size
section
variable {w0 w w' : World} {M id kr ko : Nat} {Aq : Option Addr} {cq : Nat} {lq : List QR} {rs : Nat → RW} {Ao : Option Addr} {co : Nat} {lo : List Ad} {E : Ob → Prop}
theorem AMem.far (h : AMem w0 w M id kr ko Aq cq lq rs Ao co lo E) (hb : Below w.heap.size w w') : AMem w0 w' M id kr ko Aq cq lq rs Ao co lo E :=
  ⟨h.bl.trans (hb.mono h.bl.size), h.vr.below hb h.vr.lt, h.vg.below hb h.vg.lt, h.vm.below hb h.vm.lt, h.fam.far hb, h.lr, h.ll, h.lt.1, Nat.lt_of_lt_of_le h.lt.2 hb.size⟩
theorem AMem.wide {kr' ko' : Nat} (h : AMem w0 w M id kr ko Aq cq lq rs Ao co lo E) (h1 : kr ≤ kr') (h2 : ko ≤ ko') : AMem w0 w M id kr' ko' Aq cq lq rs Ao co lo E :=
  ⟨h.bl, h.vr, h.vg, h.vm, h.fam, fun i => Nat.le_trans (h.lr i) h1, Nat.le_trans h.ll h2, h.lt⟩
theorem AMem.okR (h : AMem w0 w M id kr ko Aq cq lq rs Ao co lo E) (i : Nat) (hi : i < 3) : OwM w (M + 1) 88 9 (.slice (rs i).A (rs i).l.length (rs i).c) (rs i).l.length (rcs (rs i).l) := by
  have := h.fam.ok i (by omega)
  unfold rowA at this
  rw [if_neg (by omega)] at this
  exact this
theorem AMem.okO (h : AMem w0 w M id kr ko Aq cq lq rs Ao co lo E) : OwM w (M + 1) 31 5 (.slice Ao lo.length co) lo.length (acs lo) := h.fam.ok 3 (by omega)
theorem AMem.cellR (h : AMem w0 w M id kr ko Aq cq lq rs Ao co lo E) (i : Nat) (hi : i < 3) : w.cell? ⟨M, 3 + i, none⟩ = some (.slice (rs i).A (rs i).l.length (rs i).c) := by
  rw [h.vm.cell]; exact mrowA_get _ _ _ _ _ _ hi
/-- an address more -/
theorem AMem.addO (h : AMem w0 w M id kr ko Aq cq lq rs Ao co lo E) {w1 w2 : World} (a : Ad) (hb : Below w.heap.size w w1)
    {A2 : Option Addr} {c2 : Nat} (hg : Gr w1 w2 (.slice Ao lo.length co) (.slice A2 (lo.length + 1) c2)) (hO : OwM w2 (M + 1) 31 5 (.slice A2 (lo.length + 1) c2) (lo.length + 1) (acs lo ++ a.cells)) :
    AMem w0 w2 M id kr (ko + 1) Aq cq lq rs A2 c2 (lo ++ [a]) E := by
  have hlo := h.lt
  have h1 := h.far hb
  have hv : ∀ g, (Value.slice Ao lo.length co).ownBlock = some g → M + 1 ≤ g := OwM.lt h.okO
  have hbl2 : Below (M + 1) w1 w2 := hg.below hv h1.lt.2
  have hF := h1.fam.app 3 (by omega) ⟨31, 5, .slice A2 (lo ++ [a]).length c2, (lo ++ [a]).length, acs (lo ++ [a])⟩ (by
      show Gr w1 w2 (.slice Ao lo.length co) (.slice A2 (lo ++ [a]).length c2)
      rw [List.length_append]; exact hg) (by
      unfold Ob.ok
      simp only
      rw [List.length_append, acs_snoc]
      exact hO)
  refine ⟨h1.bl.trans (hbl2.mono (by omega)), h1.vr.below hbl2 (by omega), h1.vg.below hbl2 (by omega), h1.vm.below hbl2 (by omega), hF.mono (fun i hi => ?_) (fun o ho => ho), h1.lr, by simp; exact h.ll, hlo.1, Nat.lt_of_lt_of_le h1.lt.2 hbl2.size⟩
  by_cases e : i = 3
  · subst e; rw [updF_same]; simp [rowA]
  · rw [updF_ne _ _ e]; simp [rowA, e]
/-- a record more -/
theorem AMem.addR {x : RR} (h : AMem w0 w M id kr ko Aq cq lq rs Ao co lo (DR [x])) {w1 w2 : World} {i : Nat} (hi : i < 3) (hb : Below w.heap.size w w1)
    {A2 : Option Addr} {c2 : Nat} (hg : Gr w1 w2 (.slice (rs i).A (rs i).l.length (rs i).c) (.slice A2 ((rs i).l.length + 1) c2)) (hO : OwM w2 (M + 1) 88 9 (.slice A2 ((rs i).l.length + 1) c2) ((rs i).l.length + 1) (rcs (rs i).l ++ x.cells)) :
    AMem w0 (w2.setCell ⟨M, 3 + i, none⟩ (.slice A2 ((rs i).l.length + 1) c2)) M id (kr + 1) ko Aq cq lq (updF rs i ⟨A2, c2, (rs i).l ++ [x]⟩) Ao co lo (fun _ => False) := by
  have hlo := h.lt
  have h1 := h.far hb
  have hF := h1.fam
  have hri : ∀ j, j < 3 → rowA Ao co lo rs j = rwR (rs j).A (rs j).c (rs j).l := fun j hj => by unfold rowA; rw [if_neg (by omega)]
  have hv : ∀ g, (Value.slice (rs i).A (rs i).l.length (rs i).c).ownBlock = some g → M + 1 ≤ g := OwM.lt (h.okR i hi)
  have hbl2 : Below (M + 1) w1 w2 := hg.below hv h1.lt.2
  have hF2 := hF.app i (by omega) (rwR A2 c2 ((rs i).l ++ [x])) (by
      rw [hri i hi]
      show Gr w1 w2 (.slice (rs i).A (rs i).l.length (rs i).c) (.slice A2 ((rs i).l ++ [x]).length c2)
      rw [List.length_append]; exact hg) (by
      unfold Ob.ok rwR
      simp only
      rw [List.length_append, rcs_snoc]
      exact hO)
  refine ⟨?_, ?_, ?_, ?_, ?_, fun j => ?_, h.ll, hlo.1, ?_⟩
  · exact (h1.bl.trans (hbl2.mono (by omega))).setCell (by show w0.heap.size ≤ M; omega) _
  · exact (h1.vr.below hbl2 (by omega)).setO (by omega) _ _
  · exact (h1.vg.below hbl2 (by omega)).setO (by omega) _ _
  · have := (h1.vm.below hbl2 (by omega)).set_ (3 + i) (.slice A2 ((rs i).l.length + 1) c2)
    have e := mrowA_set id Aq cq lq rs i hi ⟨A2, c2, (rs i).l ++ [x]⟩
    unfold RW.v at e
    simp only [List.length_append, List.length_cons, List.length_nil, Nat.zero_add] at e
    rw [← e]
    exact this
  · refine (hF2.setM (3 + i) _).mono (fun j hj => ?_) (fun o ho => ?_)
    · unfold rowA
      by_cases e : j = i
      · subst e; rw [updF_same, updF_same, if_neg (by omega)]
      · rw [updF_ne _ _ e, updF_ne _ _ e]
    · rcases ho with ho | ho | ho | ⟨j, hj, ho⟩
      · exact ho.elim
      · exact .inr (.inl ho)
      · exact .inr (.inr (.inl ho))
      · by_cases e : j = i
        · subst e
          rw [updF_same] at ho
          obtain ⟨y, hy, e⟩ := ho
          rcases List.mem_append.1 hy with hy | hy
          · exact .inr (.inr (.inr ⟨j, hj, y, hy, e⟩))
          · exact .inl ⟨y, hy, e⟩
        · rw [updF_ne _ _ e] at ho
          exact .inr (.inr (.inr ⟨j, hj, ho⟩))
  · by_cases e : j = i
    · subst e; rw [updF_same]; simp; exact h.lr j
    · rw [updF_ne _ _ e]; exact Nat.le_succ_of_le (h.lr j)
  · show M < (w2.setCell _ _).heap.size
    have := hg.1.size
    have := h1.lt.2
    simp; omega
end
theorem AMem.withE {w0 w w' : World} {M id kr ko : Nat} {Aq : Option Addr} {cq : Nat} {lq : List QR} {rs : Nat → RW} {Ao : Option Addr} {co : Nat} {lo : List Ad} {E : Ob → Prop} (h : AMem w0 w M id kr ko Aq cq lq rs Ao co lo E) (hb : Below w.heap.size w w') (x : RR)
    (h1 : DA Aq cq lq rs (nmO x.A x.c x.r.q.nm) ∨ (nmO x.A x.c x.r.q.nm).ok w' w.heap.size) (h2 : (daO x.dA x.dc x.r.d).ok w' w.heap.size) (h3 : (nmO x.tA x.tc x.r.tg).ok w' w.heap.size) :
    AMem w0 w' M id kr ko Aq cq lq rs Ao co lo (DR [x]) := by
  have h0 := h.far hb
  have hM := h.lt
  have fr : ∀ o : Ob, o.ok w' w.heap.size → o.ok w' (w0.heap.size + 1) ∧ o.v.ownBlock ≠ some M ∧ ∀ i, i < 4 → Apt (rowA Ao co lo rs i).v o.v := fun o ho => Fm.fresh h.fam hb ho hM.2 (by omega)
  refine ⟨h0.bl, h0.vr, h0.vg, h0.vm, h0.fam.more (fun o ho => ?_), h0.lr, h0.ll, h0.lt⟩
  rcases ho with ⟨y, hy, ho⟩ | ho
  · rw [List.mem_singleton] at hy
    subst hy
    rcases ho with rfl | rfl | rfl
    · exact h1.elim (fun a => .inl (.inr a)) (fun a => .inr (fr _ a))
    · exact .inr (fr _ h2)
    · exact .inr (fr _ h3)
  · exact .inl (.inr ho)
theorem Fm.mow {w : World} {M b base id fl : Nat} {Aq : Option Addr} {cq : Nat} {lq : List QR} {rs : Nat → RW} {R : Nat → Ob} (h : Fm w M b R (DA Aq cq lq rs)) (hR : ∀ i, i < 3 → R i = rwR (rs i).A (rs i).c (rs i).l) (hb : base ≤ b) (hM : base ≤ M) :
    MOw w base ⟨id, fl, Aq, cq, lq, (rs 0).A, (rs 0).c, (rs 0).l, (rs 1).A, (rs 1).c, (rs 1).l, (rs 2).A, (rs 2).c, (rs 2).l⟩ := by
  have ok : ∀ o, DA Aq cq lq rs o → o.ok w base := fun o ho => OwM.mono (h.dn o ho) hb
  have rk : ∀ i, i < 3 → (rwR (rs i).A (rs i).c (rs i).l).ok w base := fun i hi => by
    have := h.ok i (by omega)
    rw [hR i hi] at this
    exact OwM.mono this (by omega)
  exact ⟨ok _ (.inl rfl), rk 0 (by omega), rk 1 (by omega), rk 2 (by omega), fun o ho => ok o (.inr (.inl ho)), fun o ho => ok o (.inr (.inr ⟨0, by omega, ho⟩)), fun o ho => ok o (.inr (.inr ⟨1, by omega, ho⟩)), fun o ho => ok o (.inr (.inr ⟨2, by omega, ho⟩))⟩
/-- where the loop begins -/
theorem amem_start (w : World) (id : Nat) : AMem w (((((w.alloc (.cells #[.int .u16 0, .int .u16 0, .slice none 0 0, .slice none 0 0, .slice none 0 0, .slice none 0 0] 72)).alloc (.cells #[.string ⟨#[95, 109, 101, 116, 114, 105, 99, 115]⟩, .string ⟨#[95, 116, 99, 112]⟩, .string ⟨#[101, 120, 97, 109, 112, 108, 101]⟩] 9)).alloc (.cells #[.slice (some ⟨w.heap.size + 1, 0, none⟩) 3 3, .int .u16 33, .int .u16 1] 76)).alloc (.cells #[.slice (some ⟨w.heap.size + 1, 0, none⟩) 3 3, .int .u16 33, .int .u16 1] 76)).alloc (.cells #[.int .u16 (id : Int), .int .u16 32768, .slice (some ⟨w.heap.size + 3, 0, none⟩) 1 1, .slice none 0 0, .slice none 0 0, .slice none 0 0] 72))
    (w.heap.size + 4) id 0 0 (some ⟨w.heap.size + 3, 0, none⟩) 1 [⟨some ⟨w.heap.size + 1, 0, none⟩, 3, svq⟩] nilR none 0 [] (fun _ => False) := by
  obtain ⟨w1, h1⟩ : ∃ x, x = w.alloc (.cells #[.int .u16 0, .int .u16 0, .slice none 0 0, .slice none 0 0, .slice none 0 0, .slice none 0 0] 72) := ⟨_, rfl⟩
  have v1 := Vx.new w 72 zM6
  have b1 : Below w.heap.size w w1 := by rw [h1]; exact (Below.refl _ _).alloc (Nat.le_refl _) _
  have s1 : w1.heap.size = w.heap.size + 1 := by rw [h1]; simp
  rw [show w.alloc (.cells zM6.toArray 72) = w1 from h1.symm] at v1
  rw [← h1]
  clear h1
  obtain ⟨w2, h2⟩ : ∃ x, x = w1.alloc (.cells #[.string ⟨#[95, 109, 101, 116, 114, 105, 99, 115]⟩, .string ⟨#[95, 116, 99, 112]⟩, .string ⟨#[101, 120, 97, 109, 112, 108, 101]⟩] 9) := ⟨_, rfl⟩
  have o2 := Ow.lit w1 9 (sc svc) (by decide)
  rw [show w1.alloc (.cells (sc svc).toArray 9) = w2 from h2.symm, s1] at o2
  have v2 := v1.alloc (.cells #[.string ⟨#[95, 109, 101, 116, 114, 105, 99, 115]⟩, .string ⟨#[95, 116, 99, 112]⟩, .string ⟨#[101, 120, 97, 109, 112, 108, 101]⟩] 9)
  have b2 := b1.alloc (o := .cells #[.string ⟨#[95, 109, 101, 116, 114, 105, 99, 115]⟩, .string ⟨#[95, 116, 99, 112]⟩, .string ⟨#[101, 120, 97, 109, 112, 108, 101]⟩] 9) (by omega)
  have s2 : w2.heap.size = w.heap.size + 2 := by rw [h2]; simp; omega
  rw [← h2] at v2 b2 ⊢
  clear h2
  obtain ⟨w3, h3⟩ : ∃ x, x = w2.alloc (.cells #[.slice (some ⟨w.heap.size + 1, 0, none⟩) 3 3, .int .u16 33, .int .u16 1] 76) := ⟨_, rfl⟩
  have g3 := Vx.new w2 76 [.slice (some ⟨w.heap.size + 1, 0, none⟩) 3 3, .int .u16 33, .int .u16 1]
  have v3 := v2.alloc (.cells #[.slice (some ⟨w.heap.size + 1, 0, none⟩) 3 3, .int .u16 33, .int .u16 1] 76)
  have o3 := o2.alloc (.cells #[.slice (some ⟨w.heap.size + 1, 0, none⟩) 3 3, .int .u16 33, .int .u16 1] 76)
  have b3 := b2.alloc (o := .cells #[.slice (some ⟨w.heap.size + 1, 0, none⟩) 3 3, .int .u16 33, .int .u16 1] 76) (by omega)
  have s3 : w3.heap.size = w.heap.size + 3 := by rw [h3]; simp; omega
  rw [s2] at g3
  rw [show w2.alloc (.cells [.slice (some ⟨w.heap.size + 1, 0, none⟩) 3 3, .int .u16 33, .int .u16 1].toArray 76) = w3 from h3.symm] at g3
  rw [← h3] at v3 o3 b3 ⊢
  clear h3 v1 v2 o2 b1 b2
  obtain ⟨w4, h4⟩ : ∃ x, x = w3.alloc (.cells #[.slice (some ⟨w.heap.size + 1, 0, none⟩) 3 3, .int .u16 33, .int .u16 1] 76) := ⟨_, rfl⟩
  have q4 := OwM.lit w3 76 3 (qcs [⟨some ⟨w.heap.size + 1, 0, none⟩, 3, svq⟩]) 1 rfl (by decide)
  rw [s3, show w3.alloc (.cells (qcs [⟨some ⟨w.heap.size + 1, 0, none⟩, 3, svq⟩]).toArray 76) = w4 from h4.symm] at q4
  have v4 := v3.alloc (.cells #[.slice (some ⟨w.heap.size + 1, 0, none⟩) 3 3, .int .u16 33, .int .u16 1] 76)
  have g4 := g3.alloc (.cells #[.slice (some ⟨w.heap.size + 1, 0, none⟩) 3 3, .int .u16 33, .int .u16 1] 76)
  have o4 := o3.alloc (.cells #[.slice (some ⟨w.heap.size + 1, 0, none⟩) 3 3, .int .u16 33, .int .u16 1] 76)
  have b4 := b3.alloc (o := .cells #[.slice (some ⟨w.heap.size + 1, 0, none⟩) 3 3, .int .u16 33, .int .u16 1] 76) (by omega)
  have s4 : w4.heap.size = w.heap.size + 4 := by rw [h4]; simp; omega
  rw [← h4] at v4 g4 o4 b4 ⊢
  clear h4 v3 g3 o3 b3
  have m5 := Vx.new w4 72 [.int .u16 (id : Int), .int .u16 32768, .slice (some ⟨w.heap.size + 3, 0, none⟩) 1 1, .slice none 0 0, .slice none 0 0, .slice none 0 0]
  rw [s4] at m5
  refine ⟨b4.alloc (by omega) _, v4.alloc _, g4.alloc _, m5, ⟨fun i _ => ?_, fun o ho => ?_, fun o ho => ?_, fun i j _ _ _ q hq => ?_, fun i _ o ho q hq => ?_⟩, fun _ => Nat.le_refl _, Nat.le_refl _, by omega, by simp; omega⟩
  · unfold rowA; split
    · exact OwM.nil _ _ _ _
    · exact OwM.nil _ _ _ _
  · rcases ho with ho | rfl | ⟨x, hx, rfl⟩ | ⟨i, _, x, hx, _⟩
    · exact ho.elim
    · exact (OwM.alloc q4 _).mono (by omega)
    · rw [List.mem_singleton] at hx; subst hx
      exact (o4.alloc _).mono (by omega)
    · cases hx
  · rcases ho with ho | rfl | ⟨x, hx, rfl⟩ | ⟨i, _, x, hx, _⟩
    · exact ho.elim
    · simp [rwQ, Value.ownBlock]
    · rw [List.mem_singleton] at hx; subst hx
      simp [nmO, Value.ownBlock]
    · cases hx
  · unfold rowA at hq; split at hq <;> simp [rwR, nilR, Value.ownBlock] at hq
  · unfold rowA at hq; split at hq <;> simp [rwR, nilR, Value.ownBlock] at hq
theorem ow_keep {w W : World} {base B : Nat} {e : TypeId} {v : Value} {xs : List Value} (h : Ow w base e v xs) (hb : Below B w W) (hv : ∀ q, v.ownBlock = some q → q < B) : Ow W base e v xs := by
  refine ⟨h.1, ?_⟩
  rcases h.2 with hn | ⟨g, cap, cur, rfl, hb', hgg, rest⟩
  · exact .inl hn
  · refine .inr ⟨g, cap, cur, rfl, hb', ?_, rest⟩
    rw [hb.block g (hv g rfl)]
    exact hgg
theorem nmO_ok {w : World} {base n c : Nat} {A : Option Addr} {l : List (List UInt8)} (h : Ow w base 9 (.slice A n c) (sc l)) (hn : n = l.length) : (nmO A c l).ok w base := by subst hn; exact h
theorem daO_ok {w : World} {base n c : Nat} {A : Option Addr} {l : List UInt8} (h : Ow w base 5 (.slice A n c) (bc l)) (hn : n = l.length) : (daO A c l).ok w base := by subst hn; exact h
/-! ### which record it is -/
theorem rec_1 {ho pr we po ttl ot : Nat} (h : ot % 8 = 1) : recS ⟨ho, pr, we, po, ttl, ot⟩ = ⟨⟨oth, 33, 1⟩, ttl, [], pr, we, max po 1, hostOf ho⟩ := by simp [recS, h, port]
theorem rec_2 {ho pr we po ttl ot : Nat} (h : ot % 8 = 2) : recS ⟨ho, pr, we, po, ttl, ot⟩ = ⟨⟨svc, 1, 1⟩, 0, [1, 2, 3, 4], 0, 0, 0, []⟩ := by simp [recS, h]
theorem rec_0 {ho pr we po ttl ot : Nat} (h1 : ot % 8 ≠ 1) (h2 : ot % 8 ≠ 2) : recS ⟨ho, pr, we, po, ttl, ot⟩ = ⟨svq, ttl, [], pr, we, max po 1, hostOf ho⟩ := by simp [recS, h1, h2, port]
theorem sec_3 {ho pr we po ttl ot : Nat} (h : ot % 8 = 3) : sec ⟨ho, pr, we, po, ttl, ot⟩ = 1 + ho / 4 % 2 := by simp [sec, h]
theorem sec_0 {ho pr we po ttl ot : Nat} (h : ot % 8 ≠ 3) : sec ⟨ho, pr, we, po, ttl, ot⟩ = 0 := by simp [sec, h]
theorem out_snoc_no {l : List Sa} {s : Sa} (h : s.ot % 8 = 1 ∨ s.ot % 8 = 2 ∨ s.ot % 8 = 3) : outK (l ++ [s]) = outK l := by
  rw [outK_snoc]
  have : isOut s = false := by unfold isOut; rw [decide_eq_false_iff_not]; omega
  simp [this]
theorem out_snoc_yes {l : List Sa} {ho pr we po ttl ot : Nat} (h1 : ot % 8 ≠ 1) (h2 : ot % 8 ≠ 2) (h3 : ot % 8 ≠ 3) : outK (l ++ [⟨ho, pr, we, po, ttl, ot⟩]) = outK l ++ [⟨hostT ho, ((max po 1 : Nat) : Int), (pr : Int), (we : Int), ttl⟩] := by
  rw [outK_snoc]
  have : isOut ⟨ho, pr, we, po, ttl, ot⟩ = true := by unfold isOut; rw [decide_eq_true_eq]; exact ⟨h1, h2, h3⟩
  rw [this]
  simp [ad, port]
/-! ### the hosts -/
def Sa.cells (s : Sa) : List Value := [.int .u8 (s.host : Int), .int .u8 (s.pr : Int), .int .u8 (s.we : Int), .int .u16 (s.po : Int), .int .u32 (s.ttl : Int), .int .u8 (s.ot : Int)]
@[simp] theorem Sa.cells_length (s : Sa) : s.cells.length = 6 := rfl
def scs (l : List Sa) : List Value := l.flatMap Sa.cells
theorem scs_get (l : List Sa) (k j : Nat) (hk : k < l.length) (hj : j < 6) : (scs l)[k * 6 + j]? = l[k].cells[j]? := flat_get Sa.cells 6 Sa.cells_length l k j hk hj
theorem join_host (k : Nat) : Lib.join ((hostOf k).map fun x => x) [46] = hostT k := by
  unfold hostOf hostT
  rcases four k with h | h | h | h <;> rw [h] <;> decide
theorem host_le (k : Nat) : (hostOf k).length ≤ 2 := by
  unfold hostOf
  rcases four k with h | h | h | h <;> rw [h] <;> decide
theorem hostT_le (k : Nat) : (hostT k).length ≤ 12 := by
  unfold hostT
  rcases four k with h | h | h | h <;> rw [h] <;> decide
/-- the literals of the hosts behind a box -/
theorem hosts_lit (w : World) (k : Nat) : ∃ W, W = (((((w.alloc (.cells #[.string ⟨#[110, 49]⟩, .string ⟨#[101, 120, 97, 109, 112, 108, 101]⟩] 9)).alloc (.cells #[.string ⟨#[110, 50]⟩, .string ⟨#[101, 120, 97, 109, 112, 108, 101]⟩] 9)).alloc (.cells #[.string ⟨#[97]⟩, .string ⟨#[98, 45, 99]⟩] 9)).alloc (.cells #[.string ⟨#[120]⟩] 9)).alloc (.cells #[.slice (some ⟨w.heap.size, 0, none⟩) 2 2, .slice (some ⟨w.heap.size + 1, 0, none⟩) 2 2, .slice (some ⟨w.heap.size + 1 + 1, 0, none⟩) 2 2, .slice (some ⟨w.heap.size + 1 + 1 + 1, 0, none⟩) 1 1] 38)) ∧
    Below w.heap.size w W ∧ W.heap.size = w.heap.size + 5 ∧ W.cell? ⟨w.heap.size + 1 + 1 + 1 + 1, k % 4, none⟩ = some (.slice (some ⟨w.heap.size + k % 4, 0, none⟩) (hostOf k).length (hostOf k).length) ∧ Ow W w.heap.size 9 (.slice (some ⟨w.heap.size + k % 4, 0, none⟩) (hostOf k).length (hostOf k).length) (sc (hostOf k)) := by
  refine ⟨_, rfl, ?_, by simp, ?_, ?_⟩
  · exact (((((Below.refl w.heap.size w).alloc (Nat.le_refl _) _).alloc (by simp) _).alloc (by simp; omega) _).alloc (by simp; omega) _).alloc (by simp; omega) _
  · generalize hW : World.alloc _ (Obj.cells #[Value.string _] _) = W4
    have hs : W4.heap.size = w.heap.size + 4 := by rw [← hW]; simp
    have hv := Vx.new W4 38 [.slice (some ⟨w.heap.size, 0, none⟩) 2 2, .slice (some ⟨w.heap.size + 1, 0, none⟩) 2 2, .slice (some ⟨w.heap.size + 1 + 1, 0, none⟩) 2 2, .slice (some ⟨w.heap.size + 1 + 1 + 1, 0, none⟩) 1 1]
    rw [hs] at hv
    have := hv.cell (k % 4)
    refine this.trans ?_
    unfold hostOf
    rcases four k with h | h | h | h <;> rw [h] <;> rfl
  · unfold hostOf
    rcases four k with h | h | h | h <;> rw [h]
    · exact ((((Ow.lit w 9 (sc [[110, 49], [101, 120, 97, 109, 112, 108, 101]]) (by decide)).alloc _).alloc _).alloc _).alloc _
    · have := Ow.lit (w.alloc (.cells #[.string ⟨#[110, 49]⟩, .string ⟨#[101, 120, 97, 109, 112, 108, 101]⟩] 9)) 9 (sc [[110, 50], [101, 120, 97, 109, 112, 108, 101]]) (by decide)
      rw [World.size_alloc] at this
      exact (((this.alloc _).alloc _).alloc _).mono (by omega)
    · have := Ow.lit ((w.alloc (.cells #[.string ⟨#[110, 49]⟩, .string ⟨#[101, 120, 97, 109, 112, 108, 101]⟩] 9)).alloc (.cells #[.string ⟨#[110, 50]⟩, .string ⟨#[101, 120, 97, 109, 112, 108, 101]⟩] 9)) 9 (sc [[97], [98, 45, 99]]) (by decide)
      rw [World.size_alloc, World.size_alloc] at this
      exact ((this.alloc _).alloc _).mono (by omega)
    · have := Ow.lit (((w.alloc (.cells #[.string ⟨#[110, 49]⟩, .string ⟨#[101, 120, 97, 109, 112, 108, 101]⟩] 9)).alloc (.cells #[.string ⟨#[110, 50]⟩, .string ⟨#[101, 120, 97, 109, 112, 108, 101]⟩] 9)).alloc (.cells #[.string ⟨#[97]⟩, .string ⟨#[98, 45, 99]⟩] 9)) 9 (sc [[120]]) (by decide)
      rw [World.size_alloc, World.size_alloc, World.size_alloc] at this
      exact (this.alloc _).mono (by omega)
end Sv
end Go.Proofs.YtlipmlbijddopaaGreatDoor
set_option linter.unusedVariables false
namespace Go.Proofs.YtlipmlbijddopaaGreatDoor
open Go.ChangeShapes Go.WideShapes Go.ChangeAt Go.RowKit
section
variable {H : Type} {enc : TypeId × Value → H} {W : World}
theorem saFields : fieldsOf Tryz.prog 85 = some [(5, 0), (5, 1), (5, 2), (25, 3), (28, 4), (5, 5)] := by kernel_rfl
set_option maxRecDepth 100000 in
theorem open_sa {cs : List Value} {d : DataW H} {ps : List MemPlace} {n : Nat} (h : DataW.trod enc Tryz.prog W 0 (fun _ => true) true n 85 cs = some (d, ps)) :
    ∃ x : Sv.Sa, cs = x.cells ∧ Sv.okS x := by
  obtain ⟨xs, m, hcl, hxl, hfi⟩ := trod_structL saFields h
  rw [show Tryz.prog.cellsOf 85 = 6 by kernel_rfl] at hcl
  match cs, hcl with
  | [c0, c1, c2, c3, c4, c5], _ =>
    obtain ⟨y0, t0, w0⟩ := hfi 0 _ _ rfl
    obtain ⟨y1, t1, w1⟩ := hfi 1 _ _ rfl
    obtain ⟨y2, t2, w2⟩ := hfi 2 _ _ rfl
    obtain ⟨y3, t3, w3⟩ := hfi 3 _ _ rfl
    obtain ⟨y4, t4, w4⟩ := hfi 4 _ _ rfl
    obtain ⟨y5, t5, w5⟩ := hfi 5 _ _ rfl
    rw [show Tryz.prog.cellsOf 5 = 1 by kernel_rfl] at t0 t1 t2 t5
    rw [show Tryz.prog.cellsOf 25 = 1 by kernel_rfl] at t3
    rw [show Tryz.prog.cellsOf 28 = 1 by kernel_rfl] at t4
    simp only [List.drop_succ_cons, List.drop_zero, List.take_succ_cons, List.take_zero] at t0 t1 t2 t3 t4 t5
    obtain ⟨z0, rfl, b0⟩ := trod_int_nat 256 Tryz.underlying5 (by decide) t0
    obtain ⟨z1, rfl, b1⟩ := trod_int_nat 256 Tryz.underlying5 (by decide) t1
    obtain ⟨z2, rfl, b2⟩ := trod_int_nat 256 Tryz.underlying5 (by decide) t2
    obtain ⟨z3, rfl, b3⟩ := trod_int_nat 65536 Tryz.underlying25 (by decide) t3
    obtain ⟨z4, rfl, b4⟩ := trod_int_nat 4294967296 Tryz.underlying28 (by decide) t4
    obtain ⟨z5, rfl, b5⟩ := trod_int_nat 256 Tryz.underlying5 (by decide) t5
    exact ⟨⟨z0, z1, z2, z3, z4, z5⟩, rfl, b0, b1, b2, b3, b4, b5⟩
set_option maxRecDepth 100000 in
theorem open_sas {base : Nat} {v : Value} {d : DataW H} {ps : List MemPlace} (hval : Value.okWide Tryz.prog W .any base 81 v) (hd : DataW.Trod enc Tryz.prog W 0 (fun _ => true) true 81 v d ps) (hre : ∀ n ∈ d.weights Tryz.prog 81, n ≤ reachBytes) :
    ∃ (A : Option Addr) (c : Nat) (l : List Sv.Sa), v = .slice A l.length c ∧ l.length ≤ c ∧ Rd W W.heap.size A (l.length * 6) (Sv.scs l) ∧ ∀ x ∈ l, Sv.okS x := by
  have ht := Tryz.underlying81
  obtain ⟨a1, len, cap, rfl⟩ := okWide_slice ht hval
  obtain ⟨fuel, hfu⟩ := hd
  obtain ⟨A, c, l, e, hc, hb, hr, hx⟩ := open_rowsG Sv.Sa.cells 6 Sv.Sa.cells_length (by omega) ht (by kernel_rfl) 16 (by kernel_rfl) Sv.okS (V := .slice a1 len cap) hfu hre (fun cs d ps n h1 h2 => open_sa h1)
  exact ⟨A, c, l, e, hc, hr, hx⟩
end
end Go.Proofs.YtlipmlbijddopaaGreatDoor
set_option linter.unusedVariables false
set_option linter.unusedSimpArgs false
namespace Go.Proofs.YtlipmlbijddopaaGreatDoor
open Go.RowKit
namespace Sv
theorem run_slS_h {P : Program} (W : World) (t e : TypeId) (s : Nat) (ht : P.underlying t = some (.slice e)) (hz : ∀ w, (Go.sizeOf e).run P w = .ok s w) (A : Option Addr) (n cap : Nat) (h : Nat) (h2 : h ≤ cap) : (Instr.slice t (.slice A n cap) none (some (.int .i64 (h : Int))) none).run P W = .ok (.slice A h cap) W := by
  have ht' : P.underlying t = some (.slice (P.elem t)) := by simp [Program.elem, ht]
  have he : P.elem t = e := by simp [Program.elem, ht]
  rw [run_slice_h W t _ _ _ ht' .i64 _ (by omega) (by omega), he, hz]
  have := cutA_zero A cap
  unfold cutA at this
  simp [Result.andThen, sliced, this]
theorem szSa (w : World) : (Go.sizeOf 85).run Tryz.prog w = .ok 6 w := by kernel_rfl
theorem join_at (k tb nT b : Nat) (W : World) (hn : nT = (hostOf k).length) (h : Ow W b 9 (.slice (some ⟨tb, 0, none⟩) nT nT) (sc (hostOf k))) :
    Calls Tryz.prog 90 #[.slice (some ⟨tb, 0, none⟩) nT nT, .string ⟨#[46]⟩] W fun e w' => e = .returned (.string ⟨(hostT k).toArray⟩) ∧ Below W.heap.size W w' := by
  have h1 : OwM W b 9 1 (.slice (some ⟨tb, 0, none⟩) nT nT) nT (sc (hostOf k)) := by
    have := h
    unfold Ow at this
    rw [sc_length, ← hn] at this
    exact this
  have hrd := h1.rd
  have h0 : 0 < nT := by rw [hn]; have := host_len k; omega
  obtain ⟨b', o', e, hb, hc⟩ := hrd.2 (by omega)
  injection e with e; injection e with e1 e2; subst e1; subst e2
  have hlen : ((hostOf k).map fun x => (⟨x.toArray⟩ : ByteArray)).length = nT := by rw [List.length_map, hn]
  have hj : (Lib.join (((hostOf k).map fun x => (⟨x.toArray⟩ : ByteArray)).map (·.data.toList)) (⟨#[46]⟩ : ByteArray).data.toList) = hostT k := by
    rw [List.map_map]
    exact join_host k
  have hx : ∀ (j : Nat) x, ((hostOf k).map fun x => (⟨x.toArray⟩ : ByteArray))[j]? = some x → W.cell? ⟨tb, 0 + j, none⟩ = some (.string x) := fun j x hx => by
    refine hc j _ ?_
    rw [List.getElem?_map] at hx
    unfold sc
    rw [List.getElem?_map]
    cases hq : (hostOf k)[j]? with
    | none => rw [hq] at hx; cases hx
    | some y => rw [hq] at hx; simp only [Option.map_some, Option.some.injEq] at hx ⊢; rw [← hx]; rfl
  have := Tryz.strings_Join tb 0 nT ((hostOf k).map fun x => (⟨x.toArray⟩ : ByteArray)) ⟨#[46]⟩ W hx hb (by rw [hlen, hn]; have := host_le k; omega) (by rw [hlen]; exact Nat.le_refl _) (by rw [hj]; have := hostT_le k; omega)
  rw [hlen, hj] at this
  exact this
set_option maxRecDepth 100000 in
set_option maxHeartbeats 8000000 in
theorem answer_at (id n : Nat) (A : Option Addr) (c : Nat) (l : List Sa) (w : World) (hid : id < 65536) (h : Rd w w.heap.size A (n * 6) (scs l)) (hl : l.length = n) (hc : n ≤ c) (hx : ∀ s ∈ l, okS s) :
    Calls Tryz.prog 37 #[.int .u16 (id : Int), .slice A n c] w fun e w' => ∃ (M : Nat) (Aq : Option Addr) (cq : Nat) (lq : List QR) (rs : Nat → RW) (Ao : Option Addr) (co : Nat), e = .returned (.tuple #[.agg (mrowA id Aq cq lq rs).toArray, .slice Ao (outM l).length co]) ∧ ansM id l = msOf id (fun i => (rs i).l.map RR.r) ∧ lq.map QR.q = [svq] ∧ Fm w' M (w.heap.size + 1) (rowA Ao co (outM l) rs) (DA Aq cq lq rs) ∧ w.heap.size ≤ M ∧ Below w.heap.size w w' := by
  obtain ⟨i0, hi, hz0, hz1, hz2⟩ := info_parts Tryz.infoA
  obtain ⟨j0, hj', hy0, hy1, hy2⟩ := info_parts Tryz.infoR
  obtain ⟨K, hK⟩ : ∃ K, K = min n 20 := ⟨_, rfl⟩
  have hmin : min (n : Int) 20 = (K : Int) := by omega
  have hK1 : K ≤ n := by omega
  have hK2 : K ≤ 20 := by omega
  have hKt : l.take K = l.take 20 := by
    rcases Nat.lt_or_ge n 20 with h1 | h1
    · rw [List.take_of_length_le (by omega), List.take_of_length_le (by omega)]
    · rw [show K = 20 by omega]
  have HK := Lib.hid hKt
  have HX0 := Lib.hid hx
  have HR := Lib.hid h
  have HL := Lib.hid hl
  clear hKt hK hx h hl
  have ksl : ∀ W, (Instr.slice 81 (.slice A n c) none (some (.int .i64 (K : Int))) none).run Tryz.prog W = .ok (.slice A K c) W := fun W => run_slS_h W _ 85 6 Tryz.underlying81 szSa A n c K (by omega)
  have hS0 := amem_start w id
  go_enter Tryz.func37, Tryz.ntmps37
  go_wp2_with fail
  obtain ⟨M, hM⟩ : ∃ M, M = w.heap.size + 1 + 1 + 1 + 1 := ⟨_, rfl⟩
  obtain ⟨q3, hq3⟩ : ∃ M, M = w.heap.size + 1 + 1 + 1 := ⟨_, rfl⟩
  obtain ⟨G, hG⟩ : ∃ M, M = w.heap.size + 1 + 1 := ⟨_, rfl⟩
  rw [show w.heap.size + 4 = M by omega, show w.heap.size + 3 = q3 by omega] at hS0
  rw [← hM, ← hq3, ← hG]
  have HS0 := Lib.hid hS0
  have hG2 : w.heap.size + 2 = G := by omega
  have HG := Lib.hid hG2
  have HM := Lib.hid (show w.heap.size ≤ M by omega)
  clear hS0 hM hq3 hG hG2
  go_loopw [8, 27] (fun v8 v27 wr => ∃ (k : Nat) (rs : Nat → RW) (Ao : Option Addr) (co no : Nat) (lo : List Ad), k ≤ K ∧ v8 = .slice Ao no co ∧ v27 = .int .i64 k ∧ Hid (lo.length = no) ∧ Hid (AMem w wr M id k k (some ⟨q3, 0, none⟩) 1 [⟨some ⟨w.heap.size + 1, 0, none⟩, 3, svq⟩] rs Ao co lo (fun _ => False)) ∧ Hid (lo = outK (l.take k)) ∧ Hid (ansK id (l.take k) = msOf id (fun i => (rs i).l.map RR.r))) (fun _ v27 _ => K - (intOf v27).toNat)
  case atStart => exact ⟨0, nilR, none, 0, 0, [], Nat.zero_le _, rfl, rfl, Lib.hid rfl, HS0, Lib.hid rfl, Lib.hid rfl⟩
  case round =>
    clear HS0
    obtain ⟨k, rs, Ao, co, no, lo, hk, rfl, rfl, HNO, HX, HO, HE⟩ := hrel
    by_cases hlt : k < K
    · have hkl : k < l.length := by rw [HL.out]; omega
      have hOK := HX0.out _ (List.getElem_mem hkl)
      obtain ⟨bA, oA, hAe, hbA, hcx⟩ := (HR.out.below HX.out.bl).2 (by omega)
      subst hAe
      have hcell : ∀ j u, l[k].cells[j]? = some u → wr.cell? ⟨bA, oA + k * 6 + j, none⟩ = some u := fun j u hu => by
        have hj : j < 6 := by
          rcases Nat.lt_or_ge j 6 with h1 | h1
          · exact h1
          · rw [List.getElem?_eq_none (by simpa using h1)] at hu; cases hu
        rw [Nat.add_assoc]
        exact hcx _ u ((scs_get l k j hkl hj).trans hu)
      clear hcx
      have htk : l.take (k + 1) = l.take k ++ [l[k]] := List.take_succ_eq_append_getElem hkl
      generalize l[k] = x at htk hOK hcell
      have HTK := Lib.hid htk
      have HOK := Lib.hid hOK
      obtain ⟨s, hs⟩ : ∃ s, s = x := ⟨_, rfl⟩
      have HS := Lib.hid hs
      rw [← hs] at HTK HOK
      obtain ⟨ho, pr, we, po, ttl, ot⟩ := x
      have e0 := hcell 0 _ rfl
      have e1 := hcell 1 _ rfl
      have e2 := hcell 2 _ rfl
      have e3 := hcell 3 _ rfl
      have e4 := hcell 4 _ rfl
      have e5 := hcell 5 _ rfl
      simp only [Nat.add_zero] at e0 e1 e2 e3 e4 e5
      obtain ⟨o0, o1, o2, o3, o4, o5⟩ := hOK
      dsimp only at o0 o1 o2 o3 o4 o5
      clear hcell htk hs
      have hsz := HX.out.bl.size
      go_upto_region 7 with fail
      obtain ⟨g10, hg10⟩ : ∃ g, g = wr.heap.size := ⟨_, rfl⟩
      have V10 := Vx.new wr 85 [.int .u8 (ho : Int), .int .u8 (pr : Int), .int .u8 (we : Int), .int .u16 (po : Int), .int .u32 (ttl : Int), .int .u8 (ot : Int)]
      have b10 := bl_new wr (.cells #[.int .u8 (ho : Int), .int .u8 (pr : Int), .int .u8 (we : Int), .int .u16 (po : Int), .int .u32 (ttl : Int), .int .u8 (ot : Int)] 85)
      rw [← hg10] at V10 ⊢
      generalize wr.alloc (.cells #[.int .u8 (ho : Int), .int .u8 (pr : Int), .int .u8 (we : Int), .int .u16 (po : Int), .int .u32 (ttl : Int), .int .u8 (ot : Int)] 85) = w1 at *
      have hgw1 : wr.heap.size ≤ g10 := by omega
      have hgw2 : g10 ≤ wr.heap.size := by omega
      clear hg10
      obtain ⟨w2, hw2, hb2, hs2, hc2, ho2⟩ := hosts_lit w1 ho
      go_upto_region 8 with fail
      rw [← hw2]
      obtain ⟨k4, hk4⟩ : ∃ k4, k4 = ho % 4 := ⟨_, rfl⟩
      have hk4l : k4 < 4 := by omega
      have hk4i : (k4 : Int) < 4 := by omega
      have hk40 : (0 : Int) ≤ (k4 : Int) := by omega
      have km1 : (ho : Int) % 4 = (k4 : Int) := by omega
      have km2 : (ho : Int).tmod 4 = (k4 : Int) := by rw [Int.tmod_eq_emod_of_nonneg (by omega)]; exact km1
      rw [← hk4] at hc2 ho2
      obtain ⟨nT, hnT⟩ : ∃ nT, nT = (hostOf ho).length := ⟨_, rfl⟩
      have HNT := Lib.hid hnT
      rw [← hnT] at hc2 ho2
      obtain ⟨tb, htb⟩ : ∃ tb, tb = w1.heap.size + k4 := ⟨_, rfl⟩
      rw [← htb] at hc2 ho2
      obtain ⟨g11, hg11⟩ : ∃ g, g = w1.heap.size + 1 + 1 + 1 + 1 := ⟨_, rfl⟩
      rw [← hg11] at hc2 ⊢
      have V10 := V10.below hb2 V10.lt
      have hX2 := HX.out.far (b10.trans (hb2.mono b10.size))
      have hB2 := b10.trans (hb2.mono b10.size)
      have hwr1 := b10.size
      have ho2' := ho2.mono (show wr.heap.size ≤ w1.heap.size from b10.size)
      have htbl : wr.heap.size ≤ tb := by omega
      clear e0 e1 e2 e3 e4 e5 hw2 ho2 hs2 htb hg11
      have HK4 := Lib.hid hk4
      clear hk4 hnT
      obtain ⟨v0, v1, v2, v3, v4, v5⟩ := V10.c6
      have hg := hX2.vg
      rw [HG.out] at hg
      obtain ⟨q0, q1, q2⟩ := hg.c3
      have kp1 : IntKind.u16.wrap (pr : Int) = (pr : Int) := by rw [IntKind.wrap_u16]; omega
      have kp2 : IntKind.u16.wrap (we : Int) = (we : Int) := by rw [IntKind.wrap_u16]; omega
      obtain ⟨P, hP⟩ : ∃ P, P = max po 1 := ⟨_, rfl⟩
      have kp3 : max (po : Int) 1 = (P : Int) := by omega
      have HP := Lib.hid hP
      clear hP
      obtain ⟨o8, ho8⟩ : ∃ o8, o8 = ot % 8 := ⟨_, rfl⟩
      have km3 : (ot : Int) % 8 = (o8 : Int) := by omega
      have km4 : (ot : Int).tmod 8 = (o8 : Int) := by rw [Int.tmod_eq_emod_of_nonneg (by omega)]; exact km3
      have km5 : ot % 8 = o8 := ho8.symm
      clear ho8
      have km6 : ho % 4 = k4 := HK4.out.symm
      go_upto_region 10 with fail
      obtain ⟨g13, hg13⟩ : ∃ g, g = w2.heap.size := ⟨_, rfl⟩
      have V13 := Vx.new w2 88 [.slice (some ⟨w.heap.size + 1, 0, none⟩) 3 3, .int .u16 33, .int .u16 1, .int .u32 (ttl : Int), .slice none 0 0, .int .u16 (pr : Int), .int .u16 (we : Int), .int .u16 (P : Int), .slice (some ⟨tb, 0, none⟩) nT nT]
      have b13 := bl_new w2 (.cells #[.slice (some ⟨w.heap.size + 1, 0, none⟩) 3 3, .int .u16 33, .int .u16 1, .int .u32 (ttl : Int), .slice none 0 0, .int .u16 (pr : Int), .int .u16 (we : Int), .int .u16 (P : Int), .slice (some ⟨tb, 0, none⟩) nT nT] 88)
      have V10 := V10.below b13 V10.lt
      have ho3 := ho2'.alloc (.cells #[.slice (some ⟨w.heap.size + 1, 0, none⟩) 3 3, .int .u16 33, .int .u16 1, .int .u32 (ttl : Int), .slice none 0 0, .int .u16 (pr : Int), .int .u16 (we : Int), .int .u16 (P : Int), .slice (some ⟨tb, 0, none⟩) nT nT] 88)
      have hX3 := hX2.far b13
      have hB3 := hB2.trans (b13.mono hB2.size)
      have htbw := ow_block_lt ho2' tb rfl
      rw [← hg13] at V13 ⊢
      generalize w2.alloc (.cells #[.slice (some ⟨w.heap.size + 1, 0, none⟩) 3 3, .int .u16 33, .int .u16 1, .int .u32 (ttl : Int), .slice none 0 0, .int .u16 (pr : Int), .int .u16 (we : Int), .int .u16 (P : Int), .slice (some ⟨tb, 0, none⟩) nT nT] 88) = w3 at *
      have hgt : tb < g13 := by omega
      have hg10l : g10 < g13 := by have := hc2; have := hB2.size; have h9 := V10.lt; omega
      clear v0 v1 v2 v3 v4 v5 q0 q1 q2 hg hc2 ho2' hB2 hX2 b10 hb2 b13 hg13
      have HTG := Lib.hid ho3
      have HX3 := Lib.hid hX3
      have HB3 := Lib.hid hB3
      have HV10 := Lib.hid V10
      have HV13 := Lib.hid V13
      clear ho3 hX3 hB3
      obtain ⟨y0, y1, y2, y3, y4, y5⟩ := HV10.out.c6
      clear y1 y2 y3 y4
      go_upto_block 2 with fail
      go_cut [8, 14] from 59 to 95 (fun v8 v14 wx => ∃ (i : Nat) (x : RR) (A2 : Option Addr) (c2 n2 : Nat) (l2 : List Ad), v8 = .slice A2 n2 c2 ∧ v14 = .int .i64 (i : Int) ∧ i < 3 ∧ Hid (sec s = i) ∧ Hid (x.r = recS s) ∧ Hid (l2.length = n2) ∧ Hid (l2 = outK (l.take (k + 1))) ∧ Hid (Vx wx g13 88 x.cells) ∧ Hid (AMem w wx M id k (k + 1) (some ⟨q3, 0, none⟩) 1 [⟨some ⟨w.heap.size + 1, 0, none⟩, 3, svq⟩] rs A2 c2 l2 (DR [x])))
      case first =>
        have hda : DA (some ⟨q3, 0, none⟩) 1 [⟨some ⟨w.heap.size + 1, 0, none⟩, 3, svq⟩] rs (nmO (some ⟨w.heap.size + 1, 0, none⟩) 3 svc) := .inr (.inl ⟨_, List.mem_singleton.2 rfl, rfl⟩)
        have HDA := Lib.hid hda
        clear hda
        have KTG := Lib.hid (fun W (hW : Below g13 w3 W) => nmO_ok (ow_keep HTG.out hW (fun q hq => by simp [Value.ownBlock] at hq; omega)) HNT.out)
        have KOUT := Lib.hid (show s.ot % 8 = 1 ∨ s.ot % 8 = 2 ∨ s.ot % 8 = 3 → lo = outK (l.take (k + 1)) from fun h => by rw [HTK.out, out_snoc_no h]; exact HO.out)
        have hg13w := HV13.out.lt
        have hg13r : wr.heap.size ≤ g13 := by omega
        by_cases h1 : o8 = 1
        · subst h1
          have V := HV13.out.alloc (.cells #[.string ⟨#[95, 111, 116, 104, 101, 114]⟩, .string ⟨#[95, 116, 99, 112]⟩, .string ⟨#[101, 120, 97, 109, 112, 108, 101]⟩] 9)
          have c0 := V.cell 0
          have f0 := V.free 0
          go_wp2_with fail
          go_meet
          case rel =>
            have bS : Below g13 w3 (w3.setCell ⟨g13, 0, none⟩ (.slice (some ⟨w3.heap.size, 0, none⟩) 3 3)) := (Below.refl g13 w3).setCell (p := ⟨g13, 0, none⟩) (Nat.le_refl _) _
            have bW := bS.alloc (o := (.cells #[.string ⟨#[95, 111, 116, 104, 101, 114]⟩, .string ⟨#[95, 116, 99, 112]⟩, .string ⟨#[101, 120, 97, 109, 112, 108, 101]⟩] 9)) (by simp; omega)
            have oL := (Ow.lit (w3.setCell ⟨g13, 0, none⟩ (.slice (some ⟨w3.heap.size, 0, none⟩) 3 3)) 9 (sc oth) (by decide))
            rw [World.size_setCell] at oL
            refine ⟨0, ⟨some ⟨w3.heap.size, 0, none⟩, 3, none, 0, some ⟨tb, 0, none⟩, nT, ⟨⟨oth, 33, 1⟩, ttl, [], pr, we, P, hostOf ho⟩⟩, Ao, co, no, lo, rfl, rfl, by omega, Lib.hid ?_, Lib.hid ?_, HNO, Lib.hid (KOUT.out (by rw [HS.out]; exact .inl km5)), Lib.hid ?_, Lib.hid ?_⟩
            · rw [HS.out]; exact sec_0 (by omega)
            · rw [HS.out, rec_1 km5, HP.out]
            · have := (HV13.out.set_ 0 (.slice (some ⟨w3.heap.size, 0, none⟩) 3 3)).alloc (.cells #[.string ⟨#[95, 111, 116, 104, 101, 114]⟩, .string ⟨#[95, 116, 99, 112]⟩, .string ⟨#[101, 120, 97, 109, 112, 108, 101]⟩] 9)
              unfold RR.cells
              dsimp only
              rw [← HNT.out]
              exact this
            · refine (HX.out.withE (HB3.out.trans (bW.mono hg13r)) ⟨some ⟨w3.heap.size, 0, none⟩, 3, none, 0, some ⟨tb, 0, none⟩, nT, ⟨⟨oth, 33, 1⟩, ttl, [], pr, we, P, hostOf ho⟩⟩ (.inr ?_) (OwM.nil _ _ _ _) (KTG.out _ bW)).wide (Nat.le_refl _) (Nat.le_succ _)
              exact OwM.mono (nmO_ok oL rfl) HB3.out.size
        · have hb1 : ((o8 : Int) == 1) = false := by simp; omega
          by_cases h2 : o8 = 2
          · subst h2
            have hg := HX3.out.vg
            rw [HG.out] at hg
            have V := HV13.out.alloc (.cells #[.int .u8 1, .int .u8 2, .int .u8 3, .int .u8 4] 5)
            have q0 := hg.cell 0
            go_wp2_with (refine wpList_store_row rfl 88 _ _ rfl g13 _ rfl rfl _ _ V (by kernel_rfl) rfl (by kernel_rfl) ?_)
            go_meet
            case rel =>
              have bA := (bl_new w3 (.cells #[.int .u8 1, .int .u8 2, .int .u8 3, .int .u8 4] 5))
              have oL := (Ow.lit w3 5 (bc [1, 2, 3, 4]) (by decide))
              have bW : ∀ ds, Below g13 w3 ((w3.alloc (.cells #[.int .u8 1, .int .u8 2, .int .u8 3, .int .u8 4] 5)).setRow g13 ds) := fun ds => (bA.mono (Nat.le_of_lt hg13w)).trans ((Only.row _ g13 ds).below (Nat.le_refl _) (by simp; omega))
              refine ⟨0, ⟨some ⟨w.heap.size + 1, 0, none⟩, 3, some ⟨w3.heap.size, 0, none⟩, 4, none, 0, ⟨⟨svc, 1, 1⟩, 0, [1, 2, 3, 4], 0, 0, 0, []⟩⟩, Ao, co, no, lo, rfl, rfl, by omega, Lib.hid ?_, Lib.hid ?_, HNO, Lib.hid (KOUT.out (by rw [HS.out]; exact .inr (.inl km5))), Lib.hid ?_, Lib.hid ?_⟩
              · rw [HS.out]; exact sec_0 (by omega)
              · rw [HS.out, rec_2 km5]
              · exact V.row _
              · refine (HX.out.withE (HB3.out.trans ((bW _).mono hg13r)) ⟨some ⟨w.heap.size + 1, 0, none⟩, 3, some ⟨w3.heap.size, 0, none⟩, 4, none, 0, ⟨⟨svc, 1, 1⟩, 0, [1, 2, 3, 4], 0, 0, 0, []⟩⟩ (.inl HDA.out) (OwM.mono (daO_ok (Ow.only oL (Only.row _ g13 _) hg13w) rfl) HB3.out.size) (OwM.nil _ _ _ _)).wide (Nat.le_refl _) (Nat.le_succ _)
          · have hb2 : ((o8 : Int) == 2) = false := by simp; omega
            have V0 : Vx w3 g13 88 (RR.cells ⟨some ⟨w.heap.size + 1, 0, none⟩, 3, none, 0, some ⟨tb, 0, none⟩, nT, ⟨svq, ttl, [], pr, we, P, hostOf ho⟩⟩) := by
              have := HV13.out
              unfold RR.cells
              dsimp only
              rw [← HNT.out]
              exact this
            have hM3 : AMem w w3 M id k k (some ⟨q3, 0, none⟩) 1 [⟨some ⟨w.heap.size + 1, 0, none⟩, 3, svq⟩] rs Ao co lo (DR [⟨some ⟨w.heap.size + 1, 0, none⟩, 3, none, 0, some ⟨tb, 0, none⟩, nT, ⟨svq, ttl, [], pr, we, P, hostOf ho⟩⟩]) :=
              HX.out.withE HB3.out _ (.inl HDA.out) (OwM.nil _ _ _ _) (KTG.out _ (Below.refl _ _))
            have HV0 := Lib.hid V0
            have HM3 := Lib.hid hM3
            clear V0 hM3
            by_cases h3 : o8 = 3
            · subst h3
              obtain ⟨r2, hr2⟩ : ∃ r2, r2 = ho / 4 % 2 := ⟨_, rfl⟩
              have kq1 : (ho : Int).tdiv 4 = ((ho / 4 : Nat) : Int) := by rw [Int.tdiv_eq_ediv_of_nonneg (by omega)]; omega
              have kq2 : (ho : Int) / 4 = ((ho / 4 : Nat) : Int) := by omega
              obtain ⟨q4, hq4⟩ : ∃ q4, q4 = ho / 4 := ⟨_, rfl⟩
              rw [← hq4] at hr2 kq1 kq2
              have kq3 : (q4 : Int) % 2 = (r2 : Int) := by omega
              have kq4 : (q4 : Int).tmod 2 = (r2 : Int) := by rw [Int.tmod_eq_emod_of_nonneg (by omega)]; exact kq3
              have hr2l : r2 < 2 := by omega
              have HR2 := Lib.hid (show r2 = ho / 4 % 2 by omega)
              have hq4l : q4 < 64 := by omega
              clear hr2 hq4
              go_wp2_with fail
              go_meet
              case rel =>
                refine ⟨1 + r2, ⟨some ⟨w.heap.size + 1, 0, none⟩, 3, none, 0, some ⟨tb, 0, none⟩, nT, ⟨svq, ttl, [], pr, we, P, hostOf ho⟩⟩, Ao, co, no, lo, rfl, by simp, by omega, Lib.hid ?_, Lib.hid ?_, HNO, Lib.hid (KOUT.out (by rw [HS.out]; exact .inr (.inr km5))), HV0, Lib.hid ?_⟩
                · rw [HS.out, HR2.out]; exact sec_3 km5
                · rw [HS.out, rec_0 (by omega) (by omega), HP.out]
                · exact HM3.out.wide (Nat.le_refl _) (Nat.le_succ _)
            · have hb3 : ((o8 : Int) == 3) = false := by simp; omega
              go_upto_region 12 with fail
              clear HV13
              have kv1 : IntKind.i64.wrap (P : Int) = (P : Int) := (by have := HP.out; rw [IntKind.wrap_i64]; omega)
              have kv2 : IntKind.i64.wrap (pr : Int) = (pr : Int) := (by rw [IntKind.wrap_i64]; omega)
              have kv3 : IntKind.i64.wrap (we : Int) = (we : Int) := (by rw [IntKind.wrap_i64]; omega)
              refine wp_region_held_drew (S := fun W => W.cell? ⟨g13, 7, none⟩ = some (.int .u16 (P : Int)) ∧ W.cell? ⟨g13, 5, none⟩ = some (.int .u16 (pr : Int)) ∧ W.cell? ⟨g13, 6, none⟩ = some (.int .u16 (we : Int)) ∧ W.cell? ⟨g13, 3, none⟩ = some (.int .u32 (ttl : Int))) (by kernel_rfl) ⟨HV0.out.cell 7, HV0.out.cell 5, HV0.out.cell 6, HV0.out.cell 3⟩ (fun hH => ?_)
              refine reg_take 0 (v := ?_) rfl (by kernel_rfl) (fun _ _ _ h => h) (by rfl) hH ?_ ?_
              rotate_left
              · intro w hSw; (try dsimp only at hSw); obtain ⟨s0, s1, s2, s3⟩ := hSw; go_simp; (try with_reducible rfl)
              (try simp only [Act.put, List.setIfInBounds_toArray, List.set_cons_zero, List.set_cons_succ])
              refine reg_take 1 (v := ?_) rfl (by kernel_rfl) (fun _ _ _ h => h) (by rfl) hH ?_ ?_
              rotate_left
              · intro w hSw; (try dsimp only at hSw); obtain ⟨s0, s1, s2, s3⟩ := hSw; go_simp; (try with_reducible rfl)
              (try simp only [Act.put, List.setIfInBounds_toArray, List.set_cons_zero, List.set_cons_succ])
              refine reg_take 3 (v := ?_) rfl (by kernel_rfl) (fun _ _ _ h => h) (by rfl) hH ?_ ?_
              rotate_left
              · intro w hSw; (try dsimp only at hSw); obtain ⟨s0, s1, s2, s3⟩ := hSw; go_simp; (try with_reducible rfl)
              (try simp only [Act.put, List.setIfInBounds_toArray, List.set_cons_zero, List.set_cons_succ])
              refine reg_take 4 (v := ?_) rfl (by kernel_rfl) (fun _ _ _ h => h) (by rfl) hH ?_ ?_
              rotate_left
              · intro w hSw; (try dsimp only at hSw); obtain ⟨s0, s1, s2, s3⟩ := hSw; go_simp; (try with_reducible rfl)
              (try simp only [Act.put, List.setIfInBounds_toArray, List.set_cons_zero, List.set_cons_succ])
              refine reg_take 5 (v := ?_) rfl (by kernel_rfl) (fun _ _ _ h => h) (by rfl) hH ?_ ?_
              rotate_left
              · intro w hSw; (try dsimp only at hSw); obtain ⟨s0, s1, s2, s3⟩ := hSw; go_simp; (try with_reducible rfl)
              (try simp only [Act.put, List.setIfInBounds_toArray, List.set_cons_zero, List.set_cons_succ])
              refine reg_take 6 (v := ?_) rfl (by kernel_rfl) (fun _ _ _ h => h) (by rfl) hH ?_ ?_
              rotate_left
              · intro w hSw; (try dsimp only at hSw); obtain ⟨s0, s1, s2, s3⟩ := hSw; go_simp; (try with_reducible rfl)
              (try simp only [Act.put, List.setIfInBounds_toArray, List.set_cons_zero, List.set_cons_succ])
              refine reg_take 7 (v := ?_) rfl (by kernel_rfl) (fun _ _ _ h => h) (by rfl) hH ?_ ?_
              rotate_left
              · intro w hSw; (try dsimp only at hSw); obtain ⟨s0, s1, s2, s3⟩ := hSw; go_simp; (try with_reducible rfl)
              (try simp only [Act.put, List.setIfInBounds_toArray, List.set_cons_zero, List.set_cons_succ])
              refine reg_take 8 (v := ?_) rfl (by kernel_rfl) (fun _ _ _ h => h) (by rfl) hH ?_ ?_
              rotate_left
              · intro w hSw; (try dsimp only at hSw); obtain ⟨s0, s1, s2, s3⟩ := hSw; go_simp; (try with_reducible rfl)
              (try simp only [Act.put, List.setIfInBounds_toArray, List.set_cons_zero, List.set_cons_succ])
              refine reg_take 9 (v := ?_) rfl (by kernel_rfl) (fun _ _ _ h => h) (by rfl) hH ?_ ?_
              rotate_left
              · intro w hSw; (try dsimp only at hSw); obtain ⟨s0, s1, s2, s3⟩ := hSw; go_simp; (try with_reducible rfl)
              (try simp only [Act.put, List.setIfInBounds_toArray, List.set_cons_zero, List.set_cons_succ])
              refine reg_take 10 (v := ?_) rfl (by kernel_rfl) (fun _ _ _ h => h) (by rfl) hH ?_ ?_
              rotate_left
              · intro w hSw; (try dsimp only at hSw); obtain ⟨s0, s1, s2, s3⟩ := hSw; go_simp; (try with_reducible rfl)
              (try simp only [Act.put, List.setIfInBounds_toArray, List.set_cons_zero, List.set_cons_succ])
              refine reg_take 11 (v := ?_) rfl (by kernel_rfl) (fun _ _ _ h => h) (by rfl) hH ?_ ?_
              rotate_left
              · intro w hSw; (try dsimp only at hSw); obtain ⟨s0, s1, s2, s3⟩ := hSw; go_simp; (try with_reducible rfl)
              (try simp only [Act.put, List.setIfInBounds_toArray, List.set_cons_zero, List.set_cons_succ])
              refine reg_take 12 (v := ?_) rfl (by kernel_rfl) (fun _ _ _ h => h) (by rfl) hH ?_ ?_
              rotate_left
              · intro w hSw; (try dsimp only at hSw); obtain ⟨s0, s1, s2, s3⟩ := hSw; go_simp; (try with_reducible rfl)
              (try simp only [Act.put, List.setIfInBounds_toArray, List.set_cons_zero, List.set_cons_succ])
              refine reg_take 13 (v := ?_) rfl (by kernel_rfl) (fun _ _ _ h => h) (by rfl) hH ?_ ?_
              rotate_left
              · intro w hSw; (try dsimp only at hSw); obtain ⟨s0, s1, s2, s3⟩ := hSw; go_simp; (try with_reducible rfl)
              (try simp only [Act.put, List.setIfInBounds_toArray, List.set_cons_zero, List.set_cons_succ])
              refine wpAnyH_ready (rs := [2]) (by kernel_rfl) (by simp) ?_
              refine reg_cons 2 rfl (fun K' hK => ?_) AllReadyH.nil
              go_simp
              go_at_call 90
              refine (join_at ho tb nT wr.heap.size _ HNT.out HTG.out.drew).mono ?_
              rintro e w4 ⟨rfl, hb4⟩
              have hb34 : Below w3.heap.size w3 w4 := (Below.refl _ w3).drew.trans hb4
              have V4 := HV0.out.below hb34 HV0.out.lt
              have HV4 := Lib.hid V4
              have HM4 := Lib.hid (HM3.out.far hb34)
              clear hH V4
              (try dsimp only)
              refine hK.out _ _ ⟨HV4.out.cell 7, HV4.out.cell 5, HV4.out.cell 6, HV4.out.cell 3⟩ (fun hH => ?_)
              (try simp only [Act.put, List.setIfInBounds_toArray, List.set_cons_zero, List.set_cons_succ])
              clear hK
              refine reg_take 14 (v := ?_) rfl (by kernel_rfl) (fun _ _ _ h => h) (by rfl) hH ?_ ?_
              rotate_left
              · intro w hSw; (try dsimp only at hSw); obtain ⟨s0, s1, s2, s3⟩ := hSw; go_simp; (try with_reducible rfl)
              (try simp only [Act.put, List.setIfInBounds_toArray, List.set_cons_zero, List.set_cons_succ])
              refine wpAnyH_ready (rs := [15]) (by kernel_rfl) (by simp) ?_
              refine reg_cons 15 rfl (fun K' hK => ?_) AllReadyH.nil
              go_simp
              have V5 := HV4.out.alloc (.cells #[.string ⟨(hostT ho).toArray⟩, .int .i64 (P : Int), .int .i64 (pr : Int), .int .i64 (we : Int), .int .u32 (ttl : Int)] 31)
              have b5 := bl_new w4 (.cells #[.string ⟨(hostT ho).toArray⟩, .int .i64 (P : Int), .int .i64 (pr : Int), .int .i64 (we : Int), .int .u32 (ttl : Int)] 31)
              have HM5 := Lib.hid (HM4.out.far b5)
              refine hK.out _ _ ⟨V5.cell 7, V5.cell 5, V5.cell 6, V5.cell 3⟩ (fun hH => ?_)
              (try simp only [Act.put, List.setIfInBounds_toArray, List.set_cons_zero, List.set_cons_succ])
              clear hK
              refine wpAnyH_ready (rs := [16]) (by kernel_rfl) (by simp) ?_
              refine reg_cons 16 rfl (fun K' hK => ?_) AllReadyH.nil
              have hok5 := HM5.out.okO
              rw [HNO.out] at hok5
              refine step_appM rfl _ _ _ _ rfl (M + 1) 5 31 i0 _ 48 Tryz.underlying27 hi hz0 hz1 hz2 rfl (by omega) (.slice Ao no co) no (acs lo) hok5 rfl (.slice (some ⟨w4.heap.size, 0, none⟩) 1 1) rfl 1 (Ad.cells ⟨hostT ho, (P : Int), (pr : Int), (we : Int), ttl⟩) (litM_src (w := w4) Tryz.underlying27 31 5 (Ad.cells ⟨hostT ho, (P : Int), (pr : Int), (we : Int), ttl⟩) 1 rfl (acells_one _)) (by have := HM5.out.ll; have := HNO.out; omega) (by have := HM5.out.lt.2; simp at this ⊢; omega) ?_
              intro v6 w6 ho6 hg6 hz6
              obtain ⟨A6, c6, rfl, _, _, _⟩ := ho6.form
              have V6 := V5.grown hg6.1 (fun e => by have := OwM.block_lt (HX.out.okO) g13 (by rw [HNO.out]; exact e.symm); omega)
              have HV6 := Lib.hid V6
              refine hK.out _ _ ⟨HV6.out.cell 7, HV6.out.cell 5, HV6.out.cell 6, HV6.out.cell 3⟩ (fun hH => ?_)
              (try simp only [Act.put, List.setIfInBounds_toArray, List.set_cons_zero, List.set_cons_succ])
              clear hK V5 V6
              refine reg_take 17 (v := ?_) rfl (by kernel_rfl) (fun _ _ _ h => h) (by rfl) hH ?_ ?_
              rotate_left
              · intro w hSw; (try dsimp only at hSw); obtain ⟨s0, s1, s2, s3⟩ := hSw; go_simp; (try with_reducible rfl)
              (try simp only [Act.put, List.setIfInBounds_toArray, List.set_cons_zero, List.set_cons_succ])
              refine wpAnyH_done (by kernel_rfl) ?_ _
              clear hH
              go_wp2_with fail
              go_meet
              case rel =>
                refine ⟨0, ⟨some ⟨w.heap.size + 1, 0, none⟩, 3, none, 0, some ⟨tb, 0, none⟩, nT, ⟨svq, ttl, [], pr, we, P, hostOf ho⟩⟩, A6, c6, no + 1, lo ++ [⟨hostT ho, (P : Int), (pr : Int), (we : Int), ttl⟩], rfl, rfl, by omega, Lib.hid ?_, Lib.hid ?_, Lib.hid (by simp [HNO.out]), Lib.hid ?_, HV6, Lib.hid ?_⟩
                · rw [HS.out]; exact sec_0 (by omega)
                · rw [HS.out, rec_0 (by omega) (by omega), HP.out]
                · rw [HTK.out, HS.out, out_snoc_yes (by omega) (by omega) (by omega), HO.out, HP.out]
                · have hno := HNO.out
                  subst hno
                  exact HM4.out.addO ⟨hostT ho, (P : Int), (pr : Int), (we : Int), ttl⟩ b5 hg6 ho6
      case rest =>
        obtain ⟨i, x, A2, c2, n2, l2, rfl, rfl, hi3, HI, HXR, HL2, HO2, HVX, HX4⟩ := hcut
        obtain ⟨xA, xc, dA, dc, tA, tc, ⟨⟨nm, ty, cl⟩, rttl, rd, rpr, rwe, rpo, tg⟩⟩ := x
        have hiI : (i : Int) < 3 := by omega
        have hi0 : (0 : Int) ≤ (i : Int) := by omega
        have hV : Vx wc g13 88 [.slice xA nm.length xc, .int .u16 (ty : Int), .int .u16 (cl : Int), .int .u32 (rttl : Int), .slice dA rd.length dc, .int .u16 (rpr : Int), .int .u16 (rwe : Int), .int .u16 (rpo : Int), .slice tA tg.length tc] := HVX.out
        have HVC := Lib.hid hV
        have hMlt := HX4.out.lt.2
        have hMg : M < g13 := by have := HX.out.lt.2; omega
        clear hV HVX
        clear y0 y5
        go_upto_region 19 with fail
        refine wp_region_held_drew (S := fun W => Vx W g13 88 [.slice xA nm.length xc, .int .u16 (ty : Int), .int .u16 (cl : Int), .int .u32 (rttl : Int), .slice dA rd.length dc, .int .u16 (rpr : Int), .int .u16 (rwe : Int), .int .u16 (rpo : Int), .slice tA tg.length tc]) (by kernel_rfl) HVC.out.drew (fun hH => ?_)
        refine reg_take 0 (v := ?_) rfl (by kernel_rfl) (fun _ _ _ h => h) (by rfl) hH ?_ ?_
        rotate_left
        · intro w hSw; (try dsimp only at hSw); go_simp; (try with_reducible rfl)
        (try simp only [Act.put, List.setIfInBounds_toArray, List.set_cons_zero, List.set_cons_succ])
        refine reg_take 1 (v := ?_) rfl (by kernel_rfl) (fun _ _ _ h => h) (by rfl) hH ?_ ?_
        rotate_left
        · intro w hSw; (try dsimp only at hSw); go_simp; (try with_reducible rfl)
        (try simp only [Act.put, List.setIfInBounds_toArray, List.set_cons_zero, List.set_cons_succ])
        refine reg_take 2 (v := ?_) rfl (by kernel_rfl) (fun _ _ _ h => h) (by rfl) hH ?_ ?_
        rotate_left
        · intro w hSw; (try dsimp only at hSw); go_simp; (try with_reducible rfl)
        (try simp only [Act.put, List.setIfInBounds_toArray, List.set_cons_zero, List.set_cons_succ])
        refine reg_take 3 (v := ?_) rfl (by kernel_rfl) (fun _ _ _ h => h) (by rfl) hH ?_ ?_
        rotate_left
        · intro w hSw; (try dsimp only at hSw); go_simp; (try with_reducible rfl)
        (try simp only [Act.put, List.setIfInBounds_toArray, List.set_cons_zero, List.set_cons_succ])
        refine reg_load 5 rfl (by kernel_rfl) 88 _ (by rfl) g13 88 [.slice xA nm.length xc, .int .u16 (ty : Int), .int .u16 (cl : Int), .int .u32 (rttl : Int), .slice dA rd.length dc, .int .u16 (rpr : Int), .int .u16 (rwe : Int), .int .u16 (rpo : Int), .slice tA tg.length tc] _ (fun _ _ _ h => h) (by rfl) hH (by rfl) (fun _ h => h) Tryz.underlying88 (by rfl) (by kernel_rfl) ?_
        (try simp only [Act.put, List.setIfInBounds_toArray, List.set_cons_zero, List.set_cons_succ])
        refine reg_take 8 (v := ?_) rfl (by kernel_rfl) (fun _ _ _ h => h) (by rfl) hH ?_ ?_
        rotate_left
        · intro w hSw; (try dsimp only at hSw); go_simp; (try with_reducible rfl)
        (try simp only [Act.put, List.setIfInBounds_toArray, List.set_cons_zero, List.set_cons_succ])
        refine wpAnyH_ready (rs := [4, 6]) (by kernel_rfl) (by simp) ?_
        refine reg_cons 4 rfl (fun K' hK => ?_) (reg_cons 6 rfl (fun K' hK => ?_) AllReadyH.nil)
        · skip
          have c8 := HX4.out.cellR i hi3
          go_simp
          clear c8
          refine hK.out _ _ HVC.out.drew (fun hH => ?_)
          (try simp only [Act.put, List.setIfInBounds_toArray, List.set_cons_zero, List.set_cons_succ])
          clear hK
          refine wpAnyH_ready (rs := [6]) (by kernel_rfl) (by simp) ?_
          refine reg_cons 6 rfl (fun K' hK => ?_) AllReadyH.nil
          go_simp
          refine hK.out _ _ (HVC.out.drew.alloc (.cells #[.slice xA nm.length xc, .int .u16 (ty : Int), .int .u16 (cl : Int), .int .u32 (rttl : Int), .slice dA rd.length dc, .int .u16 (rpr : Int), .int .u16 (rwe : Int), .int .u16 (rpo : Int), .slice tA tg.length tc] 88)) (fun hH => ?_)
          (try simp only [Act.put, List.setIfInBounds_toArray, List.set_cons_zero, List.set_cons_succ])
          clear hK
          refine wpAnyH_ready (rs := [7]) (by kernel_rfl) (by simp) ?_
          refine reg_cons 7 rfl (fun K' hK => ?_) AllReadyH.nil
          have b5 := bl_new wc (.cells #[.slice xA nm.length xc, .int .u16 (ty : Int), .int .u16 (cl : Int), .int .u32 (rttl : Int), .slice dA rd.length dc, .int .u16 (rpr : Int), .int .u16 (rwe : Int), .int .u16 (rpo : Int), .slice tA tg.length tc] 88)
          have HM5 := Lib.hid (HX4.out.far b5)
          have V5 := HVC.out.alloc (.cells #[.slice xA nm.length xc, .int .u16 (ty : Int), .int .u16 (cl : Int), .int .u32 (rttl : Int), .slice dA rd.length dc, .int .u16 (rpr : Int), .int .u16 (rwe : Int), .int .u16 (rpo : Int), .slice tA tg.length tc] 88)
          refine step_appM rfl _ _ _ _ rfl (M + 1) 9 88 j0 _ 96 Tryz.underlying69 hj' hy0 hy1 hy2 rfl (by omega) (.slice (rs i).A (rs i).l.length (rs i).c) (rs i).l.length (rcs (rs i).l) ((HM5.out.okR i hi3).drew) rfl (.slice (some ⟨wc.heap.size, 0, none⟩) 1 1) rfl 1 (RR.cells ⟨xA, xc, dA, dc, tA, tc, ⟨⟨nm, ty, cl⟩, rttl, rd, rpr, rwe, rpo, tg⟩⟩) (litM_src (w := wc.drew) Tryz.underlying69 88 9 (RR.cells ⟨xA, xc, dA, dc, tA, tc, ⟨⟨nm, ty, cl⟩, rttl, rd, rpr, rwe, rpo, tg⟩⟩) 1 rfl (rcells_one _)) (by have := HM5.out.lr i; omega) (by simp; omega) ?_
          intro v6 w6 ho6 hg6 hz6
          obtain ⟨A6, c6, rfl, _, _, _⟩ := ho6.form
          have hbl6 : Below (M + 1) (wc.alloc (.cells #[.slice xA nm.length xc, .int .u16 (ty : Int), .int .u16 (cl : Int), .int .u32 (rttl : Int), .slice dA rd.length dc, .int .u16 (rpr : Int), .int .u16 (rwe : Int), .int .u16 (rpo : Int), .slice tA tg.length tc] 88)).drew w6 := hg6.below (OwM.lt (HM5.out.okR i hi3)) (by simp; omega)
          have hne13 : ∀ e : (Value.slice (rs i).A (rs i).l.length (rs i).c).ownBlock = some g13, False := fun e => by have := OwM.block_lt (HX.out.okR i hi3) g13 e; omega
          have V6 := V5.drew.grown hg6.1 (fun e => hne13 e.symm)
          have HV6 := Lib.hid V6
          clear hH
          refine hK.out _ _ HV6.out (fun hH => ?_)
          (try simp only [Act.put, List.setIfInBounds_toArray, List.set_cons_zero, List.set_cons_succ])
          clear hK V5 V6
          refine reg_take 9 (v := ?_) rfl (by kernel_rfl) (fun _ _ _ h => h) (by rfl) hH ?_ ?_
          rotate_left
          · intro w hSw; (try dsimp only at hSw); go_simp; (try with_reducible rfl)
          (try simp only [Act.put, List.setIfInBounds_toArray, List.set_cons_zero, List.set_cons_succ])
          refine wpAnyH_ready (rs := [10]) (by kernel_rfl) (by simp) ?_
          refine reg_cons 10 rfl (fun K' hK => ?_) AllReadyH.nil
          have VM := (HM5.out.vm.drew).below hbl6 (by omega)
          have r3 : w6.cell? ⟨M, 3 + i, none⟩ = some (.slice (rs i).A (rs i).l.length (rs i).c) := by
            rw [VM.cell]; exact mrowA_get _ _ _ _ _ _ hi3
          have f3 := VM.free (3 + i)
          go_simp
          refine hK.out _ _ (HV6.out.setO (g' := M) (by omega) (3 + i) (.slice A6 ((rs i).l.length + 1) c6)) (fun hH => ?_)
          clear hK
          refine wpAnyH_done (by kernel_rfl) ?_ _
          clear hH r3 f3
          go_wp2_with fail
          go_roundw
          case rel =>
            refine ⟨k + 1, updF rs i ⟨A6, c6, (rs i).l ++ [⟨xA, xc, dA, dc, tA, tc, ⟨⟨nm, ty, cl⟩, rttl, rd, rpr, rwe, rpo, tg⟩⟩]⟩, A2, c2, n2, l2, by omega, rfl, by go_num, HL2, Lib.hid ?_, HO2, Lib.hid ?_⟩
            · exact HX4.out.addR hi3 b5.drew hg6 ho6
            · rw [HTK.out, ansK_snoc, HE.out, add_r, HI.out, ← HXR.out]
              congr 1
              funext j
              by_cases e : j = i
              · subst e; rw [updF_same, updF_same]; simp
              · rw [updF_ne _ _ e, updF_ne _ _ e]
          case measure => simp [intOf]; omega
        · skip
          go_simp
          refine hK.out _ _ (HVC.out.drew.alloc (.cells #[.slice xA nm.length xc, .int .u16 (ty : Int), .int .u16 (cl : Int), .int .u32 (rttl : Int), .slice dA rd.length dc, .int .u16 (rpr : Int), .int .u16 (rwe : Int), .int .u16 (rpo : Int), .slice tA tg.length tc] 88)) (fun hH => ?_)
          (try simp only [Act.put, List.setIfInBounds_toArray, List.set_cons_zero, List.set_cons_succ])
          clear hK
          refine wpAnyH_ready (rs := [4]) (by kernel_rfl) (by simp) ?_
          refine reg_cons 4 rfl (fun K' hK => ?_) AllReadyH.nil
          have c8 := (HX4.out.far (bl_new wc (.cells #[.slice xA nm.length xc, .int .u16 (ty : Int), .int .u16 (cl : Int), .int .u32 (rttl : Int), .slice dA rd.length dc, .int .u16 (rpr : Int), .int .u16 (rwe : Int), .int .u16 (rpo : Int), .slice tA tg.length tc] 88))).cellR i hi3
          go_simp
          clear c8
          refine hK.out _ _ (HVC.out.alloc (.cells #[.slice xA nm.length xc, .int .u16 (ty : Int), .int .u16 (cl : Int), .int .u32 (rttl : Int), .slice dA rd.length dc, .int .u16 (rpr : Int), .int .u16 (rwe : Int), .int .u16 (rpo : Int), .slice tA tg.length tc] 88)).drew (fun hH => ?_)
          (try simp only [Act.put, List.setIfInBounds_toArray, List.set_cons_zero, List.set_cons_succ])
          clear hK
          refine wpAnyH_ready (rs := [7]) (by kernel_rfl) (by simp) ?_
          refine reg_cons 7 rfl (fun K' hK => ?_) AllReadyH.nil
          have b5 := bl_new wc (.cells #[.slice xA nm.length xc, .int .u16 (ty : Int), .int .u16 (cl : Int), .int .u32 (rttl : Int), .slice dA rd.length dc, .int .u16 (rpr : Int), .int .u16 (rwe : Int), .int .u16 (rpo : Int), .slice tA tg.length tc] 88)
          have HM5 := Lib.hid (HX4.out.far b5)
          have V5 := HVC.out.alloc (.cells #[.slice xA nm.length xc, .int .u16 (ty : Int), .int .u16 (cl : Int), .int .u32 (rttl : Int), .slice dA rd.length dc, .int .u16 (rpr : Int), .int .u16 (rwe : Int), .int .u16 (rpo : Int), .slice tA tg.length tc] 88)
          refine step_appM rfl _ _ _ _ rfl (M + 1) 9 88 j0 _ 96 Tryz.underlying69 hj' hy0 hy1 hy2 rfl (by omega) (.slice (rs i).A (rs i).l.length (rs i).c) (rs i).l.length (rcs (rs i).l) ((HM5.out.okR i hi3).drew) rfl (.slice (some ⟨wc.heap.size, 0, none⟩) 1 1) rfl 1 (RR.cells ⟨xA, xc, dA, dc, tA, tc, ⟨⟨nm, ty, cl⟩, rttl, rd, rpr, rwe, rpo, tg⟩⟩) (litM_src (w := wc.drew) Tryz.underlying69 88 9 (RR.cells ⟨xA, xc, dA, dc, tA, tc, ⟨⟨nm, ty, cl⟩, rttl, rd, rpr, rwe, rpo, tg⟩⟩) 1 rfl (rcells_one _)) (by have := HM5.out.lr i; omega) (by simp; omega) ?_
          intro v6 w6 ho6 hg6 hz6
          obtain ⟨A6, c6, rfl, _, _, _⟩ := ho6.form
          have hbl6 : Below (M + 1) (wc.alloc (.cells #[.slice xA nm.length xc, .int .u16 (ty : Int), .int .u16 (cl : Int), .int .u32 (rttl : Int), .slice dA rd.length dc, .int .u16 (rpr : Int), .int .u16 (rwe : Int), .int .u16 (rpo : Int), .slice tA tg.length tc] 88)).drew w6 := hg6.below (OwM.lt (HM5.out.okR i hi3)) (by simp; omega)
          have hne13 : ∀ e : (Value.slice (rs i).A (rs i).l.length (rs i).c).ownBlock = some g13, False := fun e => by have := OwM.block_lt (HX.out.okR i hi3) g13 e; omega
          have V6 := V5.drew.grown hg6.1 (fun e => hne13 e.symm)
          have HV6 := Lib.hid V6
          clear hH
          refine hK.out _ _ HV6.out (fun hH => ?_)
          (try simp only [Act.put, List.setIfInBounds_toArray, List.set_cons_zero, List.set_cons_succ])
          clear hK V5 V6
          refine reg_take 9 (v := ?_) rfl (by kernel_rfl) (fun _ _ _ h => h) (by rfl) hH ?_ ?_
          rotate_left
          · intro w hSw; (try dsimp only at hSw); go_simp; (try with_reducible rfl)
          (try simp only [Act.put, List.setIfInBounds_toArray, List.set_cons_zero, List.set_cons_succ])
          refine wpAnyH_ready (rs := [10]) (by kernel_rfl) (by simp) ?_
          refine reg_cons 10 rfl (fun K' hK => ?_) AllReadyH.nil
          have VM := (HM5.out.vm.drew).below hbl6 (by omega)
          have r3 : w6.cell? ⟨M, 3 + i, none⟩ = some (.slice (rs i).A (rs i).l.length (rs i).c) := by
            rw [VM.cell]; exact mrowA_get _ _ _ _ _ _ hi3
          have f3 := VM.free (3 + i)
          go_simp
          refine hK.out _ _ (HV6.out.setO (g' := M) (by omega) (3 + i) (.slice A6 ((rs i).l.length + 1) c6)) (fun hH => ?_)
          clear hK
          refine wpAnyH_done (by kernel_rfl) ?_ _
          clear hH r3 f3
          go_wp2_with fail
          go_roundw
          case rel =>
            refine ⟨k + 1, updF rs i ⟨A6, c6, (rs i).l ++ [⟨xA, xc, dA, dc, tA, tc, ⟨⟨nm, ty, cl⟩, rttl, rd, rpr, rwe, rpo, tg⟩⟩]⟩, A2, c2, n2, l2, by omega, rfl, by go_num, HL2, Lib.hid ?_, HO2, Lib.hid ?_⟩
            · exact HX4.out.addR hi3 b5.drew hg6 ho6
            · rw [HTK.out, ansK_snoc, HE.out, add_r, HI.out, ← HXR.out]
              congr 1
              funext j
              by_cases e : j = i
              · subst e; rw [updF_same, updF_same]; simp
              · rw [updF_ne _ _ e, updF_ne _ _ e]
          case measure => simp [intOf]; omega
    · obtain rfl : K = k := by omega
      have hv : Vx wr M 72 [.int .u16 (id : Int), .int .u16 32768, .slice (some ⟨q3, 0, none⟩) 1 1, .slice (rs 0).A (rs 0).l.length (rs 0).c, .slice (rs 1).A (rs 1).l.length (rs 1).c, .slice (rs 2).A (rs 2).l.length (rs 2).c] := HX.out.vm
      obtain ⟨c0, c1, c2, c3, c4, c5⟩ := hv.c6
      have hvr := HX.out.vr
      go_wp2_with (refine wpList_store_row rfl 72 _ _ rfl w.heap.size _ rfl rfl _ _ hvr (by kernel_rfl) rfl (by kernel_rfl) ?_)
      refine bodyPost_ret (resM Tryz.results37 _ _ w.heap.size _ _ _ rfl rfl (hvr.row [.int .u16 (id : Int), .int .u16 32768, .slice (some ⟨q3, 0, none⟩) 1 1, .slice (rs 0).A (rs 0).l.length (rs 0).c, .slice (rs 1).A (rs 1).l.length (rs 1).c, .slice (rs 2).A (rs 2).l.length (rs 2).c]) rfl) rfl ?_
      have hlo : lo = outM l := by rw [HO.out, HK.out]; rfl
      have hno := HNO.out
      subst hno
      subst hlo
      have hlt := HX.out.lt
      refine ⟨M, some ⟨q3, 0, none⟩, 1, [⟨some ⟨w.heap.size + 1, 0, none⟩, 3, svq⟩], rs, Ao, co, rfl, ?_, rfl, ?_, HM.out, ?_⟩
      · have := HE.out
        rw [HK.out] at this
        exact this
      · exact (HX.out.fam.only (Only.row wr w.heap.size _) (by omega) (by omega)).mono (fun _ _ => rfl) (fun o ho => .inr ho)
      · exact HX.out.bl.trans ((Only.row wr w.heap.size _).below (Nat.le_refl _) HX.out.bl.size)
end Sv
end Go.Proofs.YtlipmlbijddopaaGreatDoor
set_option linter.unusedVariables false
set_option linter.unusedSimpArgs false
namespace Go.Proofs.YtlipmlbijddopaaGreatDoor
open Go.RowKit
namespace Sv
theorem hostT_len (k : Nat) : (hostT k).length ≤ 10 := by
  unfold hostT
  rcases four k with h | h | h | h <;> rw [h] <;> decide
theorem ad_ok {s : Sa} (h : okS s) : AdOk (ad s) := by
  obtain ⟨h0, h1, h2, h3, h4, _⟩ := h
  have hl := hostT_len s.host
  have hp : port s < 65536 := by unfold port; omega
  exact ⟨by unfold ad; dsimp only; omega, by unfold ad; dsimp only; omega, by unfold ad; dsimp only; omega, by unfold ad; dsimp only; omega, by unfold ad; dsimp only; omega, by unfold ad; dsimp only; omega, by unfold ad; dsimp only; omega, h4⟩
theorem outM_len (l : List Sa) : (outM l).length ≤ 20 := by
  unfold outM outK
  rw [List.length_map]
  refine Nat.le_trans (List.length_filter_le _ _) ?_
  rw [List.length_take]; omega
theorem outM_ok {l : List Sa} (h : ∀ s ∈ l, okS s) : ∀ a ∈ outM l, AdOk a := by
  intro a ha
  obtain ⟨s, hs, rfl⟩ := List.mem_map.1 ha
  exact ad_ok (h s (List.mem_of_mem_take (List.mem_filter.1 hs).1))
theorem answer_any (id n : Nat) (A : Option Addr) (c : Nat) (l : List Sa) (w : World) (hid : id < 65536) (h : Rd w w.heap.size A (n * 6) (scs l)) (hl : l.length = n) (hc : n ≤ c) (hx : ∀ s ∈ l, okS s) :
    Calls Tryz.prog 37 #[.int .u16 (id : Int), .slice A n c] w fun e w' => ∃ (x : MR) (Ao : Option Addr) (co : Nat), e = .returned (.tuple #[.agg x.cells.toArray, .slice Ao (outM l).length co]) ∧ x.m = ansM id l ∧ MOw w' w.heap.size x ∧ AsRd w' w'.heap.size Ao co (outM l).length (outM l) ∧ Below w.heap.size w w' := by
  refine (answer_at id n A c l w hid h hl hc hx).mono ?_
  rintro e w' ⟨M, Aq, cq, lq, rs, Ao, co, rfl, he, hq, hF, hM, hb⟩
  refine ⟨⟨id, 32768, Aq, cq, lq, (rs 0).A, (rs 0).c, (rs 0).l, (rs 1).A, (rs 1).c, (rs 1).l, (rs 2).A, (rs 2).c, (rs 2).l⟩, Ao, co, rfl, ?_, hF.mow (fun i hi => by unfold rowA; rw [if_neg (by omega)]) (by omega) hM, ?_, hb⟩
  · rw [he]
    unfold MR.m msOf
    dsimp only
    rw [hq]
  · have ho : OwM w' (M + 1) 31 5 (.slice Ao (outM l).length co) (outM l).length (acs (outM l)) := hF.ok 3 (by omega)
    obtain ⟨A2, c2, e2, hc2, _, hr⟩ := ho.form
    cases e2
    have h20 := outM_len l
    exact ⟨hr, rfl, hc2, by omega, outM_ok hx⟩
/-- the bytes of a message that can be written -/
theorem fine_write (x : MR) (m : Ms) (R : List UInt8) (L : Nat) (w W : World) (base : Nat) (hm : x.m = m) (hf : Fine m) (hR : R = formM m) (hL : L = R.length) (ho : MOw w base x) (hb : Below w.heap.size w W) :
    Calls Tryz.prog 36 #[.agg x.cells.toArray] W fun e w' => ∃ A c, e = .returned (.tuple #[.slice A L c, .int .i64 0]) ∧ L ≤ c ∧ Rd w' w'.heap.size A L (bc R) ∧ Below W.heap.size W w' := by
  have hrd := (mow_far ho hb).rd (by rw [hm]; exact hf.right) (by rw [hm]; exact hf.ok) (by rw [hm]; exact hf.num)
  have k := write_at x W hrd
  rw [hm, hf.write, ← hR] at k
  refine k.mono ?_
  rintro e w' ⟨v, rfl, hv, hb'⟩
  obtain ⟨A, c, rfl, hc, hr⟩ := Ow.form7 hv L (by rw [bc_length, hL])
  exact ⟨A, c, rfl, hc, hr, hb'⟩
/-- the query -/
theorem ask_query (id : Nat) (Q : List UInt8) (L : Nat) (w : World) (hid : id < 65536) (hQ : Q = formM (Srv.askM id svc)) (hL : L = Q.length) :
    Calls Tryz.prog 32 #[.int .u16 (id : Int), .string ⟨#[95, 109, 101, 116, 114, 105, 99, 115, 46, 95, 116, 99, 112, 46, 101, 120, 97, 109, 112, 108, 101]⟩] w fun e w' => ∃ A c, e = .returned (.tuple #[.slice A L c, .int .i64 0]) ∧ L ≤ c ∧ Rd w' w'.heap.size A L (bc Q) ∧ Below w.heap.size w w' := by
  have k := sask_at id [95, 109, 101, 116, 114, 105, 99, 115, 46, 95, 116, 99, 112, 46, 101, 120, 97, 109, 112, 108, 101] w hid (by simp)
  rw [ask_svc id hid, ← hQ] at k
  refine k.mono ?_
  rintro e w' ⟨v, rfl, hv, hb'⟩
  obtain ⟨A, c, rfl, hc, hr⟩ := Ow.form7 hv L (by rw [bc_length, hL])
  exact ⟨A, c, rfl, hc, hr, hb'⟩
/-- what is taken out of a reply -/
theorem take_got (A1 A2 : Option Addr) (c1 c2 L1 L2 : Nat) (q r : List UInt8) (G : List Ad) (er : Nat) (w : World) (hG : Srv.takeN q r = (G, er)) (hL1 : L1 = q.length) (hL2 : L2 = r.length) (h1 : Rd w w.heap.size A1 L1 (bc q)) (h2 : Rd w w.heap.size A2 L2 (bc r)) (hc1 : L1 ≤ c1) (hc2 : L2 ≤ c2) (hb1 : L1 ≤ 140737488355328) (hb2 : L2 ≤ 140737488355328) :
    Calls Tryz.prog 35 #[.slice A1 L1 c1, .slice A2 L2 c2] w fun e w' => ∃ A c, e = .returned (.tuple #[.slice A G.length c, .int .i64 (er : Int)]) ∧ AsRd w' w'.heap.size A c G.length G ∧ G.length ≤ 4096 ∧ Below w.heap.size w w' := by
  have k := stake_at A1 A2 c1 c2 L1 L2 q r w hL1.symm hL2.symm h1 h2 hc1 hc2 hb1 hb2
  rw [hG] at k
  refine k.mono ?_
  rintro e w' ⟨v, rfl, ho, hx, hn, hb⟩
  obtain ⟨A, c, rfl, hr⟩ := AsRd.of_own ho rfl (by dsimp only at hn ⊢; omega) hx
  exact ⟨A, c, rfl, hr, hn, hb⟩
end Sv
end Go.Proofs.YtlipmlbijddopaaGreatDoor
