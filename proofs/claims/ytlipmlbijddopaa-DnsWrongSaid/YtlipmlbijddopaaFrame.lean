/-
  From a law's contract to its row: the call returns true and nothing that was there has changed, so the arguments read as they did.
-/
import Derived.Test.YtlipmlbijddopaaRows
import Derived.Test.YtlipmlbijddopaaBase
import Derived.ProofKit
import Derived.SizedLaws
import Derived.Deep.Strs
set_option linter.unusedVariables false
namespace Go.Proofs.Ytlipmlbijddopaa
open Go.ChangeShapes Go.WideShapes Go.ChangeAt Go.RowKit
open Go.ChangeMaps (open_string)
theorem Try.own : ownKnob Try.prog.godebug = none := by kernel_rfl
theorem Try.laidOut : laidOutB Try.prog = true := by kernel_rfl

theorem Try.cellsByte : Try.prog.cellsOf 5 = 1 := by kernel_rfl
theorem Try.bytesByte : Try.prog.bytesOf 5 = 1 := by kernel_rfl
theorem Try.cellsStr : Try.prog.cellsOf 9 = 1 := by kernel_rfl
theorem Try.bytesStr : Try.prog.bytesOf 9 = 16 := by kernel_rfl
theorem Try.cellsInt : Try.prog.cellsOf 3 = 1 := by kernel_rfl
theorem Try.bytesInt : Try.prog.bytesOf 3 = 8 := by kernel_rfl

theorem trodAll_stays {P : Program} (hl : laidOutB P = true) {H : Type} {enc : TypeId × Value → H} {W W' : World} {sp : Nat → Bool} (hb : Below W.heap.size W W') : ∀ {ts : List TypeId} {vs : List Value} {ds : List (DataW H)} {ps : List MemPlace},
    ts.all (fun t => P.readableRec t && decide (t < P.types.size)) = true → DataW.TrodAll enc P W 0 (fun _ => true) true ts vs ds ps → (∀ x ∈ ps, x.block < W.heap.size) → (∀ x ∈ ps, sp x.block = true) → DataW.TrodAll enc P W' 0 sp true ts vs ds ps
  | [], [], [], _, _, h, _, _ => h
  | t :: ts, v :: vs, d :: ds, ps, hts, ⟨p, q, h1, h2, e⟩, hlt, hs => by
    simp only [List.all_cons, Bool.and_eq_true, decide_eq_true_eq] at hts
    subst e
    exact ⟨p, q, WideElems.Trod_stays hl hts.1.1 hts.1.2 h1 (fun x hx => hb.same (hlt x (List.mem_append_left _ hx))) (fun x hx => hs x (List.mem_append_left _ hx)),
      trodAll_stays hl hb hts.2 h2 (fun x hx => hlt x (List.mem_append_right _ hx)) (fun x hx => hs x (List.mem_append_right _ hx)), rfl⟩

/-- what a law's contract gets to know of its arguments -/
structure Args (P : Program) {H : Type} (enc : TypeId × Value → H) (W : World) (ts : List TypeId) (args : List Value) (ds : List (DataW H)) (p : List MemPlace) : Prop where
  trod : DataW.TrodAll enc P W 0 (fun _ => true) true ts args ds p
  lt : ∀ x ∈ p, x.block < W.heap.size
  reach : (DataW.weightsEach P ts ds).all (· ≤ reachBytes) = true

theorem law_lifted {C : Checked} {P : Program} (hP : P = C.prog) (own : ownKnob C.prog.godebug = none) (hl : laidOutB P = true) {tb : TypeId} (hb : P.underlying tb = some .bool) {H : Type} {enc : TypeId × Value → H} {os : Os} (started : os.Started) {f : FuncId} {fn : Func} {s : ChangeSpec} (hfn : P.funcs[f]? = some fn) (hres : fn.resultTypes = #[tb])
    (noInit : P.inits.idxOf? f = none) (hvars : s.vars = []) (ts : List TypeId) (hpar : fn.params.toList = ts) (hsp : ∀ ds : List (DataW H), ds.length = ts.length → s.fn H ds = { results := [.lit (.bool true)], args := ds })
    (hts : ts.all (fun t => P.readableRec t && decide (t < P.types.size)) = true)
    (witness : ∃ (w : World) (tape : Tape) (i : Input), w.os = os ∧ (w.forCall tape i).Shaped C.prog ∧ i.vars = [] ∧ Input.okWide C.prog (w.forCall tape i) .any w.heap.size f i ∧
      s.pre6 enc C.prog fn [] false (w.forCall tape i).memory i.args ∧ ({} : Assume).holds C.prog (lone (Frame.enter C.prog f i.args .normal) [] (w.forCall tape i)))
    (contract : ∀ (W : World) (base : Nat) (args : Array Value) (ds : List (DataW H)) (p : List MemPlace), (∀ (j : Nat) t v, fn.params[j]? = some t → args[j]? = some v → Value.okWide P W .any base t v) → Args P enc W ts args.toList ds p →
      Calls P f args W fun e W' => e = .returned (.bool true) ∧ Below W.heap.size W W') :
    ReturnsInHanded {} C os f .any (s.pre6 enc C.prog fn [] false) (s.post enc C.prog fn false true false false) := by
  subst hP
  refine returnsInHanded_of_change_sized (C := C) own started noInit hfn witness ?_
  intro W base args ds gs before hval hW _ hsz _
  have hW' := hW
  obtain ⟨p, q, hA, hV, rfl, hfz, hnd⟩ := hW
  have hlt : ∀ x ∈ p ++ q, x.block < W.heap.size := fun x hx => hW'.lt x hx
  rw [hvars] at hV
  obtain ⟨rfl, rfl⟩ := trodVars_none hV
  have hlen : ∀ {ts : List TypeId} {vs : List Value} {ds : List (DataW H)} {ps : List MemPlace}, DataW.TrodAll enc C.prog W 0 (fun _ => true) true ts vs ds ps → ds.length = ts.length := by
    intro ts
    induction ts with
    | nil => intro vs ds ps h; cases vs <;> cases ds <;> first | rfl | cases h
    | cons t ts ih =>
      intro vs ds ps h
      match vs, ds, h with
      | v :: vs, d :: ds, ⟨p, q, h1, h2, e⟩ => simp [ih h2]
  rw [hpar] at hA
  have hd := hsp ds (hlen hA)
  have hvt : s.plain.varTypes C.prog = [] := by
    have : s.plain.vars = [] := hvars
    unfold DataSpec.varTypes
    rw [this]; rfl
  rw [hpar, hvt, List.append_nil, List.append_nil] at hsz
  rw [List.append_nil] at hlt
  refine (contract W base args ds p hval ⟨hA, hlt, hsz⟩).mono fun e W' h => ⟨.bool true, h.1, ?_⟩
  refine ⟨ds, [], p ++ [], [], p, [], hW', ?_, ?_, ?_, ?_, fun h => by cases h⟩
  · rw [List.append_nil, hd, hres]
    exact trodAll_mk1 (shut_bool hb true)
  · rw [List.append_nil, hd, hpar]
    exact trodAll_stays hl h.2 hts hA hlt (fun x hx => by simpa using hlt x hx)
  · rw [List.append_nil, hd, hvars]
    trivial
  · exact World.keptBut_mono (fun x hx => ⟨by simpa using hx, .inr (.inl hx)⟩) (h.2.frame (· ∈ p))

/-! ### opening arguments -/
section
variable {P : Program} {H : Type} {enc : TypeId × Value → H} {W : World}
theorem wf_u8 {z : Int} (h : (Lit.int .u8 z).wf = true) : 0 ≤ z ∧ z < 256 := by
  simp [Lit.wf, IntKind.min, IntKind.max, IntKind.signed, IntKind.bits] at h
  omega
theorem bytes_of_wf (zs : List Int) (h : ∀ z ∈ zs, (Lit.int .u8 z).wf = true) : ∃ l : List UInt8, zs.map (Value.int .u8) = bc l ∧ l.length = zs.length := by
  refine ⟨zs.map fun z => UInt8.ofNat z.toNat, ?_, by simp⟩
  unfold bc
  rw [List.map_map]
  refine List.map_congr_left fun z hz => ?_
  have := wf_u8 (h z hz)
  simp only [Function.comp_apply, UInt8.toNat_ofNat']
  congr 1
  omega
theorem rd_of_cells {W : World} {a : Addr} {n : Nat} (xs : List Value) (hl : xs.length = n) (hc : ∀ j u, xs[j]? = some u → W.cell? (a.add j) = some u) : Rd W W.heap.size (some a) n xs := by
  refine ⟨hl, fun hn => ?_⟩
  have h0 := hc 0 xs[0] (List.getElem?_eq_getElem (by omega))
  have hs : a.spot = none ∧ a.block < W.heap.size := by
    have e : a.add 0 = a := by simp [Addr.add]
    rw [e] at h0
    unfold World.cell? at h0
    split at h0
    · rename_i hb
      refine ⟨?_, ?_⟩
      · split at h0
        · cases h0
        · rename_i h; simpa using h
      · rcases Nat.lt_or_ge a.block W.heap.size with h1 | h1
        · exact h1
        · rw [Array.getElem?_eq_none h1] at hb; cases hb
    · cases h0
  obtain ⟨b, o, s⟩ := a
  simp only at hs
  obtain ⟨rfl, hb⟩ := hs
  refine ⟨b, o, rfl, hb, fun j u hu => ?_⟩
  have := hc j u hu
  by_cases hj : j = 0
  · subst hj; simpa [Addr.add] using this
  · simpa [Addr.add, hj] using this
/-- a slice of bytes that came in -/
theorem open_bs {base : Nat} {t e : TypeId} {v : Value} {d : DataW H} {ps : List MemPlace} (ht : P.underlying t = some (.slice e)) (he : P.underlying e = some (.int .u8)) (hc : P.cellsOf e = 1) (hby : P.bytesOf e = 1)
    (hval : Value.okWide P W .any base t v) (hd : DataW.Trod enc P W 0 (fun _ => true) true t v d ps) (hre : ∀ n ∈ d.weights P t, n ≤ reachBytes) :
    ∃ (A : Option Addr) (c : Nat) (l : List UInt8), v = .slice A l.length c ∧ l.length ≤ c ∧ l.length ≤ 140737488351232 ∧ Rd W W.heap.size A l.length (bc l) := by
  obtain ⟨a1, len, cap, rfl⟩ := okWide_slice ht hval
  obtain ⟨fuel, hf⟩ := hd
  rcases open_ints ht he hc hf with ⟨hcs, hx⟩ | ⟨a, len', cap', zs, hcs, _, hl, hm, hz, hx, hcell, hwz⟩
  · simp [Value.cells] at hcs
    obtain ⟨rfl, rfl, rfl⟩ := hcs
    exact ⟨none, 0, [], rfl, Nat.le_refl _, by simp, Rd.nil _ _ _⟩
  · simp [Value.cells] at hcs
    obtain ⟨rfl, rfl, rfl⟩ := hcs
    simp only [if_true] at hz
    simp only [Prod.mk.injEq] at hx
    obtain ⟨rfl, rfl⟩ := hx
    obtain ⟨l, hl1, hl2⟩ := bytes_of_wf (zs.take len) (fun z hz => hwz z (List.mem_of_mem_take hz))
    rw [List.length_take, hz, Nat.min_eq_left hl] at hl2
    have hw := hre (((lits (H := H) .u8 (zs.take len)).length + (lits (H := H) .u8 (zs.drop len)).length) * P.bytesOf e) (by simp [DataW.weights, ht])
    simp only [lits, List.length_map, List.length_take, List.length_drop, hby, reachBytes, hz] at hw
    refine ⟨some a, cap, l, by rw [hl2], by rw [hl2]; exact hl, by omega, ?_⟩
    rw [hl2]
    refine rd_of_cells _ (by simpa using hl2) fun j u hu => ?_
    rw [← hl1, List.getElem?_map] at hu
    obtain ⟨z, hz1, rfl⟩ := Option.map_eq_some_iff.1 hu
    have hj : j < len := by
      rcases Nat.lt_or_ge j len with h1 | h1
      · exact h1
      · rw [List.getElem?_eq_none (by rw [List.length_take]; omega)] at hz1; cases hz1
    rw [List.getElem?_take_of_lt hj] at hz1
    rw [hcell j (by omega), List.getD_eq_getElem?_getD, hz1]; rfl
/-- a slice of ints that came in -/
theorem open_is {base : Nat} {t e : TypeId} {v : Value} {d : DataW H} {ps : List MemPlace} (ht : P.underlying t = some (.slice e)) (he : P.underlying e = some (.int .i64)) (hc : P.cellsOf e = 1) (hby : P.bytesOf e = 8)
    (hval : Value.okWide P W .any base t v) (hd : DataW.Trod enc P W 0 (fun _ => true) true t v d ps) (hre : ∀ n ∈ d.weights P t, n ≤ reachBytes) :
    ∃ (A : Option Addr) (c : Nat) (l : List Int), v = .slice A l.length c ∧ l.length ≤ c ∧ l.length * 8 ≤ 140737488351232 ∧ Rd W W.heap.size A l.length (ic l) ∧ ∀ z ∈ l, -9223372036854775808 ≤ z ∧ z ≤ 9223372036854775807 := by
  obtain ⟨a1, len, cap, rfl⟩ := okWide_slice ht hval
  obtain ⟨fuel, hf⟩ := hd
  rcases open_ints ht he hc hf with ⟨hcs, hx⟩ | ⟨a, len', cap', zs, hcs, _, hl, hm, hz, hx, hcell, hwz⟩
  · simp [Value.cells] at hcs
    obtain ⟨rfl, rfl, rfl⟩ := hcs
    exact ⟨none, 0, [], rfl, Nat.le_refl _, by simp, Rd.nil _ _ _, fun _ h => by cases h⟩
  · simp [Value.cells] at hcs
    obtain ⟨rfl, rfl, rfl⟩ := hcs
    simp only [if_true] at hz
    simp only [Prod.mk.injEq] at hx
    obtain ⟨rfl, rfl⟩ := hx
    have hl2 : (zs.take len).length = len := by rw [List.length_take, hz, Nat.min_eq_left hl]
    have hw := hre (((lits (H := H) .i64 (zs.take len)).length + (lits (H := H) .i64 (zs.drop len)).length) * P.bytesOf e) (by simp [DataW.weights, ht])
    simp only [lits, List.length_map, List.length_take, List.length_drop, hby, reachBytes, hz] at hw
    refine ⟨some a, cap, zs.take len, by rw [hl2], by rw [hl2]; exact hl, by omega, ?_, fun z hz => ?_⟩
    · rw [hl2]
      refine rd_of_cells _ (by simpa [ic] using hl2) fun j u hu => ?_
      unfold ic at hu
      rw [List.getElem?_map] at hu
      obtain ⟨z, hz1, rfl⟩ := Option.map_eq_some_iff.1 hu
      have hj : j < len := by
        rcases Nat.lt_or_ge j len with h1 | h1
        · exact h1
        · rw [List.getElem?_eq_none (by rw [List.length_take]; omega)] at hz1; cases hz1
      rw [List.getElem?_take_of_lt hj] at hz1
      rw [hcell j (by omega), List.getD_eq_getElem?_getD, hz1]; rfl
    · have := hwz z (List.mem_of_mem_take hz)
      simp [Lit.wf, IntKind.min, IntKind.max, IntKind.signed, IntKind.bits] at this
      omega
/-- a slice of strings that came in -/
theorem open_ss {base : Nat} {t e : TypeId} {v : Value} {d : DataW H} {ps : List MemPlace} (ht : P.underlying t = some (.slice e)) (he : P.underlying e = some .string) (hc : P.cellsOf e = 1) (hby : P.bytesOf e = 16)
    (hval : Value.okWide P W .any base t v) (hd : DataW.Trod enc P W 0 (fun _ => true) true t v d ps) (hre : ∀ n ∈ d.weights P t, n ≤ reachBytes) :
    ∃ (A : Option Addr) (c : Nat) (l : List (List UInt8)), v = .slice A l.length c ∧ l.length ≤ c ∧ l.length * 16 ≤ 140737488351232 ∧ Rd W W.heap.size A l.length (sc l) ∧ ∀ x ∈ l, x.length ≤ 140737488351232 := by
  obtain ⟨a1, len, cap, rfl⟩ := okWide_slice ht hval
  obtain ⟨fuel, hf⟩ := hd
  rcases open_strings ht he hc hf with ⟨hcs, hx⟩ | ⟨a, len', cap', ss, hcs, _, hl, hm, hz, hx, hcell, hwz⟩
  · simp [Value.cells] at hcs
    obtain ⟨rfl, rfl, rfl⟩ := hcs
    exact ⟨none, 0, [], rfl, Nat.le_refl _, by simp, Rd.nil _ _ _, fun _ h => by cases h⟩
  · simp [Value.cells] at hcs
    obtain ⟨rfl, rfl, rfl⟩ := hcs
    simp only [if_true] at hz
    simp only [Prod.mk.injEq] at hx
    obtain ⟨rfl, rfl⟩ := hx
    have hw := hre (((strs (H := H) (ss.take len)).length + (strs (H := H) (ss.drop len)).length) * P.bytesOf e) (by simp [DataW.weights, ht])
    simp only [strs, List.length_map, List.length_take, List.length_drop, hby, reachBytes, hz] at hw
    have hl2 : ((ss.take len).map fun s => s.data.toList).length = len := by rw [List.length_map, List.length_take, hz, Nat.min_eq_left hl]
    refine ⟨some a, cap, (ss.take len).map fun s => s.data.toList, by rw [hl2], by rw [hl2]; exact hl, by omega, ?_, fun x hx => ?_⟩
    · rw [hl2]
      refine rd_of_cells _ (by simpa using hl2) fun j u hu => ?_
      unfold sc at hu
      rw [List.map_map, List.getElem?_map] at hu
      obtain ⟨s, hs1, rfl⟩ := Option.map_eq_some_iff.1 hu
      have hj : j < len := by
        rcases Nat.lt_or_ge j len with h1 | h1
        · exact h1
        · rw [List.getElem?_eq_none (by rw [List.length_take]; omega)] at hs1; cases hs1
      rw [List.getElem?_take_of_lt hj] at hs1
      rw [hcell j (by omega), List.getD_eq_getElem?_getD, hs1]
      simp [strV]
    · obtain ⟨s, hs, rfl⟩ := List.mem_map.1 hx
      have hw2 := hre s.data.toList.length (by
        simp only [DataW.weights, ht, List.mem_cons, List.mem_append]
        right; left
        have hmem : ∀ {l : List ByteArray}, s ∈ l → s.data.toList.length ∈ DataW.weightsAll P e (strs (H := H) l) := by
          intro l
          induction l with
          | nil => intro h; cases h
          | cons b l ih =>
            intro h
            rcases List.mem_cons.1 h with rfl | h
            · simp [strs, DataW.weightsAll, DataW.weights]
            · simp only [strs, List.map_cons, DataW.weightsAll, List.mem_append]
              exact .inr (ih h)
        exact hmem hs)
      simpa [reachBytes] using hw2
/-- a string that came in -/
theorem open_str1 {base : Nat} {t : TypeId} {v : Value} {d : DataW H} {ps : List MemPlace} (ht : P.underlying t = some .string) (hval : Value.okWide P W .any base t v) (hd : DataW.Trod enc P W 0 (fun _ => true) true t v d ps)
    (hre : ∀ n ∈ d.weights P t, n ≤ reachBytes) : ∃ l : List UInt8, v = .string ⟨l.toArray⟩ ∧ l.length ≤ 140737488351232 := by
  obtain ⟨s, rfl, rfl, rfl, ws⟩ := open_string ht hval hd
  refine ⟨s.data.toList, by simp, ?_⟩
  have := hre s.data.toList.length (by simp [DataW.weights])
  simpa [reachBytes] using this
end
end Go.Proofs.Ytlipmlbijddopaa
