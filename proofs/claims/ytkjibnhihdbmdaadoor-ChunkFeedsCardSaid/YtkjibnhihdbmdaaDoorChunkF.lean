/-
  A chunk.Reader: New, Feed, Done, Body, Trailers, Decode.
-/
import Derived.Test.YtkjibnhihdbmdaaDoorChunkS4
set_option linter.unusedVariables false
set_option linter.unusedSimpArgs false
namespace Go.Proofs.YtkjibnhihdbmdaaDoor
open Go.RowKit
variable {fr : Frm}
def fid : St → FuncId
  | .first => 59
  | .more => 78
  | .ext => 88
  | .sized => 89
  | .data => 97
  | .behind => 105
  | .next => 110
  | .after => 98
  | .trailer => 107
  | .taken => 111
  | .last => 106
  | .nil => 0
theorem steps_at (base g : Nat) (r : Rdr) (vb vt vl : Value) (c : UInt8) (w : World) (hI : Inv fr w base g r vb vt vl) (hG : Good r) (s : St) (hs : r.st = s) (hn : s ≠ .nil) :
    Calls Tryd.prog (fid s) #[.pointer (some ⟨g, 0, none⟩), .int .u8 (c.toNat : Int)] w (Steps fr base g (stepR r c) w) := by
  cases s with
  | first => exact first_at base g r vb vt vl c w hI hs hG.bd
  | more =>
    have e : stepR r c = moreR r c := by simp only [stepR, hs]
    rw [e]
    exact more_at base g r vb vt vl c w hI hs hG.dg hG.sz hG.bd
  | ext => exact ext_at base g r vb vt vl c w hI hs hG.ln
  | sized => exact sized_at base g r vb vt vl c w hI hs
  | data => exact data_at base g r vb vt vl c w hI hs (hG.dt hs) hG.sz hG.bd
  | behind => exact behind_at base g r vb vt vl c w hI hs
  | next => exact next_at base g r vb vt vl c w hI hs
  | after => exact after_at base g r vb vt vl c w hI hs hG.tr
  | trailer => exact trailer_at base g r vb vt vl c w hI hs hG.ln
  | taken => exact taken_at base g r vb vt vl c w hI hs (hG.tt (.inr hs)) hG.ln
  | last => exact last_at base g r vb vt vl c w hI hs
  | nil => exact absurd rfl hn
theorem own_alloc (w : World) (xs : List Value) (t : TypeId) : Own (w.alloc (.cells xs.toArray t)) w.heap.size xs := by
  intro j u hu
  have h1 := World.cell?_alloc_mark w xs.toArray t (0, 0) j
  have h2 := World.frozen?_alloc_mark w xs.toArray t 0 0 j
  refine ⟨h1.trans (by simpa using hu), h2.trans (by simp)⟩
set_option maxRecDepth 100000 in
theorem new_at (w : World) : Calls Tryd.prog 37 #[] w fun e w' => e = .returned (.pointer (some ⟨w.heap.size, 0, none⟩)) ∧ Inv [] w' w.heap.size w.heap.size newR (.slice none 0 0) (.slice none 0 0) (.slice none 0 0) ∧ Below w.heap.size w w' := by
  have hmf : ∀ (fn : Fn) (first cap : Array Value) (w : World), (Instr.makeFunc fn first cap).run Tryd.prog w = .ok (.func fn first cap) w := fun _ _ _ _ => rfl
  have hsf := fun (a : Addr) (fn : Fn) (first cap : Array Value) (w : World) (m : Mode) => run_store_func (P := Tryd.prog) w a m fn first cap
  go_enter Tryd.func37, Tryd.ntmps37
  go_wp2
  go_ret
  refine ⟨rfl, ⟨own_alloc w (rdrCells w.heap.size newR (.slice none 0 0) (.slice none 0 0) (.slice none 0 0)) _, Nat.le_refl _, by simp, ((((Owns.nil _ _).none _).none _).none _), by simp [Value.ownBlock], by simp [Value.ownBlock], by simp [Value.ownBlock], (fun x hx => by cases hx), (fun x hx => by cases hx)⟩, (Below.refl _ _).alloc (Nat.le_refl _) _⟩
theorem stV_func (g : Nat) (s : St) (h : s ≠ .nil) : stV g s = .func (.func (fid s)) #[.pointer (some ⟨g, 0, none⟩)] #[] := by cases s <;> first | rfl | exact absurd rfl h
theorem Tryd.eq_nilF (w : World) : (binOp .eql 71 .nilFunc .nilFunc).run Tryd.prog w = .ok (.bool true) w := by kernel_rfl
theorem Tryd.eq_func (w : World) (f : FuncId) (a b : Array Value) : (binOp .eql 71 (.func (.func f) a b) .nilFunc).run Tryd.prog w = .ok (.bool false) w := by kernel_rfl
def FeedPost (fr : Frm) (base g : Nat) (r : Rdr) (l : List UInt8) (w : World) (e : Ending) (w' : World) : Prop :=
  ∃ vb vt vl, e = .returned (.tuple #[.int .i64 ((goR r l 0).2 : Int), .int .i64 ((goR r l 0).1.bad : Int)]) ∧ Inv fr w' base g (goR r l 0).1 vb vt vl ∧ Below base w w'
set_option maxRecDepth 100000 in
set_option maxHeartbeats 8000000 in
theorem feed_at (base g : Nat) (r : Rdr) (vb vt vl : Value) (A : Option Addr) (c L : Nat) (l : List UInt8) (w : World) (hL : l.length = L) (hI : Inv fr w base g r vb vt vl) (hlens : Lens r)
    (hrd : ∀ w' : World, Below base w w' → (∀ x ∈ fr, w'.heap[x.1]? = some x.2) → Rd w' w'.heap.size A L (bc l)) (hL2 : L ≤ 281474976710656) :
    Calls Tryd.prog 38 #[.pointer (some ⟨g, 0, none⟩), .slice A L c] w (FeedPost fr base g r l w) := by
  have hc1 := (hI.cell 1 rfl).1
  have HI := Lib.hid hI
  have HLn := Lib.hid hlens
  have HR := Lib.hid hrd
  have HLL := Lib.hid hL
  have hge := hI.ge
  clear hI hlens hrd hL
  have hsf := fun (a : Addr) (w : World) (m : Mode) => run_store_nilFunc (P := Tryd.prog) w a m
  have he1 := Tryd.eq_nilF
  have he2 := Tryd.eq_func
  go_enter Tryd.func38, Tryd.ntmps38
  go_wp2_with fail
  go_loopw [19] (fun vi wr => ∃ (k : Nat) (r' : Rdr) (vb vt vl : Value), k ≤ L ∧ vi = .int .i64 k ∧ Hid (Inv fr wr base g r' vb vt vl) ∧ Hid (Lens r') ∧ Hid (goR r l 0 = goR r' (l.drop k) k) ∧ Hid (Below base w wr)) (fun vi _ => L - (intOf vi).toNat)
  case atStart => exact ⟨0, r, vb, vt, vl, Nat.zero_le _, rfl, HI, HLn, Lib.hid rfl, Lib.hid (Below.refl _ _)⟩
  case round =>
    clear hc1 HI HLn
    obtain ⟨k, r', vb, vt, vl, hk, rfl, HI, HLn, HG, HB⟩ := hrel
    have hI := HI.out
    have hc0 := (hI.cell 0 rfl).1
    have hf0 := (hI.cell 0 rfl).2
    have hc2 := (hI.cell 2 rfl).1
    have hf2 := (hI.cell 2 rfl).2
    by_cases hlt : k < L
    · have hlk : k < l.length := by have := HLL.out; omega
      obtain ⟨b, o, rfl, hb, hcell⟩ := (HR.out wr HB.out hI.kp).at_ hlt
      have hx := hcell k _ (bc_get l k hlk)
      have hdr : l.drop k = l[k] :: l.drop (k + 1) := List.drop_eq_getElem_cons hlk
      obtain ⟨x, hxe⟩ : ∃ x, x = l[k] := ⟨_, rfl⟩
      rw [← hxe] at hx hdr
      have HD := Lib.hid hdr
      clear hcell hdr hxe hI
      by_cases hn : r'.st = .nil
      · rw [hn] at hc0
        unfold stV at hc0
        have e1 : goR r l 0 = (r', k) := by rw [HG.out, HD.out, goR, if_pos hn]
        have HE := Lib.hid e1
        clear e1 hn
        go_wp2_with fail
        go_quiet (fail)
        go_wp2
        go_ret2
        refine ⟨vb, vt, vl, ?_, ?_, ?_⟩
        · rw [HE.out]; rfl
        · rw [HE.out]; exact HI.out.step_ _
        · exact below_dn HB.out _
      · have hG := HLn.out.go hn
        have hz := HLn.out.bz hn
        obtain ⟨st, hst⟩ : ∃ st, r'.st = st := ⟨_, rfl⟩
        rw [hst] at hn hc0
        rw [stV_func g st hn] at hc0
        have hstep := steps_at base g r' vb vt vl x wr HI.out hG st hst hn
        have HS := Lib.hid hstep
        have HST := Lib.hid hst
        have HN := Lib.hid hn
        have HGd := Lib.hid hG
        have HZ := Lib.hid hz
        clear hG hz hst hn hstep
        obtain ⟨q, e, hqe⟩ : ∃ q e, stepR r' x = (q, e) := ⟨_, _, rfl⟩
        have hgo : goR r l 0 = if e ≠ 0 then ({ q with st := .nil, bad := e }, k) else goR q (l.drop (k + 1)) (k + 1) := by
          rw [HG.out, HD.out, goR, if_neg (by rw [HST.out]; exact HN.out), hqe]
        have hb := step_bad r' x
        have hgs := good_step HGd.out x
        rw [hqe] at HS hb hgs
        simp only at hb hgs
        rw [HZ.out] at hb
        have HGO := Lib.hid hgo
        have HBD := Lib.hid hb
        have HGS := Lib.hid hgs
        clear hqe hgo hb hgs
        by_cases hE : e = 0
        · subst hE
          have ok : ∃ B : Bool, B = true := ⟨_, rfl⟩
          cases st
          case nil => exact absurd rfl HN.out
          all_goals
            simp only [fid] at hc0
            go_wp2_with ((first | go_at_call 59 | go_at_call 78 | go_at_call 88 | go_at_call 89 | go_at_call 97 | go_at_call 105 | go_at_call 110 | go_at_call 98 | go_at_call 107 | go_at_call 111 | go_at_call 106); refine HS.out.mono ?_; rintro e w2 ⟨rfl, ⟨vb2, vt2, vl2, HI2⟩, HB2⟩; have hc2' := (HI2.cell 2 rfl).1; have hf2' := (HI2.cell 2 rfl).2; have HI3 := Lib.hid HI2; have HB3 := Lib.hid HB2; clear HI2 HB2)
            go_roundw
            case rel =>
              have h9 := HI3.out.setBad 0
              have e9 : ({ q with bad := 0 } : Rdr) = q := by rw [← HBD.out]
              rw [e9] at h9
              exact ⟨k + 1, q, vb2, vt2, vl2, by omega, by go_num, Lib.hid h9, Lib.hid ((HGS.out (by first | trivial | rfl)).lens HBD.out), Lib.hid (by have := HGO.out; simpa using this), Lib.hid ((HB.out.trans HB3.out).setCell hge _)⟩
            case measure => simp [intOf]; omega
        · have hne : ((e : Int) == 0) = false := by simp; omega
          have hne2 : ((e : Int) != 0) = true := by simp; omega
          have e1 : goR r l 0 = ({ q with st := .nil, bad := e }, k) := by rw [HGO.out, if_pos hE]
          have HE := Lib.hid e1
          clear e1
          cases st
          case nil => exact absurd rfl HN.out
          all_goals
            simp only [fid] at hc0
            go_wp2_with ((first | go_at_call 59 | go_at_call 78 | go_at_call 88 | go_at_call 89 | go_at_call 97 | go_at_call 105 | go_at_call 110 | go_at_call 98 | go_at_call 107 | go_at_call 111 | go_at_call 106); refine HS.out.mono ?_; rintro e2 w2 ⟨rfl, ⟨vb2, vt2, vl2, HI2⟩, HB2⟩; have hc2' := (HI2.cell 2 rfl).1; have hf2' := (HI2.cell 2 rfl).2; have hc0' := (HI2.cell 0 rfl).1; have hf0' := (HI2.cell 0 rfl).2; have HI3 := Lib.hid HI2; have HB3 := Lib.hid HB2; clear HI2 HB2)
            go_quiet (fail)
            go_wp2
            go_ret2
            refine ⟨vb2, vt2, vl2, ?_, ?_, ?_⟩
            · rw [HE.out]; rfl
            · rw [HE.out]; exact ((HI3.out.setBad e).setSt .nil).step_ _
            · exact below_dn (((HB.out.trans HB3.out).setCell hge _).setCell hge _) _
    · have hkL : k = L := by omega
      have e1 : goR r l 0 = (r', L) := by
        rw [HG.out, List.drop_of_length_le (by have := HLL.out; omega), goR, hkL]
      have HE := Lib.hid e1
      clear e1 hI
      subst hkL
      go_wp2_with fail
      go_quiet (fail)
      go_wp2
      go_ret2
      refine ⟨vb, vt, vl, ?_, ?_, ?_⟩
      · rw [HE.out]; rfl
      · rw [HE.out]; exact HI.out.step_ _
      · exact below_dn HB.out _
end Go.Proofs.YtkjibnhihdbmdaaDoor
