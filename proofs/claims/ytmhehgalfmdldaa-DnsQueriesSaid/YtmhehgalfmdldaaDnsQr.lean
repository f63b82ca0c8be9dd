/-
  DnsQueries: a query has one question; a name that is not right is not asked.
-/
import Derived.Test.YtmhehgalfmdldaaBase
import Derived.Test.YtmhehgalfmdldaaDnsRt
import Derived.Test.YtmhehgalfmdldaaMade
set_option linter.unusedVariables false
set_option linter.unusedSimpArgs false
namespace Go.Proofs.Ytmhehgalfmdldaa
open Go.RowKit
section
variable {P : Program} (w : World)
theorem run_appK (base : Nat) (t tx ty e : TypeId) (i : TypeInfo) (z : Value) (bytes : Nat) (ht : P.underlying t = some (.slice e)) (hi : P.info? e = some i) (hz : i.zero = some z)
    (hsize : i.size = 1) (hby : i.bytes = bytes) (hzs : z.cells.size = 1) (hb1 : 1 ≤ bytes)
    (v : Value) (xs : List Value) (hown : Ow w base e v xs) (x : Value) (n : Nat) (news : List Value) (hs : Src P 1 tx x n news w)
    (hbytes : (xs.length + n) * bytes ≤ 140737488355328) (hbase : base ≤ w.heap.size) :
    ∃ v' w', (Builtin.append_ #[t, tx] ty #[v, x]).run P w = .ok v' w' ∧ Ow w' base e v' (xs ++ news) ∧ Gr w w' v v' ∧ Ow w' base e v xs := by
  subst hby
  have hnl : news.length = n := by simpa using hs.newsLen
  have hle : xs.length + n ≤ 140737488355328 := Nat.le_trans (Nat.le_mul_of_pos_right _ hb1) hbytes
  have hfits : ∀ c, c < xs.length + n → Builtin.nextslicecap (xs.length + n) c * i.bytes ≤ 281474976710656 := fun c hc => growslice_fits hc hbytes
  have hs' : Src P i.size tx x n news w := by rw [hsize]; exact hs
  have grown : ∀ (old : Nat), old < xs.length + n →
      Ow (w.drew.alloc (.cells ((xs ++ news).toArray ++ Builtin.zeroCells z.cells (grownCap w (xs.length + n) old e - (xs.length + n))) e)) base e
        (.slice (some ⟨w.heap.size, 0, none⟩) (xs.length + n) (grownCap w (xs.length + n) old e)) (xs ++ news) ∧
      Gr w (w.drew.alloc (.cells ((xs ++ news).toArray ++ Builtin.zeroCells z.cells (grownCap w (xs.length + n) old e - (xs.length + n))) e)) v (.slice (some ⟨w.heap.size, 0, none⟩) (xs.length + n) (grownCap w (xs.length + n) old e)) := by
    intro old ho
    have hge := grownCap_ge w (xs.length + n) old e
    have hcm : grownCap w (xs.length + n) old e ≤ maxLen := grownCap_le_maxLen w (xs.length + n) old e (by unfold maxLen; omega)
    refine ⟨⟨by simp, .inr ⟨w.heap.size, _, _, by rw [List.length_append, hnl], hbase, heap_alloc_new w.drew _, by rw [List.length_append, hnl]; exact hge, hcm, ?_, ?_⟩⟩, ⟨⟨rfl, rfl, rfl, by simp, fun k hk _ => Below.heap_alloc w.drew _ k hk⟩, fun g hg => ?_⟩⟩
    · simp only [Array.size_append, List.size_toArray, size_zeroCells, hzs, List.length_append, hnl]
      omega
    · rw [Array.toList_append, Nat.mul_one]
      exact List.take_left' (by simp)
    · simp [Value.ownBlock] at hg; omega
  rcases hown.2 with ⟨rfl, hx0⟩ | ⟨g, cap, cur, rfl, hbg, hg, hnc, hcm, hcs, htake⟩
  · have hx : xs = [] := List.eq_nil_of_length_eq_zero hx0
    subst hx
    by_cases hm : n = 0
    · subst hm
      have hn : news = [] := List.eq_nil_of_length_eq_zero hnl
      subst hn
      refine ⟨.slice none 0 0, w, ?_, Ow.nil w base e, Gr.refl _ _, Ow.nil w base e⟩
      rcases hs.kind with ⟨e', hk⟩ | hk <;> simp [Builtin.append_, run_underlying ht, run_underlying hk, sizeOf, typeInfo, hi, hsize, hs.len, hs.cells]
    · have hr := run_append_grow_src (P := P) w t tx ty e i z ht hi hz none 0 0 [] (run_firstCells_none w.drew _ _ _ _) x n news hs' (by omega) (by simp at hle; omega) (by have := hfits 0 (by simp; omega); simpa using this)
      have hgr := grown 0 (by simp; omega)
      simp only [List.length_nil, Nat.zero_add, List.nil_append] at hgr hr ⊢
      exact ⟨_, _, hr, hgr.1, hgr.2, Ow.nil _ base e⟩
  · by_cases hroom : xs.length + n ≤ cap
    · have hr := run_room_row (P := P) w t tx ty e i ht hi hsize g xs.length cap cur hg x n news hs hroom (by rw [hcs, hnl]; omega)
      refine ⟨_, _, hr, ⟨by simp, .inr ⟨g, cap, _, by rw [List.length_append, hnl], hbg, setRow_heap w g cur _ e _ hg, by rw [List.length_append, hnl]; exact hroom, hcm, ?_, ?_⟩⟩, ⟨⟨rfl, rfl, rfl, by simp, fun k _ hk => setRow_other w g k _ (fun e => hk (by simp [Value.ownBlock, e]))⟩, fun k hk => .inl hk⟩, ⟨hown.1, .inr ⟨g, cap, _, rfl, hbg, setRow_heap w g cur _ e _ hg, hnc, hcm, ?_, ?_⟩⟩⟩
      · simp only [List.size_toArray, List.length_append, List.length_take, List.length_drop, Array.length_toList]
        omega
      · rw [Nat.mul_one] at htake ⊢
        rw [htake]
        exact List.take_left' (by simp)
      · simp only [List.size_toArray, List.length_append, List.length_take, List.length_drop, Array.length_toList]
        omega
      · rw [Nat.mul_one] at htake ⊢
        rw [htake, List.append_assoc]
        exact List.take_left' rfl
    · have holds : ∀ j u, xs[j]? = some u → w.cell? ((⟨g, 0, none⟩ : Addr).add j) = some u := World.ownsRow.cells hown (g := g) rfl
      have hr := run_append_grow_src (P := P) w t tx ty e i z ht hi hz (some ⟨g, 0, none⟩) xs.length cap xs (run_firstCells_some w.drew _ _ _ _ _ _ (by rw [hsize, Nat.mul_one]) (by simpa using holds)) x n news hs' (by omega) (by omega) (hfits cap (by omega))
      have hgr := grown cap (by omega)
      exact ⟨_, _, hr, hgr.1, hgr.2, Ow.alloc (w := w.drew) hown _⟩

theorem wpList_appK {ops : Array Oper} {rest : List Oper} {o : Oper} {a : Act} {Q : Exit → Act → World → Prop} (hgd : o.guard = none) (s x : Operand) (t tx : TypeId)
    (ho : o.op = .call { callee := .builtin .append, args := #[s, x], argTypes := #[t, tx] })
    (base : Nat) (e : TypeId) (i : TypeInfo) (z : Value) (bytes : Nat) (ht : P.underlying t = some (.slice e)) (hi : P.info? e = some i) (hz : i.zero = some z)
    (hsize : i.size = 1) (hby : i.bytes = bytes) (hzs : z.cells.size = 1) (hb1 : 1 ≤ bytes)
    (v : Value) (xs : List Value) (hown : Ow w base e v xs) (hv : a.eval s = v) (n : Nat) (news : List Value) (hs : Src P 1 tx (a.eval x) n news w)
    (hbytes : (xs.length + n) * bytes ≤ 140737488355328) (hbase : base ≤ w.heap.size)
    (h : ∀ v' w', Ow w' base e v' (xs ++ news) → Gr w w' v v' → base ≤ w'.heap.size → Ow w' base e v xs → wpList P ops Q rest (a.put o.dst v') w') : wpList P ops Q (o :: rest) a w := by
  refine wpList_plain hgd fun K hK => ?_
  obtain ⟨v', w', hr, h2, h3, h4⟩ := run_appK (P := P) w base t tx o.type e i z bytes ht hi hz hsize hby hzs hb1 v xs hown _ n news hs hbytes hbase
  unfold Oper.wp execOp
  simp only [ho, resolve, invoke, builtin, Sem.run_bind, Sem.run_pure, Result.andThen_ok, List.map_toArray, List.map_cons, List.map_nil, hv, hr]
  exact hK _ _ (h v' w' h2 h3 (Nat.le_trans hbase h3.1.size) h4)
end
open Go.RowKit
theorem ow_rdn {w : World} {base n c : Nat} {e : TypeId} {A : Option Addr} {xs : List Value} (h : Ow w base e (.slice A n c) xs) (hn : xs.length = n) : Rd w w.heap.size A n xs := by
  subst hn; exact Rd.of_own h
def qM (id ty : Nat) (n : List (List UInt8)) : Ms := ⟨id, 256, [⟨n, ty, 1⟩], [], [], []⟩
theorem qM_form (id ty : Nat) (n : List (List UInt8)) : formM (qM id ty n) = headB (qM id ty n) ++ labS n ++ [0] ++ two ty ++ two 1 := by
  show (askB (headB (qM id ty n), []) ⟨n, ty, 1⟩).1 = _
  unfold askB
  rw [DX.app_none]
theorem qM_len (id ty : Nat) (n : List (List UInt8)) : (formM (qM id ty n)).length = sizeN n + 16 := by
  have := labS_length n
  rw [qM_form]
  simp only [List.length_append, headB_length, two_length, List.length_cons, List.length_nil]
  omega
theorem qM_ok (id ty : Nat) (n : List (List UInt8)) (hid : id < 65536) (hty : ty < 65536) (hr : rightN n = true) :
    writeM (qM id ty n) = (formM (qM id ty n), 0) ∧ readM (formM (qM id ty n)) = (qM id ty n, 0) := by
  have hl := qM_len id ty n
  have hs := size_right hr
  have hR : rightM (qM id ty n) = true := by simp [rightM, qM, hr]
  have hn : (qM id ty n).num ≤ 256 := by simp [Ms.num, qM]
  have hk : okM (qM id ty n) := ⟨hid, by simp [qM], fun q hq => by rw [List.mem_singleton.1 hq]; exact ⟨hty, by simp⟩, fun r h => (by cases h), fun r h => (by cases h), fun r h => (by cases h)⟩
  refine ⟨?_, read_form hR hk hn (by omega)⟩
  unfold writeM
  rw [if_neg (by rw [hR]; simp), if_neg (by omega), if_neg (by omega)]
theorem qM_bad (id ty : Nat) (n : List (List UInt8)) (s : List UInt8) (hs : okL s = false) : writeM (qM id ty (n ++ [s])) = ([], 170) := by
  unfold writeM
  rw [if_pos (by simp [rightM, qM, rightN, hs])]
set_option maxRecDepth 100000 in
set_option maxHeartbeats 2000000 in
theorem dnsQueries_any (id ty : Nat) (A : Option Addr) (c : Nat) (l : List (List UInt8)) (bad : Nat) (w : World) (hid : id < 65536) (hty : ty < 65536) (h : Rd w w.heap.size A l.length (sc l)) (hc : l.length ≤ c) (hb : l.length * 16 ≤ 140737488351232) (hx : ∀ x ∈ l, x.length ≤ 140737488351232) (hbad : bad < 256) :
    Calls Try.prog 5 #[.int .u16 (id : Int), .int .u16 (ty : Int), .slice A l.length c, .int .u8 (bad : Int)] w fun e w' => e = .returned (.bool true) ∧ Below w.heap.size w w' := by
  obtain ⟨n, hn⟩ : ∃ n, n = madeN l := ⟨_, rfl⟩
  have hr : rightN n = true := by rw [hn]; exact made_right l
  have hsz := size_right hr
  obtain ⟨hwm, hrd⟩ := qM_ok id ty n hid hty hr
  have hFl := qM_len id ty n
  obtain ⟨F, hF⟩ : ∃ F, F = formM (qM id ty n) := ⟨_, rfl⟩
  rw [← hF] at hwm hrd hFl
  have hF1 : ((F.length : Int) != (sizeN n : Int) + 16) = false := by
    rw [Bool.eq_false_iff, ne_eq, bne_iff_ne]; omega
  have K2 := Lib.hid (fun (w2 : World) (hb2 : Below w.heap.size w w2) => made_any A c l w2 (h.goes hb2) hc hb hx)
  have HN := Lib.hid hn
  have HW := Lib.hid hwm
  have HRD := Lib.hid hrd
  have HX := Lib.hid hx
  have hFle : F.length ≤ 1000 := by omega
  have HFl := Lib.hid hFl
  clear hn hwm hrd hF hFl hx h
  go_enter Try.func5, Try.ntmps5
  go_upto_region 6 with (first
    | (go_at_call 14
       refine (readO_at A4 c4 F (qM id ty n) 0 HRD.out w4 hr4 hc4 (fun a ha => (ow_blk ho4 a ha).2) (by omega)).mono ?_
       rintro e w5 ⟨x, hxm, rfl, hmo, hmr, hb5⟩
       obtain ⟨id2, fl2, qA2, qc2, qs2, aA2, ac2, ra2, bA2, bd2, rb2, cA2, cc2, rc2⟩ := x
       simp only [MR.m, qM, Ms.mk.injEq, List.map_eq_nil_iff] at hxm
       obtain ⟨rfl, rfl, hq, rfl, rfl, rfl⟩ := hxm
       obtain ⟨y, rfl, hy⟩ := List.map_eq_singleton_iff.1 hq
       obtain ⟨Ay, cy, qy⟩ := y
       simp only at hy
       subst hy
       clear hq
       unfold MR.cells
       dsimp only)
    | (go_at_call 18
       refine (query_at id ty A3 c3 n.length n w3 rfl ⟨hr3, hc3, by omega⟩ hid hty).mono ?_
       rw [show (⟨id, 256, [⟨n, ty, 1⟩], [], [], []⟩ : Ms) = qM id ty n from rfl, HW.out]
       rintro e w4 ⟨v4, rfl, ho4, hb4⟩
       obtain ⟨A4, c4, rfl, hc4, hr4⟩ := ho4.form6 _ (bc_length _))
    | (go_at_call 17
       refine (K2.out w2 hb2).mono ?_
       rw [← HN.out]
       rintro e w3 ⟨v3, rfl, ho3, hb3⟩
       obtain ⟨A3, c3, rfl, hc3, hr3⟩ := ho3.form6 _ (sc_length _))
    | (go_at_call 13
       refine (dawake_any w).mono ?_
       rintro e w2 ⟨rfl, hb2⟩))
  have hNA : ∀ a, Ay = some a → w4.heap.size ≤ a.block := fun a ha => OwM.lt (hmo.n _ ⟨⟨Ay, cy, ⟨n, ty, 1⟩⟩, by simp, rfl⟩) a.block (by subst ha; rfl)
  have h3A : ∀ a, A3 = some a → a.block < w3.heap.size := fun a ha => (ow_blk ho3 a ha).2
  have h2A : ∀ a, A3 = some a → w2.heap.size ≤ a.block := fun a ha => (ow_blk ho3 a ha).1
  have h34 := hb4.size
  clear hmo
  obtain ⟨bq, oq, hqa, hbq, hqc⟩ := hmr.2.2.1.at_ (k := 0) (by simp)
  simp only at hqa
  subst hqa
  obtain ⟨z0, z1, z2⟩ := hqc (by simp)
  simp only [Nat.zero_mul, Nat.add_zero, List.getElem_cons_zero] at z0 z1 z2
  have hqn := (hmr.2.2.1.2.2.2.2 ⟨Ay, cy, ⟨n, ty, 1⟩⟩ (by simp)).1
  clear hqc
  have hB3 := hb2.trans (hb3.mono hb2.size)
  have hb35 : Below w3.heap.size w3 w5 := hb4.trans (hb5.mono hb4.size)
  have hB5 := hB3.trans (hb35.mono hB3.size)
  have hn5 := below_new w5 (.cells #[.int .u16 (id2 : Int), .int .u16 256, .slice (some ⟨bq, oq, none⟩) 1 qc2, .slice aA2 0 ac2, .slice bA2 0 bd2, .slice cA2 0 cc2] 30)
  have hr5 := (hr3.goes hb35).goes hn5
  have k6 := size_at (w5.alloc (.cells #[.int .u16 (id2 : Int), .int .u16 256, .slice (some ⟨bq, oq, none⟩) 1 qc2, .slice aA2 0 ac2, .slice bA2 0 bd2, .slice cA2 0 cc2] 30)) A3 c3 n.length n (sizeN n) rfl rfl hr5 (by omega)
  have K6 := Lib.hid k6
  have HO3 := Lib.hid (((ho3.far hb35).alloc (.cells #[.int .u16 (id2 : Int), .int .u16 256, .slice (some ⟨bq, oq, none⟩) 1 qc2, .slice aA2 0 ac2, .slice bA2 0 bd2, .slice cA2 0 cc2] 30)).alloc (.cells #[.slice Ay n.length cy, .int .u16 (ty : Int), .int .u16 1] 42))
  have HQN := Lib.hid (((hqn.below hn5).more hn5.size))
  have HB5 := Lib.hid hB5
  have h23 := hb2.size
  have h33 := hb3.size
  have h35 := hb35.size
  clear k6 hr5 hqn hB5 hB3 ho3 hr3 hb35 hb4 hb5 ho4 hr4 hmr hn5 HW HRD K2
  go_upto_region 9 with (go_at_call 19; refine K6.out.mono ?_; rintro e w6 ⟨rfl, rfl⟩)
  have HV6 : Vx ((w5.alloc (.cells #[.int .u16 (id2 : Int), .int .u16 256, .slice (some ⟨bq, oq, none⟩) 1 qc2, .slice aA2 0 ac2, .slice bA2 0 bd2, .slice cA2 0 cc2] 30)).alloc (.cells #[.slice Ay n.length cy, .int .u16 (ty : Int), .int .u16 1] 42)) (w5.heap.size + 1) 42 [.slice Ay n.length cy, .int .u16 (ty : Int), .int .u16 1] := by
    have := Vx.new (w5.alloc (.cells #[.int .u16 (id2 : Int), .int .u16 256, .slice (some ⟨bq, oq, none⟩) 1 qc2, .slice aA2 0 ac2, .slice bA2 0 bd2, .slice cA2 0 cc2] 30)) 42 [.slice Ay n.length cy, .int .u16 (ty : Int), .int .u16 1]
    rwa [World.size_alloc] at this
  have hn6 := below_new (w5.alloc (.cells #[.int .u16 (id2 : Int), .int .u16 256, .slice (some ⟨bq, oq, none⟩) 1 qc2, .slice aA2 0 ac2, .slice bA2 0 bd2, .slice cA2 0 cc2] 30)) (.cells #[.slice Ay n.length cy, .int .u16 (ty : Int), .int .u16 1] 42)
  have hqn6 := ((HQN.out.below hn6).more hn6.size)
  have hB6 : Below w.heap.size w ((w5.alloc (.cells #[.int .u16 (id2 : Int), .int .u16 256, .slice (some ⟨bq, oq, none⟩) 1 qc2, .slice aA2 0 ac2, .slice bA2 0 bd2, .slice cA2 0 cc2] 30)).alloc (.cells #[.slice Ay n.length cy, .int .u16 (ty : Int), .int .u16 1] 42)) := HB5.out.trans ((below_two w5 _ _).mono (by omega))
  have h56 : w5.heap.size < ((w5.alloc (.cells #[.int .u16 (id2 : Int), .int .u16 256, .slice (some ⟨bq, oq, none⟩) 1 qc2, .slice aA2 0 ac2, .slice bA2 0 bd2, .slice cA2 0 cc2] 30)).alloc (.cells #[.slice Ay n.length cy, .int .u16 (ty : Int), .int .u16 1] 42)).heap.size := by simp; omega
  have HO6 := HO3.out
  clear K6 HO3 HQN HB5 z0 z1 z2
  obtain ⟨gq, hgq⟩ : ∃ g, g = w5.heap.size + 1 := ⟨_, rfl⟩
  rw [← hgq] at HV6
  try rw [← hgq]
  have hgq2 : w2.heap.size ≤ gq := by omega
  have hgq3 : w3.heap.size ≤ gq := by omega
  clear hgq
  generalize (w5.alloc (.cells #[.int .u16 (id2 : Int), .int .u16 256, .slice (some ⟨bq, oq, none⟩) 1 qc2, .slice aA2 0 ac2, .slice bA2 0 bd2, .slice cA2 0 cc2] 30)).alloc (.cells #[.slice Ay n.length cy, .int .u16 (ty : Int), .int .u16 1] 42) = w6 at *
  obtain ⟨i0, hi, hz0, hz1, hz2⟩ := info_parts Try.infoStr
  have hks : bad % 2 = 0 ∨ bad % 2 = 1 := by omega
  rcases hks with hk | hk
  · have kq1 : (bad : Int) % 2 = 0 := by omega
    have kq2 : (bad : Int).tmod 2 = 0 := by rw [Int.tmod_eq_emod_of_nonneg (by omega)]; exact kq1
    have hsn : sizeN (n ++ [([] : List UInt8)]) ≤ 140737488355328 := by rw [sizeN_snoc]; simp; omega
    have hsc : sc n ++ [(Value.string ⟨#[]⟩)] = sc (n ++ [([] : List UInt8)]) := by simp [sc, strV]
    have HSC := Lib.hid hsc
    have hOM := Lib.hid ((HO6.alloc (.cells #[.string ⟨#[]⟩, .string ⟨#[65]⟩] 9)).alloc (.cells #[(Value.string ⟨#[]⟩)] 9))
    have hsr := one_src (P := Try.prog) (w := w6.alloc (.cells #[.string ⟨#[]⟩, .string ⟨#[65]⟩] 9)) (e := 9) Try.underlying37 (Value.string ⟨#[]⟩) rfl
    rw [World.size_alloc] at hsr
    have hSr := Lib.hid hsr
    clear hsr
    have hbb : ((sc n).length + 1) * 16 ≤ 140737488355328 := by rw [sc_length]; have := len_le_size n; omega
    have hbs : w2.heap.size ≤ ((w6.alloc (.cells #[.string ⟨#[]⟩, .string ⟨#[65]⟩] 9)).alloc (.cells #[(Value.string ⟨#[]⟩)] 9)).heap.size := by simp; omega
    clear hsc
    have HBD := Lib.hid (qM_bad id2 ty n ([] : List UInt8) (by kernel_rfl))
    go_wp2_with (first
      | (go_at_call 20
         refine KE.out.mono ?_
         rintro e w10 ⟨rfl, q, rfl⟩)
      | (go_at_call 18
         refine (query_at id2 ty A8 c8 (n.length + 1) (n ++ [([] : List UInt8)]) w8 (by simp) ⟨hr8, hc8, hsn⟩ hid hty).mono ?_
         rw [show (⟨id2, 256, [⟨n ++ [([] : List UInt8)], ty, 1⟩], [], [], []⟩ : Ms) = qM id2 ty (n ++ [([] : List UInt8)]) from rfl, HBD.out]
         rintro e w9 ⟨v9, rfl, ho9, hb9⟩
         obtain ⟨A9, c9, rfl, hc9, hr9⟩ := ho9.form6 0 rfl
         have hV9 := hV8.below hb9 hV8.lt
         obtain ⟨y0, y1, y2⟩ := hV9.c3
         have KE := Lib.hid (seq_at w9 Ay A3 cy c3 n.length n.length n n true (by simp) rfl rfl ((hqn8.1.below hb9).more hb9.size) (((ow_rdn hown8 (sc_length _)).below hb9).more hb9.size) (Nat.le_trans (len_le_size n) (by omega)) (Nat.le_trans (len_le_size n) (by omega))))
      | (at_builtin
         refine wpList_appK _ rfl _ _ _ _ rfl w2.heap.size 9 i0 (.string ⟨#[]⟩) 16 Try.underlying37 hi hz0 hz1 hz2 rfl (by omega) (.slice A3 n.length c3) (sc n) hOM.out rfl 1 [(Value.string ⟨#[]⟩)] hSr.out hbb hbs ?_
         intro v8 w8 hown3 hgr3 hsz3 hown8
         rw [HSC.out] at hown3
         obtain ⟨A8, c8, rfl, hc8, hr8⟩ := hown3.form6 (n ++ [([] : List UInt8)]).length (sc_length _)
         have hqn8 : NRd w8 w8.heap.size Ay cy n := ⟨(((hqn6.1.goes (below_two w6 _ _))).grA hgr3 (fun _ a ha e => by
           cases A3 with
           | none => simp [Value.ownBlock] at e
           | some b3 =>
             simp [Value.ownBlock] at e
             have := h3A b3 rfl
             have := hNA a ha
             omega)), hqn6.2⟩
         have hV8 : Vx w8 gq 42 [.slice Ay n.length cy, .int .u16 (ty : Int), .int .u16 1] := ((HV6.alloc _).alloc _).grown hgr3.1 (fun e => by
           cases A3 with
           | none => simp [Value.ownBlock] at e
           | some b3 =>
             simp [Value.ownBlock] at e
             have := h3A b3 rfl
             omega)
         have hB8 : Below w.heap.size w w8 := (hB6.trans ((below_two w6 _ _).mono hB6.size)).trans (hgr3.below (fun g hg => by
           cases A3 with
           | none => simp [Value.ownBlock] at hg
           | some b3 =>
             simp [Value.ownBlock] at hg
             have := h2A b3 rfl
             omega) (by have := hB6.size; simp; omega))))
    go_ret
    exact ⟨rfl, bl_drewN (hB8.trans (hb9.mono hB8.size)) q⟩
  · have kq1 : (bad : Int) % 2 = 1 := by omega
    have kq2 : (bad : Int).tmod 2 = 1 := by rw [Int.tmod_eq_emod_of_nonneg (by omega)]; exact kq1
    have hsn : sizeN (n ++ [([65] : List UInt8)]) ≤ 140737488355328 := by rw [sizeN_snoc]; simp; omega
    have hsc : sc n ++ [(Value.string ⟨#[65]⟩)] = sc (n ++ [([65] : List UInt8)]) := by simp [sc, strV]
    have HSC := Lib.hid hsc
    have hOM := Lib.hid ((HO6.alloc (.cells #[.string ⟨#[]⟩, .string ⟨#[65]⟩] 9)).alloc (.cells #[(Value.string ⟨#[65]⟩)] 9))
    have hsr := one_src (P := Try.prog) (w := w6.alloc (.cells #[.string ⟨#[]⟩, .string ⟨#[65]⟩] 9)) (e := 9) Try.underlying37 (Value.string ⟨#[65]⟩) rfl
    rw [World.size_alloc] at hsr
    have hSr := Lib.hid hsr
    clear hsr
    have hbb : ((sc n).length + 1) * 16 ≤ 140737488355328 := by rw [sc_length]; have := len_le_size n; omega
    have hbs : w2.heap.size ≤ ((w6.alloc (.cells #[.string ⟨#[]⟩, .string ⟨#[65]⟩] 9)).alloc (.cells #[(Value.string ⟨#[65]⟩)] 9)).heap.size := by simp; omega
    clear hsc
    have HBD := Lib.hid (qM_bad id2 ty n ([65] : List UInt8) (by kernel_rfl))
    go_wp2_with (first
      | (go_at_call 20
         refine KE.out.mono ?_
         rintro e w10 ⟨rfl, q, rfl⟩)
      | (go_at_call 18
         refine (query_at id2 ty A8 c8 (n.length + 1) (n ++ [([65] : List UInt8)]) w8 (by simp) ⟨hr8, hc8, hsn⟩ hid hty).mono ?_
         rw [show (⟨id2, 256, [⟨n ++ [([65] : List UInt8)], ty, 1⟩], [], [], []⟩ : Ms) = qM id2 ty (n ++ [([65] : List UInt8)]) from rfl, HBD.out]
         rintro e w9 ⟨v9, rfl, ho9, hb9⟩
         obtain ⟨A9, c9, rfl, hc9, hr9⟩ := ho9.form6 0 rfl
         have hV9 := hV8.below hb9 hV8.lt
         obtain ⟨y0, y1, y2⟩ := hV9.c3
         have KE := Lib.hid (seq_at w9 Ay A3 cy c3 n.length n.length n n true (by simp) rfl rfl ((hqn8.1.below hb9).more hb9.size) (((ow_rdn hown8 (sc_length _)).below hb9).more hb9.size) (Nat.le_trans (len_le_size n) (by omega)) (Nat.le_trans (len_le_size n) (by omega))))
      | (at_builtin
         refine wpList_appK _ rfl _ _ _ _ rfl w2.heap.size 9 i0 (.string ⟨#[]⟩) 16 Try.underlying37 hi hz0 hz1 hz2 rfl (by omega) (.slice A3 n.length c3) (sc n) hOM.out rfl 1 [(Value.string ⟨#[65]⟩)] hSr.out hbb hbs ?_
         intro v8 w8 hown3 hgr3 hsz3 hown8
         rw [HSC.out] at hown3
         obtain ⟨A8, c8, rfl, hc8, hr8⟩ := hown3.form6 (n ++ [([65] : List UInt8)]).length (sc_length _)
         have hqn8 : NRd w8 w8.heap.size Ay cy n := ⟨(((hqn6.1.goes (below_two w6 _ _))).grA hgr3 (fun _ a ha e => by
           cases A3 with
           | none => simp [Value.ownBlock] at e
           | some b3 =>
             simp [Value.ownBlock] at e
             have := h3A b3 rfl
             have := hNA a ha
             omega)), hqn6.2⟩
         have hV8 : Vx w8 gq 42 [.slice Ay n.length cy, .int .u16 (ty : Int), .int .u16 1] := ((HV6.alloc _).alloc _).grown hgr3.1 (fun e => by
           cases A3 with
           | none => simp [Value.ownBlock] at e
           | some b3 =>
             simp [Value.ownBlock] at e
             have := h3A b3 rfl
             omega)
         have hB8 : Below w.heap.size w w8 := (hB6.trans ((below_two w6 _ _).mono hB6.size)).trans (hgr3.below (fun g hg => by
           cases A3 with
           | none => simp [Value.ownBlock] at hg
           | some b3 =>
             simp [Value.ownBlock] at hg
             have := h2A b3 rfl
             omega) (by have := hB6.size; simp; omega))))
    go_ret
    exact ⟨rfl, bl_drewN (hB8.trans (hb9.mono hB8.size)) q⟩
end Go.Proofs.Ytmhehgalfmdldaa
