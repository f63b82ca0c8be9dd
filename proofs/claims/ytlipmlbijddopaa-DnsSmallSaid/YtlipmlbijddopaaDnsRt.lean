/-
  DnsRight: what is read is a right message, and is read again from its form.
-/
import Derived.Test.YtlipmlbijddopaaDnsA
import Derived.Test.YtlipmlbijddopaaDnsAw
set_option linter.unusedVariables false
set_option linter.unusedSimpArgs false
namespace Go.Proofs.Ytlipmlbijddopaa
open Go.RowKit
theorem ow_blk2 {w : World} {base : Nat} {e : TypeId} {v : Value} {xs : List Value} (h : Ow w base e v xs) : ∀ g, v.ownBlock = some g → g < w.heap.size := fun g hg => ow_block_lt h g hg
/-- a message in a block of its own -/
def BoxM (w : World) (g : Nat) (x : MR) : Prop := Vx w g 28 x.cells ∧ MRd w w.heap.size x
theorem BoxM.go {w w' : World} {g : Nat} {x : MR} (h : BoxM w g x) (hb : Below w.heap.size w w') : BoxM w' g x := ⟨h.1.below hb h.1.lt, (h.2.below hb).more hb.size⟩
theorem BoxM.new {w : World} {x : MR} (h : MRd w w.heap.size x) : BoxM (w.alloc (.cells x.cells.toArray 28)) w.heap.size x := ⟨Vx.new w _ _, (h.below (below_new w _)).more (below_new w _).size⟩
def Bxs (w : World) (l : List (Nat × MR)) : Prop := ∀ m ∈ l, BoxM w m.1 m.2
theorem Bxs.go {w w' : World} {l : List (Nat × MR)} (h : Bxs w l) (hb : Below w.heap.size w w') : Bxs w' l := fun m hm => (h m hm).go hb
theorem Bxs.cons {w : World} {l : List (Nat × MR)} (h : Bxs w l) {g : Nat} {x : MR} (hx : BoxM w g x) : Bxs w ((g, x) :: l) := fun m hm => by
  rcases List.mem_cons.1 hm with rfl | hm
  · exact hx
  · exact h m hm
theorem Bxs.nil (w : World) : Bxs w [] := fun _ h => by cases h
/-- what is read, into a box; with what was known -/
theorem box_read {w w' : World} {ds : List (Option Addr × Nat × List Value)} {ms : List (Nat × MR)} {b : List UInt8} {x : MR} (hd : Knows w ds) (hm : Bxs w ms) (hx : x.m = (readM b).1) (ho : MOw w' w.heap.size x) (hb : Below w.heap.size w w') :
    Knows (w'.alloc (.cells x.cells.toArray 28)) ds ∧ Bxs (w'.alloc (.cells x.cells.toArray 28)) ((w'.heap.size, x) :: ms) ∧ Below w.heap.size w (w'.alloc (.cells x.cells.toArray 28)) := by
  have hn := below_new w' (.cells x.cells.toArray 28)
  exact ⟨(hd.below hb).below hn, ((hm.go hb).go hn).cons (BoxM.new (read_mrd ho hx)), hb.trans (hn.mono hb.size)⟩
theorem read_ex (s : UInt8) (t : List UInt8) (m : Ms) (er : Nat) (h : readM (DX.rep s t) = (m, er)) (A : Option Addr) (c : Nat) (w : World) (hr : Rd w w.heap.size A (DX.rep s t).length (bc (DX.rep s t))) (hc : (DX.rep s t).length ≤ c) (hA : ∀ a, A = some a → a.block < w.heap.size) (ht : t.length ≤ 100) :
    Calls Try.prog 17 #[.slice A (DX.rep s t).length c] w fun e w' => ∃ x : MR, x.m = m ∧ x.m = (readM (DX.rep s t)).1 ∧ e = .returned (.tuple #[.agg x.cells.toArray, .int .i64 (er : Int)]) ∧ MOw w' w.heap.size x ∧ Below w.heap.size w w' := by
  have := readD_at A c (DX.rep s t) w hr hc hA (by simp [DX.rep, DX.hdr, DX.mid]; omega)
  rw [h] at this
  refine this.mono ?_
  rintro e w' ⟨x, h1, h2, h3, h4⟩
  exact ⟨x, h1, by rw [h]; exact h1, h2, h3, h4⟩
theorem DX.read3' : readM (DX.rep 12 [1, 104, 1, 98, 0]) = (zM, 171) := by kernel_rfl
theorem DX.read4' : readM (DX.rep 10 [1, 104, 1, 98, 0]) = (zM, 172) := by kernel_rfl
theorem add_cases (a : Nat) : True := trivial
set_option maxRecDepth 100000 in
set_option maxHeartbeats 4000000 in
theorem dawake_any (w : World) : Calls Try.prog 11 #[] w fun e w' => e = .returned (.bool true) ∧ Below w.heap.size w w' := by
  go_enter Try.func11, Try.ntmps11
  go_upto_region 2 with (go_at_call 5
                         refine (example_at w).mono ?_
                         rintro e w2 ⟨A1, c1, x, rfl, hxm, hrd, hmr, hb2⟩
                         obtain ⟨id2, fl2, qA2, qc2, qs2, aA2, ac2, ra2, bA2, bd2, rb2, cA2, cc2, rc2⟩ := x
                         have HX2 := Lib.hid hxm
                         clear hxm
                         unfold MR.cells
                         dsimp only)
  have kn2 : Knows (w2.alloc (.cells #[.int .u16 (id2 : Int), .int .u16 (fl2 : Int), .slice qA2 qs2.length qc2, .slice aA2 ra2.length ac2, .slice bA2 rb2.length bd2, .slice cA2 rc2.length cc2] 28)) [(A1, 22, bc DX.qB)] := ((Knows.nil w2).cons hrd).below (below_new w2 _)
  have bx2 : Bxs (w2.alloc (.cells #[.int .u16 (id2 : Int), .int .u16 (fl2 : Int), .slice qA2 qs2.length qc2, .slice aA2 ra2.length ac2, .slice bA2 rb2.length bd2, .slice cA2 rc2.length cc2] 28)) [(w2.heap.size, (⟨id2, fl2, qA2, qc2, qs2, aA2, ac2, ra2, bA2, bd2, rb2, cA2, cc2, rc2⟩ : MR))] := (Bxs.nil _).cons (BoxM.new hmr)
  have hB2 : Below w.heap.size w (w2.alloc (.cells #[.int .u16 (id2 : Int), .int .u16 (fl2 : Int), .slice qA2 qs2.length qc2, .slice aA2 ra2.length ac2, .slice bA2 rb2.length bd2, .slice cA2 rc2.length cc2] 28)) := hb2.trans ((below_new w2 _).mono hb2.size)
  obtain ⟨g2, hg2⟩ : ∃ g, g = w2.heap.size := ⟨_, rfl⟩
  rw [← hg2] at bx2
  rw [← hg2]
  clear hg2 hrd hmr hb2
  generalize w2.alloc (.cells #[.int .u16 (id2 : Int), .int .u16 (fl2 : Int), .slice qA2 qs2.length qc2, .slice aA2 ra2.length ac2, .slice bA2 rb2.length bd2, .slice cA2 rc2.length cc2] 28) = w3 at *
  have KN := Lib.hid kn2
  have BX := Lib.hid bx2
  have HB := Lib.hid hB2
  clear kn2 bx2 hB2
  have hb3 := below_new w3 (.cells (sc DX.nm).toArray 9)
  have k3 := query_at 258 33 (some ⟨w3.heap.size, 0, none⟩) 2 2 DX.nm (w3.alloc (.cells (sc DX.nm).toArray 9)) rfl ⟨Rd.lit_top0 w3 _ (sc DX.nm) 2 rfl, Nat.le_refl _, DX.nm_small⟩ (by decide) (by decide)
  rw [DX.query1] at k3
  have K3 := Lib.hid k3
  clear k3
  go_upto_region 3 with (go_at_call 24
                         refine K3.out.mono ?_
                         rintro e w4 ⟨v4, rfl, ho4, hb4⟩
                         obtain ⟨A4, c4, rfl, hc4, hr4⟩ := ho4.form6 22 rfl)
  have hb34 : Below w3.heap.size w3 w4 := hb3.trans (hb4.mono hb3.size)
  have KN4 := Lib.hid ((KN.out.below hb34).cons hr4)
  have BX4 := Lib.hid (BX.out.go hb34)
  have HB4 := Lib.hid (HB.out.trans (hb34.mono HB.out.size))
  clear KN BX HB K3 hb3 hb4 hb34 ho4 hr4
  have k4 := write_at (⟨id2, fl2, qA2, qc2, qs2, aA2, ac2, ra2, bA2, bd2, rb2, cA2, cc2, rc2⟩ : MR) w4 (BX4.out _ (List.mem_cons_self)).2
  rw [HX2.out, DX.write1] at k4
  have K4 := Lib.hid k4
  obtain ⟨m0, m1, m2, m3, m4, m5⟩ := (BX4.out _ (List.mem_cons_self)).1.c6
  clear k4
  go_upto_region 4 with (go_at_call 15
                         refine K4.out.mono ?_
                         rintro e w5 ⟨v5, rfl, ho5, hb5⟩
                         have hA5 := ow_blk2 ho5
                         obtain ⟨A5, c5, rfl, hc5, hr5⟩ := ho5.form6 _ (bc_length _))
  try simp only at hA5 hc5 hr5
  have KN5 := Lib.hid ((KN4.out.below hb5).cons hr5)
  have BX5 := Lib.hid (BX4.out.go hb5)
  have HB5 := Lib.hid (HB4.out.trans (hb5.mono HB4.out.size))
  have hA5' : ∀ a, A5 = some a → a.block < w5.heap.size := fun a ha => by subst ha; exact hA5 _ rfl
  have K5 := Lib.hid (read_ex 11 [1, 104, 1, 98, 0] DX.M 0 DX.read1 A5 c5 w5 hr5 hc5 hA5' (by decide))
  clear KN4 BX4 HB4 K4 hb5 ho5 hr5 hA5 hA5' m0 m1 m2 m3 m4 m5
  go_upto_region 5 with (first
    | (go_at_call 17
       refine K5.out.mono ?_
       rintro e u5 ⟨x, hxm, hxr, rfl, hmo, hbu⟩
       obtain ⟨id5, fl5, qA5, qc5, qs5, aA5, ac5, ra5, bA5, bd5, rb5, cA5, cc5, rc5⟩ := x
       have HX5 := Lib.hid hxm
       clear hxm
       unfold MR.cells
       dsimp only))
  obtain ⟨y1, y2, y3⟩ := box_read KN5.out BX5.out hxr hmo hbu
  obtain ⟨g5, hg5⟩ : ∃ g, g = u5.heap.size := ⟨_, rfl⟩
  rw [← hg5] at y2
  rw [← hg5]
  change Knows (u5.alloc (.cells #[.int .u16 (id5 : Int), .int .u16 (fl5 : Int), .slice qA5 qs5.length qc5, .slice aA5 ra5.length ac5, .slice bA5 rb5.length bd5, .slice cA5 rc5.length cc5] 28)) _ at y1
  change Bxs (u5.alloc (.cells #[.int .u16 (id5 : Int), .int .u16 (fl5 : Int), .slice qA5 qs5.length qc5, .slice aA5 ra5.length ac5, .slice bA5 rb5.length bd5, .slice cA5 rc5.length cc5] 28)) _ at y2
  change Below _ _ (u5.alloc (.cells #[.int .u16 (id5 : Int), .int .u16 (fl5 : Int), .slice qA5 qs5.length qc5, .slice aA5 ra5.length ac5, .slice bA5 rb5.length bd5, .slice cA5 rc5.length cc5] 28)) at y3
  clear hg5 hxr hmo hbu
  generalize u5.alloc (.cells #[.int .u16 (id5 : Int), .int .u16 (fl5 : Int), .slice qA5 qs5.length qc5, .slice aA5 ra5.length ac5, .slice bA5 rb5.length bd5, .slice cA5 rc5.length cc5] 28) = w6 at *
  have KN6 := Lib.hid y1
  have BX6 := Lib.hid y2
  have HB6 := Lib.hid (HB5.out.trans (y3.mono HB5.out.size))
  clear y1 y2 y3
  clear KN5 BX5 HB5 K5
  have K7a := Lib.hid (reply_at 10 [1, 104, 192, 15] (by decide) w6)
  go_upto_region 6 with (first
    | (go_at_call 17
       refine (read_ex 10 [1, 104, 192, 15] DX.M 0 DX.read2 Ar cr v7 hrr hcr har (by decide)).mono ?_
       rintro e u7 ⟨x, hxm, hxr, rfl, hmo, hbu⟩
       obtain ⟨id7, fl7, qA7, qc7, qs7, aA7, ac7, ra7, bA7, bd7, rb7, cA7, cc7, rc7⟩ := x
       have HX7 := Lib.hid hxm
       clear hxm
       unfold MR.cells
       dsimp only)
    | (go_at_call 6
       refine K7a.out.mono ?_
       rintro e v7 ⟨Ar, cr, rfl, hcr, hrr, har, hbr⟩))
  have KNr := Lib.hid (KN6.out.below hbr)
  have BXr := Lib.hid (BX6.out.go hbr)
  have HBr := Lib.hid (HB6.out.trans (hbr.mono HB6.out.size))
  obtain ⟨y1, y2, y3⟩ := box_read KNr.out BXr.out hxr hmo hbu
  obtain ⟨g7, hg7⟩ : ∃ g, g = u7.heap.size := ⟨_, rfl⟩
  rw [← hg7] at y2
  rw [← hg7]
  change Knows (u7.alloc (.cells #[.int .u16 (id7 : Int), .int .u16 (fl7 : Int), .slice qA7 qs7.length qc7, .slice aA7 ra7.length ac7, .slice bA7 rb7.length bd7, .slice cA7 rc7.length cc7] 28)) _ at y1
  change Bxs (u7.alloc (.cells #[.int .u16 (id7 : Int), .int .u16 (fl7 : Int), .slice qA7 qs7.length qc7, .slice aA7 ra7.length ac7, .slice bA7 rb7.length bd7, .slice cA7 rc7.length cc7] 28)) _ at y2
  change Below _ _ (u7.alloc (.cells #[.int .u16 (id7 : Int), .int .u16 (fl7 : Int), .slice qA7 qs7.length qc7, .slice aA7 ra7.length ac7, .slice bA7 rb7.length bd7, .slice cA7 rc7.length cc7] 28)) at y3
  clear hg7 hxr hmo hbu
  generalize u7.alloc (.cells #[.int .u16 (id7 : Int), .int .u16 (fl7 : Int), .slice qA7 qs7.length qc7, .slice aA7 ra7.length ac7, .slice bA7 rb7.length bd7, .slice cA7 rc7.length cc7] 28) = w7 at *
  have KN7 := Lib.hid y1
  have BX7 := Lib.hid y2
  have HB7 := Lib.hid (HBr.out.trans (y3.mono HBr.out.size))
  clear y1 y2 y3
  clear KNr BXr HBr hbr hcr hrr har K7a KN6 BX6 HB6
  have K8a := Lib.hid (reply_at 12 [1, 104, 1, 98, 0] (by decide) w7)
  go_upto_region 7 with (first
    | (go_at_call 17
       refine (read_ex 12 [1, 104, 1, 98, 0] zM 171 DX.read3' Ar cr v8 hrr hcr har (by decide)).mono ?_
       rintro e u8 ⟨x, hxm, hxr, rfl, hmo, hbu⟩
       obtain ⟨id8, fl8, qA8, qc8, qs8, aA8, ac8, ra8, bA8, bd8, rb8, cA8, cc8, rc8⟩ := x
       have HX8 := Lib.hid hxm
       clear hxm
       unfold MR.cells
       dsimp only)
    | (go_at_call 6
       refine K8a.out.mono ?_
       rintro e v8 ⟨Ar, cr, rfl, hcr, hrr, har, hbr⟩))
  have KNr := Lib.hid (KN7.out.below hbr)
  have BXr := Lib.hid (BX7.out.go hbr)
  have HBr := Lib.hid (HB7.out.trans (hbr.mono HB7.out.size))
  obtain ⟨y1, y2, y3⟩ := box_read KNr.out BXr.out hxr hmo hbu
  obtain ⟨g8, hg8⟩ : ∃ g, g = u8.heap.size := ⟨_, rfl⟩
  rw [← hg8] at y2
  rw [← hg8]
  change Knows (u8.alloc (.cells #[.int .u16 (id8 : Int), .int .u16 (fl8 : Int), .slice qA8 qs8.length qc8, .slice aA8 ra8.length ac8, .slice bA8 rb8.length bd8, .slice cA8 rc8.length cc8] 28)) _ at y1
  change Bxs (u8.alloc (.cells #[.int .u16 (id8 : Int), .int .u16 (fl8 : Int), .slice qA8 qs8.length qc8, .slice aA8 ra8.length ac8, .slice bA8 rb8.length bd8, .slice cA8 rc8.length cc8] 28)) _ at y2
  change Below _ _ (u8.alloc (.cells #[.int .u16 (id8 : Int), .int .u16 (fl8 : Int), .slice qA8 qs8.length qc8, .slice aA8 ra8.length ac8, .slice bA8 rb8.length bd8, .slice cA8 rc8.length cc8] 28)) at y3
  clear hg8 hxr hmo hbu
  generalize u8.alloc (.cells #[.int .u16 (id8 : Int), .int .u16 (fl8 : Int), .slice qA8 qs8.length qc8, .slice aA8 ra8.length ac8, .slice bA8 rb8.length bd8, .slice cA8 rc8.length cc8] 28) = w8 at *
  have KN8 := Lib.hid y1
  have BX8 := Lib.hid y2
  have HB8 := Lib.hid (HBr.out.trans (y3.mono HBr.out.size))
  clear y1 y2 y3
  clear KNr BXr HBr hbr hcr hrr har K8a KN7 BX7 HB7
  have K9a := Lib.hid (reply_at 10 [1, 104, 1, 98, 0] (by decide) w8)
  go_upto_region 8 with (first
    | (go_at_call 17
       refine (read_ex 10 [1, 104, 1, 98, 0] zM 172 DX.read4' Ar cr v9 hrr hcr har (by decide)).mono ?_
       rintro e u9 ⟨x, hxm, hxr, rfl, hmo, hbu⟩
       obtain ⟨id9, fl9, qA9, qc9, qs9, aA9, ac9, ra9, bA9, bd9, rb9, cA9, cc9, rc9⟩ := x
       have HX9 := Lib.hid hxm
       clear hxm
       unfold MR.cells
       dsimp only)
    | (go_at_call 6
       refine K9a.out.mono ?_
       rintro e v9 ⟨Ar, cr, rfl, hcr, hrr, har, hbr⟩))
  have KNr := Lib.hid (KN8.out.below hbr)
  have BXr := Lib.hid (BX8.out.go hbr)
  have HBr := Lib.hid (HB8.out.trans (hbr.mono HB8.out.size))
  obtain ⟨y1, y2, y3⟩ := box_read KNr.out BXr.out hxr hmo hbu
  obtain ⟨g9, hg9⟩ : ∃ g, g = u9.heap.size := ⟨_, rfl⟩
  rw [← hg9] at y2
  rw [← hg9]
  change Knows (u9.alloc (.cells #[.int .u16 (id9 : Int), .int .u16 (fl9 : Int), .slice qA9 qs9.length qc9, .slice aA9 ra9.length ac9, .slice bA9 rb9.length bd9, .slice cA9 rc9.length cc9] 28)) _ at y1
  change Bxs (u9.alloc (.cells #[.int .u16 (id9 : Int), .int .u16 (fl9 : Int), .slice qA9 qs9.length qc9, .slice aA9 ra9.length ac9, .slice bA9 rb9.length bd9, .slice cA9 rc9.length cc9] 28)) _ at y2
  change Below _ _ (u9.alloc (.cells #[.int .u16 (id9 : Int), .int .u16 (fl9 : Int), .slice qA9 qs9.length qc9, .slice aA9 ra9.length ac9, .slice bA9 rb9.length bd9, .slice cA9 rc9.length cc9] 28)) at y3
  clear hg9 hxr hmo hbu
  generalize u9.alloc (.cells #[.int .u16 (id9 : Int), .int .u16 (fl9 : Int), .slice qA9 qs9.length qc9, .slice aA9 ra9.length ac9, .slice bA9 rb9.length bd9, .slice cA9 rc9.length cc9] 28) = w9 at *
  have KN9 := Lib.hid y1
  have BX9 := Lib.hid y2
  have HB9 := Lib.hid (HBr.out.trans (y3.mono HBr.out.size))
  clear y1 y2 y3
  clear KNr BXr HBr hbr hcr hrr har K9a KN8 BX8 HB8
  have kq := beq_any A4 A1 c4 c1 DX.qB DX.qB w9 w9.heap.size (KN9.out.get (.tail _ (.head _))) (KN9.out.get (.tail _ (.tail _ (.head _))))
  rw [show decide (DX.qB = DX.qB) = true by decide] at kq
  have kr := reply_at 11 [1, 104, 1, 98, 0] (by decide) w9
  have ke := fun (W : World) (Ar cr) (h1 : Below w9.heap.size w9 W) (h2 : Rd W W.heap.size Ar (DX.rep 11 [1, 104, 1, 98, 0]).length (bc (DX.rep 11 [1, 104, 1, 98, 0]))) => beq_any A5 Ar c5 cr (DX.rep 11 [1, 104, 1, 98, 0]) (DX.rep 11 [1, 104, 1, 98, 0]) W W.heap.size (((KN9.out.below h1)).get (.head _)) h2
  rw [show decide (DX.rep 11 [1, 104, 1, 98, 0] = DX.rep 11 [1, 104, 1, 98, 0]) = true by decide] at ke
  have ks5 := fun (W : World) (h1 : Below w9.heap.size w9 W) => (sameM_at (⟨id5, fl5, qA5, qc5, qs5, aA5, ac5, ra5, bA5, bd5, rb5, cA5, cc5, rc5⟩ : MR) (⟨id2, fl2, qA2, qc2, qs2, aA2, ac2, ra2, bA2, bd2, rb2, cA2, cc2, rc2⟩ : MR) W ((BX9.out.go h1) _ (.tail _ (.tail _ (.tail _ (.head _))))).2 ((BX9.out.go h1) _ (.tail _ (.tail _ (.tail _ (.tail _ (.head _)))))).2)
  rw [HX5.out, HX2.out, DX.same1] at ks5
  have ks7 := fun (W : World) (h1 : Below w9.heap.size w9 W) => (sameM_at (⟨id7, fl7, qA7, qc7, qs7, aA7, ac7, ra7, bA7, bd7, rb7, cA7, cc7, rc7⟩ : MR) (⟨id2, fl2, qA2, qc2, qs2, aA2, ac2, ra2, bA2, bd2, rb2, cA2, cc2, rc2⟩ : MR) W ((BX9.out.go h1) _ (.tail _ (.tail _ (.head _)))).2 ((BX9.out.go h1) _ (.tail _ (.tail _ (.tail _ (.tail _ (.head _)))))).2)
  rw [HX7.out, HX2.out, DX.same1] at ks7
  have hsm : ∀ r ∈ ((⟨id2, fl2, qA2, qc2, qs2, aA2, ac2, ra2, bA2, bd2, rb2, cA2, cc2, rc2⟩ : MR)).r0, r.r.q.nm.length * 16 ≤ 140737488355328 ∧ r.r.tg.length * 16 ≤ 140737488355328 := by
    intro r hr
    have h1 : r.r ∈ ((⟨id2, fl2, qA2, qc2, qs2, aA2, ac2, ra2, bA2, bd2, rb2, cA2, cc2, rc2⟩ : MR)).m.r0 := List.mem_map.2 ⟨r, hr, rfl⟩
    rw [HX2.out] at h1
    rw [List.mem_singleton.1 h1]
    decide
  have ka := fun (W : World) (h1 : Below w9.heap.size w9 W) => answers_at (⟨id2, fl2, qA2, qc2, qs2, aA2, ac2, ra2, bA2, bd2, rb2, cA2, cc2, rc2⟩ : MR) (some ⟨W.heap.size, 0, none⟩) 2 DX.nm 33 (W.alloc (.cells (sc DX.nm).toArray 9)) ((BX9.out.go (h1.trans ((below_new W (.cells (sc DX.nm).toArray 9)).mono h1.size))) _ (.tail _ (.tail _ (.tail _ (.tail _ (.head _)))))).2 ⟨Rd.lit_top0 W _ (sc DX.nm) 2 rfl, Nat.le_refl _, DX.nm_small⟩ (by decide) hsm
  rw [HX2.out, DX.ans1] at ka
  have KQ := Lib.hid kq
  have KR := Lib.hid kr
  have KE := Lib.hid ke
  have KS5 := Lib.hid ks5
  have KS7 := Lib.hid ks7
  have KA := Lib.hid ka
  clear kq kr ke ks5 ks7 ka hsm
  have hlen : ((DX.rep 11 [1, 104, 1, 98, 0]).length : Int) = 45 := by decide
  have C5 := Lib.hid (fun (W : World) (h1 : Below w9.heap.size w9 W) => ((BX9.out.go h1) _ (.tail _ (.tail _ (.tail _ (.head _))))).1.c6)
  have C2 := Lib.hid (fun (W : World) (h1 : Below w9.heap.size w9 W) => ((BX9.out.go h1) _ (.tail _ (.tail _ (.tail _ (.tail _ (.head _)))))).1.c6)
  have C7 := Lib.hid (fun (W : World) (h1 : Below w9.heap.size w9 W) => ((BX9.out.go h1) _ (.tail _ (.tail _ (.head _)))).1.c6)
  go_wp2_with (first
    | (go_at_call 26
       refine (KA.out v12 hb12).mono ?_
       rintro e v13 ⟨la, Aa, ca, rfl, hla, _, _, hb13⟩
       have hla1 : (la.length : Int) = 1 := by
         have := congrArg List.length hla
         simp at this
         omega
       have hb913 : Below w9.heap.size w9 v13 := (hb12.trans ((below_new v12 (.cells (sc DX.nm).toArray 9)).mono hb12.size)).trans (hb13.mono (by have := hb12.size; simp; omega)))
    | (go_at_call 25
       refine (KS7.out v11 hb11).mono ?_
       rintro e v12 ⟨rfl, hbs⟩
       have hb12 : Below w9.heap.size w9 v12 := hb11.trans (hbs.mono hb11.size)
       obtain ⟨r0, r1, r2, r3, r4, r5⟩ := C2.out v12 hb12)
    | (go_at_call 25
       refine (KS5.out v10 hb10).mono ?_
       rintro e v11 ⟨rfl, hbs⟩
       have hb11 : Below w9.heap.size w9 v11 := hb10.trans (hbs.mono hb10.size)
       obtain ⟨s0, s1, s2, s3, s4, s5⟩ := C7.out v11 hb11
       obtain ⟨r0, r1, r2, r3, r4, r5⟩ := C2.out v11 hb11)
    | (go_at_call 22
       refine (KE.out v10 Ae ce hb10 hre).mono ?_
       rintro e v10 ⟨rfl, rfl⟩)
    | (go_at_call 22
       refine KQ.out.mono ?_
       rintro e w9 ⟨rfl, rfl⟩)
    | (go_at_call 6
       refine KR.out.mono ?_
       rintro e v10 ⟨Ae, ce, rfl, hce, hre, _, hb10⟩
       obtain ⟨p0, p1, p2, p3, p4, p5⟩ := C5.out v10 hb10
       obtain ⟨q0, q1, q2, q3, q4, q5⟩ := C2.out v10 hb10))
  go_ret
  exact ⟨rfl, HB9.out.trans (hb913.mono HB9.out.size)⟩
open Go.RowKit
set_option maxRecDepth 100000 in
set_option maxHeartbeats 1000000 in
/-- Read, whatever the bytes are -/
theorem readE_at (A : Option Addr) (c : Nat) (b : List UInt8) (m : Ms) (er : Nat) (hm : readM b = (m, er)) (w : World) (h : Rd w w.heap.size A b.length (bc b)) (hc : b.length ≤ c) (hbl : b.length ≤ 140737488355328) :
    Calls Try.prog 17 #[.slice A b.length c] w fun e w' => ∃ x : MR, x.m = m ∧ e = .returned (.tuple #[.agg x.cells.toArray, .int .i64 (er : Int)]) ∧ MRd w' w'.heap.size x ∧ Below w.heap.size w w' := by
  have hz : (readM b).1 = m := by rw [hm]
  have hz2 : (readM b).2 = er := by rw [hm]
  rw [← hz, ← hz2]
  by_cases h2 : b.length < 12
  · have hr1 : readM b = (zM, 171) := by unfold readM; rw [if_neg (by omega), if_pos h2]
    rw [hr1]
    have h1' : (b.length : Int) ≤ 4096 := by omega
    have h2' : (b.length : Int) < 12 := by omega
    have hV1 : Vx (w.alloc (.cells #[.int .u16 0, .int .u16 0, .slice none 0 0, .slice none 0 0, .slice none 0 0, .slice none 0 0] 28)) w.heap.size 28 zM6 := Vx.new w _ _
    have hb1 := below_new w (.cells #[.int .u16 0, .int .u16 0, .slice none 0 0, .slice none 0 0, .slice none 0 0, .slice none 0 0] 28)
    clear hm hz hz2 hr1 h
    go_enter Try.func17, Try.ntmps17
    go_wp2_with (refine wpList_store_row rfl 28 _ _ rfl w.heap.size _ rfl rfl _ _ hV1 (by kernel_rfl) rfl (by kernel_rfl) ?_)
    refine bodyPost_ret (resM Try.results17 _ _ w.heap.size _ _ _ rfl rfl (hV1.row zM6) rfl) rfl ?_
    exact ⟨zMR, rfl, rfl, (zMR_ow _ 0).rd rfl okM_z (by simp [Ms.num, zMR, MR.m]), hb1.trans ((Only.row _ _ _).below (Nat.le_refl _) (by simp))⟩
  · refine (readD_at A c b w h hc (fun a ha => ?_) hbl).mono ?_
    · obtain ⟨bb, o, e, hb, _⟩ := h.2 (by omega)
      rw [e] at ha
      cases ha
      exact hb
    · rintro e w' ⟨x, h1, h2, h3, h4⟩
      exact ⟨x, h1, h2, read_mrd h3 h1, h4⟩
theorem readO_at (A : Option Addr) (c : Nat) (b : List UInt8) (m : Ms) (er : Nat) (hm : readM b = (m, er)) (w : World) (h : Rd w w.heap.size A b.length (bc b)) (hc : b.length ≤ c) (hA : ∀ a, A = some a → a.block < w.heap.size) (hbl : b.length ≤ 140737488355328) :
    Calls Try.prog 17 #[.slice A b.length c] w fun e w' => ∃ x : MR, x.m = m ∧ e = .returned (.tuple #[.agg x.cells.toArray, .int .i64 (er : Int)]) ∧ MOw w' w.heap.size x ∧ MRd w' w'.heap.size x ∧ Below w.heap.size w w' := by
  have := readD_at A c b w h hc hA hbl
  rw [hm] at this
  refine this.mono ?_
  rintro e w' ⟨x, h1, h2, h3, h4⟩
  exact ⟨x, h1, h2, h3, read_mrd h3 (by rw [hm]; exact h1), h4⟩
theorem below_chain {w a b : World} {o : Obj} (h : Below w.heap.size w a) (k : Below (a.alloc o).heap.size (a.alloc o) b) : Below w.heap.size w b := by
  have h1 := h.trans ((below_new a o).mono h.size)
  exact h1.trans (k.mono h1.size)
theorem zmrd (w : World) : MRd w w.heap.size zMR := (zMR_ow w 0).rd rfl okM_z (by simp [Ms.num, zMR, MR.m])
end Go.Proofs.Ytlipmlbijddopaa
