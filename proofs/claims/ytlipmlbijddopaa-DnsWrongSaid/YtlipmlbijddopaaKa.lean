/-
  DnsRt; DnsHp; DnsWg; DnsRp; DnsWn; DnsWk
-/
import Derived.Test.YtlipmlbijddopaaDnsA
import Derived.Test.YtlipmlbijddopaaDnsAw
import Derived.Test.YtlipmlbijddopaaDnsB2
import Derived.Test.YtlipmlbijddopaaKb
import Derived.Test.YtlipmlbijddopaaDnsW3
import Derived.Test.YtlipmlbijddopaaDnsQ6
import Derived.Test.YtlipmlbijddopaaDnsM
import Derived.Laws.CopyOwn
import Derived.Deep.RegionLaw
import Derived.Test.YtlipmlbijddopaaDnsE
import Derived.Deep.CutBlock
set_option linter.unusedVariables false
set_option linter.unusedSimpArgs false
namespace Go.Proofs.Ytlipmlbijddopaa
open Go.RowKit
theorem ow_blk2 {w : World} {base : Nat} {e : TypeId} {v : Value} {xs : List Value} (h : Ow w base e v xs) : ∀ g, v.ownBlock = some g → g < w.heap.size := fun g hg => ow_block_lt h g hg
/-- a message in a block of its own -/
def BoxM (w : World) (g : Nat) (x : MR) : Prop := Vx w g 28 x.cells ∧ MRd w w.heap.size x
theorem BoxM.go {w w' : World} {g : Nat} {x : MR} (h : BoxM w g x) (hb : Below w.heap.size w w') : BoxM w' g x := ⟨h.1.below hb h.1.lt, (h.2.below hb).more hb.size⟩
theorem BoxM.new {w : World} {x : MR} (h : MRd w w.heap.size x) : BoxM (w.alloc (.cells x.cells.toArray 28)) w.heap.size x := ⟨Vx.new w _ _, (h.below (below_new w _)).more (below_new w _).size⟩
def Bxs (w : World) (l : List (Nat × MR)) : Prop := ∀ m ∈ l, BoxM w m.1 m.2
theorem Bxs.go {w w' : World} {l : List (Nat × MR)} (h : Bxs w l) (hb : Below w.heap.size w w') : Bxs w' l := fun m hm => (h m hm).go hb
theorem Bxs.cons {w : World} {l : List (Nat × MR)} (h : Bxs w l) {g : Nat} {x : MR} (hx : BoxM w g x) : Bxs w ((g, x) :: l) := fun m hm => by
  rcases List.mem_cons.1 hm with rfl | hm
  · exact hx
  · exact h m hm
theorem Bxs.nil (w : World) : Bxs w [] := fun _ h => by cases h
/-- what is read, into a box; with what was known -/
theorem box_read {w w' : World} {ds : List (Option Addr × Nat × List Value)} {ms : List (Nat × MR)} {b : List UInt8} {x : MR} (hd : Knows w ds) (hm : Bxs w ms) (hx : x.m = (readM b).1) (ho : MOw w' w.heap.size x) (hb : Below w.heap.size w w') :
    Knows (w'.alloc (.cells x.cells.toArray 28)) ds ∧ Bxs (w'.alloc (.cells x.cells.toArray 28)) ((w'.heap.size, x) :: ms) ∧ Below w.heap.size w (w'.alloc (.cells x.cells.toArray 28)) := by
  have hn := below_new w' (.cells x.cells.toArray 28)
  exact ⟨(hd.below hb).below hn, ((hm.go hb).go hn).cons (BoxM.new (read_mrd ho hx)), hb.trans (hn.mono hb.size)⟩
theorem read_ex (s : UInt8) (t : List UInt8) (m : Ms) (er : Nat) (h : readM (DX.rep s t) = (m, er)) (A : Option Addr) (c : Nat) (w : World) (hr : Rd w w.heap.size A (DX.rep s t).length (bc (DX.rep s t))) (hc : (DX.rep s t).length ≤ c) (hA : ∀ a, A = some a → a.block < w.heap.size) (ht : t.length ≤ 100) :
    Calls Try.prog 17 #[.slice A (DX.rep s t).length c] w fun e w' => ∃ x : MR, x.m = m ∧ x.m = (readM (DX.rep s t)).1 ∧ e = .returned (.tuple #[.agg x.cells.toArray, .int .i64 (er : Int)]) ∧ MOw w' w.heap.size x ∧ Below w.heap.size w w' := by
  have := readD_at A c (DX.rep s t) w hr hc hA (by simp [DX.rep, DX.hdr, DX.mid]; omega)
  rw [h] at this
  refine this.mono ?_
  rintro e w' ⟨x, h1, h2, h3, h4⟩
  exact ⟨x, h1, by rw [h]; exact h1, h2, h3, h4⟩
theorem DX.read3' : readM (DX.rep 12 [1, 104, 1, 98, 0]) = (zM, 171) := by kernel_rfl
theorem DX.read4' : readM (DX.rep 10 [1, 104, 1, 98, 0]) = (zM, 172) := by kernel_rfl
theorem add_cases (a : Nat) : True := trivial
set_option maxRecDepth 100000 in
set_option maxHeartbeats 4000000 in
theorem dawake_any (w : World) : Calls Try.prog 11 #[] w fun e w' => e = .returned (.bool true) ∧ Below w.heap.size w w' := by
  go_enter Try.func11, Try.ntmps11
  go_upto_region 2 with (go_at_call 5
                         refine (example_at w).mono ?_
                         rintro e w2 ⟨A1, c1, x, rfl, hxm, hrd, hmr, hb2⟩
                         obtain ⟨id2, fl2, qA2, qc2, qs2, aA2, ac2, ra2, bA2, bd2, rb2, cA2, cc2, rc2⟩ := x
                         have HX2 := Lib.hid hxm
                         clear hxm
                         unfold MR.cells
                         dsimp only)
  have kn2 : Knows (w2.alloc (.cells #[.int .u16 (id2 : Int), .int .u16 (fl2 : Int), .slice qA2 qs2.length qc2, .slice aA2 ra2.length ac2, .slice bA2 rb2.length bd2, .slice cA2 rc2.length cc2] 28)) [(A1, 22, bc DX.qB)] := ((Knows.nil w2).cons hrd).below (below_new w2 _)
  have bx2 : Bxs (w2.alloc (.cells #[.int .u16 (id2 : Int), .int .u16 (fl2 : Int), .slice qA2 qs2.length qc2, .slice aA2 ra2.length ac2, .slice bA2 rb2.length bd2, .slice cA2 rc2.length cc2] 28)) [(w2.heap.size, (⟨id2, fl2, qA2, qc2, qs2, aA2, ac2, ra2, bA2, bd2, rb2, cA2, cc2, rc2⟩ : MR))] := (Bxs.nil _).cons (BoxM.new hmr)
  have hB2 : Below w.heap.size w (w2.alloc (.cells #[.int .u16 (id2 : Int), .int .u16 (fl2 : Int), .slice qA2 qs2.length qc2, .slice aA2 ra2.length ac2, .slice bA2 rb2.length bd2, .slice cA2 rc2.length cc2] 28)) := hb2.trans ((below_new w2 _).mono hb2.size)
  obtain ⟨g2, hg2⟩ : ∃ g, g = w2.heap.size := ⟨_, rfl⟩
  rw [← hg2] at bx2
  rw [← hg2]
  clear hg2 hrd hmr hb2
  generalize w2.alloc (.cells #[.int .u16 (id2 : Int), .int .u16 (fl2 : Int), .slice qA2 qs2.length qc2, .slice aA2 ra2.length ac2, .slice bA2 rb2.length bd2, .slice cA2 rc2.length cc2] 28) = w3 at *
  have KN := Lib.hid kn2
  have BX := Lib.hid bx2
  have HB := Lib.hid hB2
  clear kn2 bx2 hB2
  have hb3 := below_new w3 (.cells (sc DX.nm).toArray 9)
  have k3 := query_at 258 33 (some ⟨w3.heap.size, 0, none⟩) 2 2 DX.nm (w3.alloc (.cells (sc DX.nm).toArray 9)) rfl ⟨Rd.lit_top0 w3 _ (sc DX.nm) 2 rfl, Nat.le_refl _, DX.nm_small⟩ (by decide) (by decide)
  rw [DX.query1] at k3
  have K3 := Lib.hid k3
  clear k3
  go_upto_region 3 with (go_at_call 24
                         refine K3.out.mono ?_
                         rintro e w4 ⟨v4, rfl, ho4, hb4⟩
                         obtain ⟨A4, c4, rfl, hc4, hr4⟩ := ho4.form6 22 rfl)
  have hb34 : Below w3.heap.size w3 w4 := hb3.trans (hb4.mono hb3.size)
  have KN4 := Lib.hid ((KN.out.below hb34).cons hr4)
  have BX4 := Lib.hid (BX.out.go hb34)
  have HB4 := Lib.hid (HB.out.trans (hb34.mono HB.out.size))
  clear KN BX HB K3 hb3 hb4 hb34 ho4 hr4
  have k4 := write_at (⟨id2, fl2, qA2, qc2, qs2, aA2, ac2, ra2, bA2, bd2, rb2, cA2, cc2, rc2⟩ : MR) w4 (BX4.out _ (List.mem_cons_self)).2
  rw [HX2.out, DX.write1] at k4
  have K4 := Lib.hid k4
  obtain ⟨m0, m1, m2, m3, m4, m5⟩ := (BX4.out _ (List.mem_cons_self)).1.c6
  clear k4
  go_upto_region 4 with (go_at_call 15
                         refine K4.out.mono ?_
                         rintro e w5 ⟨v5, rfl, ho5, hb5⟩
                         have hA5 := ow_blk2 ho5
                         obtain ⟨A5, c5, rfl, hc5, hr5⟩ := ho5.form6 _ (bc_length _))
  try simp only at hA5 hc5 hr5
  have KN5 := Lib.hid ((KN4.out.below hb5).cons hr5)
  have BX5 := Lib.hid (BX4.out.go hb5)
  have HB5 := Lib.hid (HB4.out.trans (hb5.mono HB4.out.size))
  have hA5' : ∀ a, A5 = some a → a.block < w5.heap.size := fun a ha => by subst ha; exact hA5 _ rfl
  have K5 := Lib.hid (read_ex 11 [1, 104, 1, 98, 0] DX.M 0 DX.read1 A5 c5 w5 hr5 hc5 hA5' (by decide))
  clear KN4 BX4 HB4 K4 hb5 ho5 hr5 hA5 hA5' m0 m1 m2 m3 m4 m5
  go_upto_region 5 with (first
    | (go_at_call 17
       refine K5.out.mono ?_
       rintro e u5 ⟨x, hxm, hxr, rfl, hmo, hbu⟩
       obtain ⟨id5, fl5, qA5, qc5, qs5, aA5, ac5, ra5, bA5, bd5, rb5, cA5, cc5, rc5⟩ := x
       have HX5 := Lib.hid hxm
       clear hxm
       unfold MR.cells
       dsimp only))
  obtain ⟨y1, y2, y3⟩ := box_read KN5.out BX5.out hxr hmo hbu
  obtain ⟨g5, hg5⟩ : ∃ g, g = u5.heap.size := ⟨_, rfl⟩
  rw [← hg5] at y2
  rw [← hg5]
  change Knows (u5.alloc (.cells #[.int .u16 (id5 : Int), .int .u16 (fl5 : Int), .slice qA5 qs5.length qc5, .slice aA5 ra5.length ac5, .slice bA5 rb5.length bd5, .slice cA5 rc5.length cc5] 28)) _ at y1
  change Bxs (u5.alloc (.cells #[.int .u16 (id5 : Int), .int .u16 (fl5 : Int), .slice qA5 qs5.length qc5, .slice aA5 ra5.length ac5, .slice bA5 rb5.length bd5, .slice cA5 rc5.length cc5] 28)) _ at y2
  change Below _ _ (u5.alloc (.cells #[.int .u16 (id5 : Int), .int .u16 (fl5 : Int), .slice qA5 qs5.length qc5, .slice aA5 ra5.length ac5, .slice bA5 rb5.length bd5, .slice cA5 rc5.length cc5] 28)) at y3
  clear hg5 hxr hmo hbu
  generalize u5.alloc (.cells #[.int .u16 (id5 : Int), .int .u16 (fl5 : Int), .slice qA5 qs5.length qc5, .slice aA5 ra5.length ac5, .slice bA5 rb5.length bd5, .slice cA5 rc5.length cc5] 28) = w6 at *
  have KN6 := Lib.hid y1
  have BX6 := Lib.hid y2
  have HB6 := Lib.hid (HB5.out.trans (y3.mono HB5.out.size))
  clear y1 y2 y3
  clear KN5 BX5 HB5 K5
  have K7a := Lib.hid (reply_at 10 [1, 104, 192, 15] (by decide) w6)
  go_upto_region 6 with (first
    | (go_at_call 17
       refine (read_ex 10 [1, 104, 192, 15] DX.M 0 DX.read2 Ar cr v7 hrr hcr har (by decide)).mono ?_
       rintro e u7 ⟨x, hxm, hxr, rfl, hmo, hbu⟩
       obtain ⟨id7, fl7, qA7, qc7, qs7, aA7, ac7, ra7, bA7, bd7, rb7, cA7, cc7, rc7⟩ := x
       have HX7 := Lib.hid hxm
       clear hxm
       unfold MR.cells
       dsimp only)
    | (go_at_call 6
       refine K7a.out.mono ?_
       rintro e v7 ⟨Ar, cr, rfl, hcr, hrr, har, hbr⟩))
  have KNr := Lib.hid (KN6.out.below hbr)
  have BXr := Lib.hid (BX6.out.go hbr)
  have HBr := Lib.hid (HB6.out.trans (hbr.mono HB6.out.size))
  obtain ⟨y1, y2, y3⟩ := box_read KNr.out BXr.out hxr hmo hbu
  obtain ⟨g7, hg7⟩ : ∃ g, g = u7.heap.size := ⟨_, rfl⟩
  rw [← hg7] at y2
  rw [← hg7]
  change Knows (u7.alloc (.cells #[.int .u16 (id7 : Int), .int .u16 (fl7 : Int), .slice qA7 qs7.length qc7, .slice aA7 ra7.length ac7, .slice bA7 rb7.length bd7, .slice cA7 rc7.length cc7] 28)) _ at y1
  change Bxs (u7.alloc (.cells #[.int .u16 (id7 : Int), .int .u16 (fl7 : Int), .slice qA7 qs7.length qc7, .slice aA7 ra7.length ac7, .slice bA7 rb7.length bd7, .slice cA7 rc7.length cc7] 28)) _ at y2
  change Below _ _ (u7.alloc (.cells #[.int .u16 (id7 : Int), .int .u16 (fl7 : Int), .slice qA7 qs7.length qc7, .slice aA7 ra7.length ac7, .slice bA7 rb7.length bd7, .slice cA7 rc7.length cc7] 28)) at y3
  clear hg7 hxr hmo hbu
  generalize u7.alloc (.cells #[.int .u16 (id7 : Int), .int .u16 (fl7 : Int), .slice qA7 qs7.length qc7, .slice aA7 ra7.length ac7, .slice bA7 rb7.length bd7, .slice cA7 rc7.length cc7] 28) = w7 at *
  have KN7 := Lib.hid y1
  have BX7 := Lib.hid y2
  have HB7 := Lib.hid (HBr.out.trans (y3.mono HBr.out.size))
  clear y1 y2 y3
  clear KNr BXr HBr hbr hcr hrr har K7a KN6 BX6 HB6
  have K8a := Lib.hid (reply_at 12 [1, 104, 1, 98, 0] (by decide) w7)
  go_upto_region 7 with (first
    | (go_at_call 17
       refine (read_ex 12 [1, 104, 1, 98, 0] zM 171 DX.read3' Ar cr v8 hrr hcr har (by decide)).mono ?_
       rintro e u8 ⟨x, hxm, hxr, rfl, hmo, hbu⟩
       obtain ⟨id8, fl8, qA8, qc8, qs8, aA8, ac8, ra8, bA8, bd8, rb8, cA8, cc8, rc8⟩ := x
       have HX8 := Lib.hid hxm
       clear hxm
       unfold MR.cells
       dsimp only)
    | (go_at_call 6
       refine K8a.out.mono ?_
       rintro e v8 ⟨Ar, cr, rfl, hcr, hrr, har, hbr⟩))
  have KNr := Lib.hid (KN7.out.below hbr)
  have BXr := Lib.hid (BX7.out.go hbr)
  have HBr := Lib.hid (HB7.out.trans (hbr.mono HB7.out.size))
  obtain ⟨y1, y2, y3⟩ := box_read KNr.out BXr.out hxr hmo hbu
  obtain ⟨g8, hg8⟩ : ∃ g, g = u8.heap.size := ⟨_, rfl⟩
  rw [← hg8] at y2
  rw [← hg8]
  change Knows (u8.alloc (.cells #[.int .u16 (id8 : Int), .int .u16 (fl8 : Int), .slice qA8 qs8.length qc8, .slice aA8 ra8.length ac8, .slice bA8 rb8.length bd8, .slice cA8 rc8.length cc8] 28)) _ at y1
  change Bxs (u8.alloc (.cells #[.int .u16 (id8 : Int), .int .u16 (fl8 : Int), .slice qA8 qs8.length qc8, .slice aA8 ra8.length ac8, .slice bA8 rb8.length bd8, .slice cA8 rc8.length cc8] 28)) _ at y2
  change Below _ _ (u8.alloc (.cells #[.int .u16 (id8 : Int), .int .u16 (fl8 : Int), .slice qA8 qs8.length qc8, .slice aA8 ra8.length ac8, .slice bA8 rb8.length bd8, .slice cA8 rc8.length cc8] 28)) at y3
  clear hg8 hxr hmo hbu
  generalize u8.alloc (.cells #[.int .u16 (id8 : Int), .int .u16 (fl8 : Int), .slice qA8 qs8.length qc8, .slice aA8 ra8.length ac8, .slice bA8 rb8.length bd8, .slice cA8 rc8.length cc8] 28) = w8 at *
  have KN8 := Lib.hid y1
  have BX8 := Lib.hid y2
  have HB8 := Lib.hid (HBr.out.trans (y3.mono HBr.out.size))
  clear y1 y2 y3
  clear KNr BXr HBr hbr hcr hrr har K8a KN7 BX7 HB7
  have K9a := Lib.hid (reply_at 10 [1, 104, 1, 98, 0] (by decide) w8)
  go_upto_region 8 with (first
    | (go_at_call 17
       refine (read_ex 10 [1, 104, 1, 98, 0] zM 172 DX.read4' Ar cr v9 hrr hcr har (by decide)).mono ?_
       rintro e u9 ⟨x, hxm, hxr, rfl, hmo, hbu⟩
       obtain ⟨id9, fl9, qA9, qc9, qs9, aA9, ac9, ra9, bA9, bd9, rb9, cA9, cc9, rc9⟩ := x
       have HX9 := Lib.hid hxm
       clear hxm
       unfold MR.cells
       dsimp only)
    | (go_at_call 6
       refine K9a.out.mono ?_
       rintro e v9 ⟨Ar, cr, rfl, hcr, hrr, har, hbr⟩))
  have KNr := Lib.hid (KN8.out.below hbr)
  have BXr := Lib.hid (BX8.out.go hbr)
  have HBr := Lib.hid (HB8.out.trans (hbr.mono HB8.out.size))
  obtain ⟨y1, y2, y3⟩ := box_read KNr.out BXr.out hxr hmo hbu
  obtain ⟨g9, hg9⟩ : ∃ g, g = u9.heap.size := ⟨_, rfl⟩
  rw [← hg9] at y2
  rw [← hg9]
  change Knows (u9.alloc (.cells #[.int .u16 (id9 : Int), .int .u16 (fl9 : Int), .slice qA9 qs9.length qc9, .slice aA9 ra9.length ac9, .slice bA9 rb9.length bd9, .slice cA9 rc9.length cc9] 28)) _ at y1
  change Bxs (u9.alloc (.cells #[.int .u16 (id9 : Int), .int .u16 (fl9 : Int), .slice qA9 qs9.length qc9, .slice aA9 ra9.length ac9, .slice bA9 rb9.length bd9, .slice cA9 rc9.length cc9] 28)) _ at y2
  change Below _ _ (u9.alloc (.cells #[.int .u16 (id9 : Int), .int .u16 (fl9 : Int), .slice qA9 qs9.length qc9, .slice aA9 ra9.length ac9, .slice bA9 rb9.length bd9, .slice cA9 rc9.length cc9] 28)) at y3
  clear hg9 hxr hmo hbu
  generalize u9.alloc (.cells #[.int .u16 (id9 : Int), .int .u16 (fl9 : Int), .slice qA9 qs9.length qc9, .slice aA9 ra9.length ac9, .slice bA9 rb9.length bd9, .slice cA9 rc9.length cc9] 28) = w9 at *
  have KN9 := Lib.hid y1
  have BX9 := Lib.hid y2
  have HB9 := Lib.hid (HBr.out.trans (y3.mono HBr.out.size))
  clear y1 y2 y3
  clear KNr BXr HBr hbr hcr hrr har K9a KN8 BX8 HB8
  have kq := beq_any A4 A1 c4 c1 DX.qB DX.qB w9 w9.heap.size (KN9.out.get (.tail _ (.head _))) (KN9.out.get (.tail _ (.tail _ (.head _))))
  rw [show decide (DX.qB = DX.qB) = true by decide] at kq
  have kr := reply_at 11 [1, 104, 1, 98, 0] (by decide) w9
  have ke := fun (W : World) (Ar cr) (h1 : Below w9.heap.size w9 W) (h2 : Rd W W.heap.size Ar (DX.rep 11 [1, 104, 1, 98, 0]).length (bc (DX.rep 11 [1, 104, 1, 98, 0]))) => beq_any A5 Ar c5 cr (DX.rep 11 [1, 104, 1, 98, 0]) (DX.rep 11 [1, 104, 1, 98, 0]) W W.heap.size (((KN9.out.below h1)).get (.head _)) h2
  rw [show decide (DX.rep 11 [1, 104, 1, 98, 0] = DX.rep 11 [1, 104, 1, 98, 0]) = true by decide] at ke
  have ks5 := fun (W : World) (h1 : Below w9.heap.size w9 W) => (sameM_at (⟨id5, fl5, qA5, qc5, qs5, aA5, ac5, ra5, bA5, bd5, rb5, cA5, cc5, rc5⟩ : MR) (⟨id2, fl2, qA2, qc2, qs2, aA2, ac2, ra2, bA2, bd2, rb2, cA2, cc2, rc2⟩ : MR) W ((BX9.out.go h1) _ (.tail _ (.tail _ (.tail _ (.head _))))).2 ((BX9.out.go h1) _ (.tail _ (.tail _ (.tail _ (.tail _ (.head _)))))).2)
  rw [HX5.out, HX2.out, DX.same1] at ks5
  have ks7 := fun (W : World) (h1 : Below w9.heap.size w9 W) => (sameM_at (⟨id7, fl7, qA7, qc7, qs7, aA7, ac7, ra7, bA7, bd7, rb7, cA7, cc7, rc7⟩ : MR) (⟨id2, fl2, qA2, qc2, qs2, aA2, ac2, ra2, bA2, bd2, rb2, cA2, cc2, rc2⟩ : MR) W ((BX9.out.go h1) _ (.tail _ (.tail _ (.head _)))).2 ((BX9.out.go h1) _ (.tail _ (.tail _ (.tail _ (.tail _ (.head _)))))).2)
  rw [HX7.out, HX2.out, DX.same1] at ks7
  have hsm : ∀ r ∈ ((⟨id2, fl2, qA2, qc2, qs2, aA2, ac2, ra2, bA2, bd2, rb2, cA2, cc2, rc2⟩ : MR)).r0, r.r.q.nm.length * 16 ≤ 140737488355328 ∧ r.r.tg.length * 16 ≤ 140737488355328 := by
    intro r hr
    have h1 : r.r ∈ ((⟨id2, fl2, qA2, qc2, qs2, aA2, ac2, ra2, bA2, bd2, rb2, cA2, cc2, rc2⟩ : MR)).m.r0 := List.mem_map.2 ⟨r, hr, rfl⟩
    rw [HX2.out] at h1
    rw [List.mem_singleton.1 h1]
    decide
  have ka := fun (W : World) (h1 : Below w9.heap.size w9 W) => answers_at (⟨id2, fl2, qA2, qc2, qs2, aA2, ac2, ra2, bA2, bd2, rb2, cA2, cc2, rc2⟩ : MR) (some ⟨W.heap.size, 0, none⟩) 2 DX.nm 33 (W.alloc (.cells (sc DX.nm).toArray 9)) ((BX9.out.go (h1.trans ((below_new W (.cells (sc DX.nm).toArray 9)).mono h1.size))) _ (.tail _ (.tail _ (.tail _ (.tail _ (.head _)))))).2 ⟨Rd.lit_top0 W _ (sc DX.nm) 2 rfl, Nat.le_refl _, DX.nm_small⟩ (by decide) hsm
  rw [HX2.out, DX.ans1] at ka
  have KQ := Lib.hid kq
  have KR := Lib.hid kr
  have KE := Lib.hid ke
  have KS5 := Lib.hid ks5
  have KS7 := Lib.hid ks7
  have KA := Lib.hid ka
  clear kq kr ke ks5 ks7 ka hsm
  have hlen : ((DX.rep 11 [1, 104, 1, 98, 0]).length : Int) = 45 := by decide
  have C5 := Lib.hid (fun (W : World) (h1 : Below w9.heap.size w9 W) => ((BX9.out.go h1) _ (.tail _ (.tail _ (.tail _ (.head _))))).1.c6)
  have C2 := Lib.hid (fun (W : World) (h1 : Below w9.heap.size w9 W) => ((BX9.out.go h1) _ (.tail _ (.tail _ (.tail _ (.tail _ (.head _)))))).1.c6)
  have C7 := Lib.hid (fun (W : World) (h1 : Below w9.heap.size w9 W) => ((BX9.out.go h1) _ (.tail _ (.tail _ (.head _)))).1.c6)
  go_wp2_with (first
    | (go_at_call 26
       refine (KA.out v12 hb12).mono ?_
       rintro e v13 ⟨la, Aa, ca, rfl, hla, _, _, hb13⟩
       have hla1 : (la.length : Int) = 1 := by
         have := congrArg List.length hla
         simp at this
         omega
       have hb913 : Below w9.heap.size w9 v13 := (hb12.trans ((below_new v12 (.cells (sc DX.nm).toArray 9)).mono hb12.size)).trans (hb13.mono (by have := hb12.size; simp; omega)))
    | (go_at_call 25
       refine (KS7.out v11 hb11).mono ?_
       rintro e v12 ⟨rfl, hbs⟩
       have hb12 : Below w9.heap.size w9 v12 := hb11.trans (hbs.mono hb11.size)
       obtain ⟨r0, r1, r2, r3, r4, r5⟩ := C2.out v12 hb12)
    | (go_at_call 25
       refine (KS5.out v10 hb10).mono ?_
       rintro e v11 ⟨rfl, hbs⟩
       have hb11 : Below w9.heap.size w9 v11 := hb10.trans (hbs.mono hb10.size)
       obtain ⟨s0, s1, s2, s3, s4, s5⟩ := C7.out v11 hb11
       obtain ⟨r0, r1, r2, r3, r4, r5⟩ := C2.out v11 hb11)
    | (go_at_call 22
       refine (KE.out v10 Ae ce hb10 hre).mono ?_
       rintro e v10 ⟨rfl, rfl⟩)
    | (go_at_call 22
       refine KQ.out.mono ?_
       rintro e w9 ⟨rfl, rfl⟩)
    | (go_at_call 6
       refine KR.out.mono ?_
       rintro e v10 ⟨Ae, ce, rfl, hce, hre, _, hb10⟩
       obtain ⟨p0, p1, p2, p3, p4, p5⟩ := C5.out v10 hb10
       obtain ⟨q0, q1, q2, q3, q4, q5⟩ := C2.out v10 hb10))
  go_ret
  exact ⟨rfl, HB9.out.trans (hb913.mono HB9.out.size)⟩
open Go.RowKit
set_option maxRecDepth 100000 in
set_option maxHeartbeats 1000000 in
/-- Read, whatever the bytes are -/
theorem readE_at (A : Option Addr) (c : Nat) (b : List UInt8) (m : Ms) (er : Nat) (hm : readM b = (m, er)) (w : World) (h : Rd w w.heap.size A b.length (bc b)) (hc : b.length ≤ c) (hbl : b.length ≤ 140737488355328) :
    Calls Try.prog 17 #[.slice A b.length c] w fun e w' => ∃ x : MR, x.m = m ∧ e = .returned (.tuple #[.agg x.cells.toArray, .int .i64 (er : Int)]) ∧ MRd w' w'.heap.size x ∧ Below w.heap.size w w' := by
  have hz : (readM b).1 = m := by rw [hm]
  have hz2 : (readM b).2 = er := by rw [hm]
  rw [← hz, ← hz2]
  by_cases h2 : b.length < 12
  · have hr1 : readM b = (zM, 171) := by unfold readM; rw [if_neg (by omega), if_pos h2]
    rw [hr1]
    have h1' : (b.length : Int) ≤ 4096 := by omega
    have h2' : (b.length : Int) < 12 := by omega
    have hV1 : Vx (w.alloc (.cells #[.int .u16 0, .int .u16 0, .slice none 0 0, .slice none 0 0, .slice none 0 0, .slice none 0 0] 28)) w.heap.size 28 zM6 := Vx.new w _ _
    have hb1 := below_new w (.cells #[.int .u16 0, .int .u16 0, .slice none 0 0, .slice none 0 0, .slice none 0 0, .slice none 0 0] 28)
    clear hm hz hz2 hr1 h
    go_enter Try.func17, Try.ntmps17
    go_wp2_with (refine wpList_store_row rfl 28 _ _ rfl w.heap.size _ rfl rfl _ _ hV1 (by kernel_rfl) rfl (by kernel_rfl) ?_)
    refine bodyPost_ret (resM Try.results17 _ _ w.heap.size _ _ _ rfl rfl (hV1.row zM6) rfl) rfl ?_
    exact ⟨zMR, rfl, rfl, (zMR_ow _ 0).rd rfl okM_z (by simp [Ms.num, zMR, MR.m]), hb1.trans ((Only.row _ _ _).below (Nat.le_refl _) (by simp))⟩
  · refine (readD_at A c b w h hc (fun a ha => ?_) hbl).mono ?_
    · obtain ⟨bb, o, e, hb, _⟩ := h.2 (by omega)
      rw [e] at ha
      cases ha
      exact hb
    · rintro e w' ⟨x, h1, h2, h3, h4⟩
      exact ⟨x, h1, h2, read_mrd h3 h1, h4⟩
theorem readO_at (A : Option Addr) (c : Nat) (b : List UInt8) (m : Ms) (er : Nat) (hm : readM b = (m, er)) (w : World) (h : Rd w w.heap.size A b.length (bc b)) (hc : b.length ≤ c) (hA : ∀ a, A = some a → a.block < w.heap.size) (hbl : b.length ≤ 140737488355328) :
    Calls Try.prog 17 #[.slice A b.length c] w fun e w' => ∃ x : MR, x.m = m ∧ e = .returned (.tuple #[.agg x.cells.toArray, .int .i64 (er : Int)]) ∧ MOw w' w.heap.size x ∧ MRd w' w'.heap.size x ∧ Below w.heap.size w w' := by
  have := readD_at A c b w h hc hA hbl
  rw [hm] at this
  refine this.mono ?_
  rintro e w' ⟨x, h1, h2, h3, h4⟩
  exact ⟨x, h1, h2, h3, read_mrd h3 (by rw [hm]; exact h1), h4⟩
theorem below_chain {w a b : World} {o : Obj} (h : Below w.heap.size w a) (k : Below (a.alloc o).heap.size (a.alloc o) b) : Below w.heap.size w b := by
  have h1 := h.trans ((below_new a o).mono h.size)
  exact h1.trans (k.mono h1.size)
theorem zmrd (w : World) : MRd w w.heap.size zMR := (zMR_ow w 0).rd rfl okM_z (by simp [Ms.num, zMR, MR.m])
end Go.Proofs.Ytlipmlbijddopaa
set_option linter.unusedVariables false
set_option linter.unusedSimpArgs false
namespace Go.Proofs.Ytlipmlbijddopaa
open Go.RowKit
/-- the way of a reading from p on lies behind the head -/
inductive Sf (b : List UInt8) : Nat → Prop
  | stop (p : Nat) (h : 12 ≤ p) (hp : p < b.length) (h0 : (b.getD p 0).toNat = 0) : Sf b p
  | lab (p : Nat) (h : 12 ≤ p) (hp : p < b.length) (h0 : (b.getD p 0).toNat ≠ 0) (h1 : (b.getD p 0).toNat < 64) (k : Sf b (p + (1 + (b.getD p 0).toNat))) : Sf b p
  | ptr (p : Nat) (h : 12 ≤ p) (hp : p + 1 < b.length) (h0 : 192 ≤ (b.getD p 0).toNat) (k : Sf b (((b.getD p 0).toNat - 192) * 256 + (b.getD (p + 1) 0).toNat)) : Sf b p
theorem Sf.lo {b : List UInt8} {p : Nat} (h : Sf b p) : 12 ≤ p := by cases h <;> assumption
theorem getD_app {b t : List UInt8} {p : Nat} (h : p < b.length) : (b ++ t).getD p 0 = b.getD p 0 := by
  rw [List.getD_eq_getElem?_getD, List.getD_eq_getElem?_getD, List.getElem?_append_left h]
theorem Sf.app {b : List UInt8} {p : Nat} (h : Sf b p) (t : List UInt8) : Sf (b ++ t) p := by
  induction h with
  | stop p h hp h0 => exact .stop p h (by simp; omega) (by rw [getD_app hp]; exact h0)
  | lab p h hp h0 h1 _ ih => exact .lab p h (by simp; omega) (by rw [getD_app hp]; exact h0) (by rw [getD_app hp]; exact h1) (by rw [getD_app hp]; exact ih)
  | ptr p h hp h0 _ ih => exact .ptr p h (by simp; omega) (by rw [getD_app (by omega)]; exact h0) (by rw [getD_app (by omega), getD_app hp]; exact ih)
/-- the same bytes behind the head -/
def Ag (b c : List UInt8) : Prop := b.length = c.length ∧ ∀ p, 12 ≤ p → b.getD p 0 = c.getD p 0
theorem Ag.app {b c : List UInt8} (h : Ag b c) (t : List UInt8) : Ag (b ++ t) (c ++ t) := by
  refine ⟨by simp [h.1], fun p hp => ?_⟩
  rcases Nat.lt_or_ge p b.length with h1 | h1
  · rw [getD_app h1, getD_app (by rw [← h.1]; exact h1)]; exact h.2 p hp
  · rw [List.getD_eq_getElem?_getD, List.getD_eq_getElem?_getD, List.getElem?_append_right h1, List.getElem?_append_right (by rw [← h.1]; exact h1), h.1]
theorem Ag.piece {b c : List UInt8} (h : Ag b c) (p k : Nat) (hp : 12 ≤ p) : (b.drop p).take k = (c.drop p).take k := by
  apply List.ext_getElem?
  intro i
  rw [List.getElem?_take, List.getElem?_take]
  split
  · rw [List.getElem?_drop, List.getElem?_drop]
    have := h.2 (p + i) (by omega)
    rcases Nat.lt_or_ge (p + i) b.length with h1 | h1
    · rw [List.getD_eq_getElem?_getD, List.getD_eq_getElem?_getD, List.getElem?_eq_getElem h1, List.getElem?_eq_getElem (by rw [← h.1]; exact h1)] at this
      rw [List.getElem?_eq_getElem h1, List.getElem?_eq_getElem (by rw [← h.1]; exact h1)]
      simpa using this
    · rw [List.getElem?_eq_none h1, List.getElem?_eq_none (by rw [← h.1]; exact h1)]
  · rfl
theorem Sf.rd {b c : List UInt8} {p : Nat} (h : Sf b p) (ha : Ag b c) : ∀ (f bg en nx sz : Nat) (out : List (List UInt8)), Proofs.Ytlipmlbijddopaa.rd b f bg en p nx sz out = Proofs.Ytlipmlbijddopaa.rd c f bg en p nx sz out := by
  induction h with
  | stop p h hp h0 =>
    intro f bg en nx sz out
    cases f with
    | zero => rfl
    | succ f =>
      have e := ha.2 p h
      rw [Proofs.Ytlipmlbijddopaa.rd, Proofs.Ytlipmlbijddopaa.rd, ← e, if_pos h0, if_pos h0]
  | lab p h hp h0 h1 _ ih =>
    intro f bg en nx sz out
    cases f with
    | zero => rfl
    | succ f =>
      have e := ha.2 p h
      have e2 := ha.piece (p + 1) (b.getD p 0).toNat (by omega)
      rw [Proofs.Ytlipmlbijddopaa.rd, Proofs.Ytlipmlbijddopaa.rd, ← e, if_neg h0, if_neg h0, if_pos h1, if_pos h1, ih, e2]
  | ptr p h hp h0 _ ih =>
    intro f bg en nx sz out
    cases f with
    | zero => rfl
    | succ f =>
      have e := ha.2 p h
      have e2 := ha.2 (p + 1) (by omega)
      rw [Proofs.Ytlipmlbijddopaa.rd, Proofs.Ytlipmlbijddopaa.rd, ← e, ← e2]
      rw [if_neg (show ¬ (b.getD p 0).toNat = 0 by omega), if_neg (show ¬ (b.getD p 0).toNat < 64 by omega), if_neg (show ¬ (b.getD p 0).toNat < 192 by omega), ih]
      rw [if_neg (show ¬ (b.getD p 0).toNat = 0 by omega), if_neg (show ¬ (b.getD p 0).toNat < 64 by omega), if_neg (show ¬ (b.getD p 0).toNat < 192 by omega)]
theorem Sf.read {b c : List UInt8} {p : Nat} (h : Sf b p) (ha : Ag b c) : readN b p = readN c p := by
  unfold readN rdM
  rw [← ha.1, h.rd ha]
theorem chain_ag {b c : List UInt8} (ha : Ag b c) : ∀ (f p : Nat), 12 ≤ p → chain b f p = chain c f p := by
  intro f
  induction f with
  | zero => intro p _; rfl
  | succ f ih =>
    intro p hp
    have e := ha.2 p hp
    have e2 := ha.2 (p + (1 + (b.getD p 0).toNat)) (by omega)
    rw [chain, chain, ← e, e2, ih _ (by omega)]
theorem chain_sf {b : List UInt8} : ∀ (f p : Nat), Sf b p → ∀ x ∈ chain b f p, ∃ q : Nat, x = (q : Int) ∧ Sf b q := by
  intro f
  induction f with
  | zero => intro p _ x hx; cases hx
  | succ f ih =>
    intro p h x hx
    rw [chain] at hx
    split at hx
    · rename_i hc
      have hs : Sf b (p + (1 + (b.getD p 0).toNat)) := by
        cases h with
        | stop _ _ _ h0 => omega
        | lab _ _ _ _ _ k => exact k
        | ptr _ _ _ h0 _ => omega
      rcases List.mem_append.1 hx with hx | hx
      · split at hx
        · rw [List.mem_singleton.1 hx]; exact ⟨_, rfl, hs⟩
        · cases hx
      · exact ih _ hs x hx
    · cases hx
/-- all known places lie behind the head -/
def Kn (b : List UInt8) (known : List Int) : Prop := ∀ x ∈ known, ∃ q : Nat, x = (q : Int) ∧ Sf b q
theorem Kn.app {b : List UInt8} {known : List Int} (h : Kn b known) (t : List UInt8) : Kn (b ++ t) known := fun x hx => by
  obtain ⟨q, h1, h2⟩ := h x hx
  exact ⟨q, h1, h2.app t⟩
theorem Kn.places {b : List UInt8} {known : List Int} (h : Kn b known) : ∀ x ∈ placesN b known, ∃ q : Nat, x = (q : Int) ∧ Sf b q := by
  intro x hx
  unfold placesN placesU at hx
  rw [List.mem_mergeSort, List.mem_flatMap] at hx
  obtain ⟨y, hy, hx⟩ := hx
  obtain ⟨q, rfl, hs⟩ := h y hy
  unfold place1 at hx
  split at hx
  · rcases List.mem_cons.1 hx with rfl | hx
    · exact ⟨q, rfl, hs⟩
    · exact chain_sf _ _ (by simpa using hs) x hx
  · cases hx
theorem places_ag {b c : List UInt8} {known : List Int} (ha : Ag b c) (h : Kn b known) : placesN b known = placesN c known := by
  have : placesU b known = placesU c known := by
    unfold placesU
    have : ∀ (l : List Int), (∀ x ∈ l, x ∈ known) → l.flatMap (place1 b) = l.flatMap (place1 c) := by
      intro l
      induction l with
      | nil => intro _; rfl
      | cons y l ih =>
        intro hl
        rw [List.flatMap_cons, List.flatMap_cons, ih (fun x hx => hl x (by simp [hx]))]
        obtain ⟨q, rfl, hs⟩ := h y (hl y (by simp))
        congr 1
        unfold place1
        rw [← ha.1]
        simp only [Int.toNat_natCast]
        rw [← hs.read ha, chain_ag ha _ _ hs.lo]
    exact this known (fun _ h => h)
  unfold placesN
  rw [this]
theorem find_ag {b c : List UInt8} (ha : Ag b c) (s : List (List UInt8)) : ∀ (l : List Int), (∀ x ∈ l, ∃ q : Nat, x = (q : Int) ∧ Sf b q) → l.find? (hit b s) = l.find? (hit c s) := by
  intro l
  induction l with
  | nil => intro _; rfl
  | cons y l ih =>
    intro h
    obtain ⟨q, rfl, hs⟩ := h y (by simp)
    have e : hit b s (q : Int) = hit c s (q : Int) := by
      have e := hs.read ha
      unfold hit
      simp only [Int.toNat_natCast, e]
    rw [List.find?_cons, List.find?_cons, e, ih (fun x hx => h x (by simp [hx]))]
theorem sf_labs (b t : List UInt8) : ∀ (n : List (List UInt8)) (p : Nat), n.all okL = true → 12 ≤ p → b.drop p = labS n ++ t → Sf b (p + (labS n).length) → Sf b p := by
  intro n
  induction n with
  | nil => intro p _ _ _ h; simpa [labS] using h
  | cons l n ih =>
    intro p hn hp hd hs
    rw [List.all_cons, Bool.and_eq_true] at hn
    obtain ⟨h1, h2, _⟩ := okL_spec hn.1
    rw [labS_cons, List.cons_append] at hd
    obtain ⟨d1, d2, d3⟩ := drop_cons hd
    have hb : (b.getD p 0).toNat = l.length := by rw [d2]; simp; omega
    refine .lab p hp d1 (by omega) (by omega) ?_
    rw [hb]
    refine ih _ hn.2 (by omega) ?_ ?_
    · have : b.drop (p + (1 + l.length)) = (b.drop (p + 1)).drop l.length := by rw [List.drop_drop]; congr 1; omega
      rw [this, d3, List.append_assoc, List.drop_left]
    · rw [labS_cons, List.length_cons, List.length_append] at hs
      have e : p + (1 + l.length) + (labS n).length = p + (l.length + (labS n).length + 1) := by omega
      rw [e]; exact hs
theorem ok_take {n : List (List UInt8)} (h : n.all okL = true) (i : Nat) : (n.take i).all okL = true := by
  rw [List.all_eq_true] at h ⊢
  exact fun x hx => h x (List.mem_of_mem_take hx)
theorem sf_full (b : List UInt8) (n : List (List UInt8)) (hn : n.all okL = true) (hb : 12 ≤ b.length) : Sf (b ++ labS n ++ [0]) b.length := by
  refine sf_labs _ [0] n _ hn hb ?_ (.stop _ (by omega) (by simp) ?_)
  · rw [List.append_assoc, List.drop_left]
  · rw [List.getD_eq_getElem?_getD, List.getElem?_append_right (by simp)]
    simp
theorem sf_ptr (b : List UInt8) (n : List (List UInt8)) (a : Nat) (hn : n.all okL = true) (hb : 12 ≤ b.length) (ha : a < 16384) (hs : Sf b a) : Sf (b ++ labS n ++ ptr (a : Int)) b.length := by
  have hl : (b ++ labS n).length = b.length + (labS n).length := by simp
  have g0 : (b ++ labS n ++ ptr (a : Int)).getD (b.length + (labS n).length) 0 = UInt8.ofNat (192 + a / 256) := by
    rw [List.getD_eq_getElem?_getD, List.getElem?_append_right (by omega), hl]
    simp [ptr]
  have g1 : (b ++ labS n ++ ptr (a : Int)).getD (b.length + (labS n).length + 1) 0 = UInt8.ofNat a := by
    rw [List.getD_eq_getElem?_getD, List.getElem?_append_right (by omega), hl]
    simp [ptr, show b.length + (labS n).length + 1 - (b.length + (labS n).length) = 1 by omega]
  have t0 : (UInt8.ofNat (192 + a / 256)).toNat = 192 + a / 256 := by simp; omega
  have t1 : (UInt8.ofNat a).toNat = a % 256 := by simp
  refine sf_labs _ (ptr (a : Int)) n _ hn hb ?_ (.ptr _ (by omega) (by simp [ptr]; omega) ?_ ?_)
  · rw [List.append_assoc, List.drop_left]
  · rw [g0, t0]; omega
  · rw [g0, g1, t0, t1, show (192 + a / 256 - 192) * 256 + a % 256 = a by omega]
    exact (hs.app _).app _
/-- a name is appended in the same way -/
theorem appGo_ag {b c : List UInt8} (ha : Ag b c) (all : List Int) (hk : ∀ x ∈ all, ∃ q : Nat, x = (q : Int) ∧ Sf b q) (n : List (List UInt8)) (hn : n.all okL = true) (hb : 12 ≤ b.length) :
    ∀ (f i : Nat), ∃ u, appGo b all n f i = b ++ u ∧ appGo c all n f i = c ++ u ∧ Sf (b ++ u) b.length := by
  intro f
  induction f with
  | zero => intro i; exact ⟨labS n ++ [0], by simp [appGo], by simp [appGo], by have := sf_full b n hn hb; rwa [List.append_assoc] at this⟩
  | succ f ih =>
    intro i
    rw [appGo, appGo, ← find_ag ha _ all hk]
    cases hf : all.find? (hit b (n.drop i)) with
    | none => exact ih (i + 1)
    | some x =>
      obtain ⟨a, rfl, hs⟩ := hk x (List.mem_of_find?_eq_some hf)
      have hh := List.find?_some hf
      unfold hit at hh
      simp only [Bool.and_eq_true, decide_eq_true_eq] at hh
      have := sf_ptr b (n.take i) a (ok_take hn i) hb (by omega) hs
      rw [List.append_assoc] at this
      exact ⟨labS (n.take i) ++ ptr (a : Int), by simp, by simp, this⟩
theorem app_ag {b c : List UInt8} {known : List Int} (ha : Ag b c) (hk : Kn b known) (n : List (List UInt8)) (hn : n.all okL = true) (hb : 12 ≤ b.length) :
    ∃ u, appN b known n = b ++ u ∧ appN c known n = c ++ u ∧ Sf (b ++ u) b.length := by
  unfold appN
  rw [← places_ag ha hk]
  exact appGo_ag ha _ hk.places n hn hb _ _
/-- two states of writing that differ in the head alone -/
structure Tw (s t : Wr) : Prop where
  ag : Ag s.1 t.1
  eq : s.2 = t.2
  kn : Kn s.1 s.2
  lo : 12 ≤ s.1.length
theorem Tw.ask {s t : Wr} (h : Tw s t) (q : Qn) (hq : rightN q.nm = true) : Tw (askB s q) (askB t q) ∧ ∃ u, (askB s q).1 = s.1 ++ u ∧ (askB t q).1 = t.1 ++ u := by
  obtain ⟨u, e1, e2, hs⟩ := app_ag h.ag h.kn q.nm (rightN_spec hq).1 h.lo
  have e2' : appN t.1 t.2 q.nm = t.1 ++ u := by rw [← h.eq]; exact e2
  have f1 : (askB s q).1 = s.1 ++ (u ++ two q.ty ++ two q.cl) := by simp [askB, e1]
  have f2 : (askB t q).1 = t.1 ++ (u ++ two q.ty ++ two q.cl) := by simp [askB, e2']
  refine ⟨⟨?_, ?_, ?_, ?_⟩, _, f1, f2⟩
  · rw [f1, f2]; exact h.ag.app _
  · show s.2 ++ [(s.1.length : Int)] = t.2 ++ [(t.1.length : Int)]
    rw [h.eq, h.ag.1]
  · rw [f1]
    intro x hx
    rcases List.mem_append.1 (show x ∈ s.2 ++ [(s.1.length : Int)] from hx) with hx | hx
    · exact (h.kn.app _) x hx
    · rw [List.mem_singleton.1 hx]
      refine ⟨_, rfl, ?_⟩
      rw [List.append_assoc, ← List.append_assoc]
      exact hs.app _
  · rw [f1]; have := h.lo; simp; omega
theorem Tw.rcd {s t : Wr} (h : Tw s t) (r : Rc) (hr : rightR r = true) : Tw (recB s r) (recB t r) ∧ ∃ u, (recB s r).1 = s.1 ++ u ∧ (recB t r).1 = t.1 ++ u := by
  obtain ⟨h1, u, e1, e2⟩ := h.ask r.q (rightR_nm hr)
  have f1 : (recB s r).1 = (askB s r.q).1 ++ (twos [r.ttl / 65536, r.ttl % 65536, (dataR r).length] ++ dataR r) := by simp [recB]
  have f2 : (recB t r).1 = (askB t r.q).1 ++ (twos [r.ttl / 65536, r.ttl % 65536, (dataR r).length] ++ dataR r) := by simp [recB]
  refine ⟨⟨?_, h1.eq, ?_, ?_⟩, u ++ (twos [r.ttl / 65536, r.ttl % 65536, (dataR r).length] ++ dataR r), by rw [f1, e1, List.append_assoc], by rw [f2, e2, List.append_assoc]⟩
  · rw [f1, f2]; exact h1.ag.app _
  · rw [f1]; exact h1.kn.app _
  · rw [f1]; have := h1.lo; simp; omega
theorem Tw.qs {l : List Qn} : ∀ {s t : Wr}, Tw s t → (∀ q ∈ l, rightN q.nm = true) → Tw (qsB s l) (qsB t l) := by
  induction l with
  | nil => intro s t h _; exact h
  | cons a l ih => intro s t h hq; exact ih (h.ask a (hq a (by simp))).1 (fun q h => hq q (by simp [h]))
theorem Tw.rs {l : List Rc} : ∀ {s t : Wr}, Tw s t → (∀ r ∈ l, rightR r = true) → Tw (rsB s l) (rsB t l) := by
  induction l with
  | nil => intro s t h _; exact h
  | cons a l ih => intro s t h hq; exact ih (h.rcd a (hq a (by simp))).1 (fun q h => hq q (by simp [h]))
theorem ag_head {b c : List UInt8} (hb : b.length = 12) (hc : c.length = 12) : Ag b c := by
  refine ⟨by omega, fun p hp => ?_⟩
  rw [List.getD_eq_getElem?_getD, List.getD_eq_getElem?_getD, List.getElem?_eq_none (by omega), List.getElem?_eq_none (by omega)]
/-- a record more at the end -/
theorem lists_form (m : Ms) (r : Rc) (hm : rightM m = true) (hr : rightR r = true) :
    (formM m).length + 11 ≤ (formM { m with r2 := m.r2 ++ [r] }).length ∧ (formM { m with r2 := m.r2 ++ [r] }).take 10 = (formM m).take 10 ∧
    ((formM { m with r2 := m.r2 ++ [r] }).drop 12).take ((formM m).length - 12) = (formM m).drop 12 := by
  obtain ⟨a0, a1, a2, a3⟩ := rightM_q hm
  have hR : rightM { m with r2 := m.r2 ++ [r] } = true := by
    simp [rightM] at hm ⊢
    exact ⟨hm.1, hm.2.1, hm.2.2.1, hm.2.2.2, hr⟩
  have t0 : Tw (headB m, []) (headB { m with r2 := m.r2 ++ [r] }, []) := ⟨ag_head (headB_length _) (headB_length _), rfl, fun _ h => (by cases h), by simp [headB_length]⟩
  have t3 := (((t0.qs a0).rs a1).rs a2).rs a3
  obtain ⟨_, u, e1, e2⟩ := t3.rcd r hr
  have eO : formM { m with r2 := m.r2 ++ [r] } = (recB (rsB (rsB (rsB (qsB (headB { m with r2 := m.r2 ++ [r] }, []) m.qs) m.r0) m.r1) m.r2) r).1 := by
    show (rsB (rsB (rsB (qsB (headB { m with r2 := m.r2 ++ [r] }, []) m.qs) m.r0) m.r1) (m.r2 ++ [r])).1 = _
    unfold rsB
    rw [List.foldl_append]; rfl
  have eM : formM m = (rsB (rsB (rsB (qsB (headB m, []) m.qs) m.r0) m.r1) m.r2).1 := rfl
  have hlen := t3.ag.1
  rw [← eM] at hlen
  have hu : 11 ≤ u.length := by
    have h1 := (app_reads (rsB (rsB (rsB (qsB (headB m, []) m.qs) m.r0) m.r1) m.r2).1 (rsB (rsB (rsB (qsB (headB m, []) m.qs) m.r0) m.r1) m.r2).2 r.q.nm (rightR_nm hr)).2.1
    have h2 := congrArg List.length e1
    simp only [recB, askB, List.length_append, twos_length, two_length] at h2
    simp at h2
    omega
  rw [eO, e2]
  obtain ⟨T1, hT1⟩ := head_pre hm
  obtain ⟨T2, hT2⟩ := head_pre hR
  have hF : (rsB (rsB (rsB (qsB (headB { m with r2 := m.r2 ++ [r] }, []) m.qs) m.r0) m.r1) m.r2).1.length = (formM m).length := hlen.symm
  have hge := (head_pre hm).len
  rw [headB_length] at hge
  refine ⟨by rw [List.length_append, hF]; omega, ?_, ?_⟩
  · rw [← e2, ← eO, hT2, hT1, List.take_append_of_le_length (by rw [headB_length]; omega), List.take_append_of_le_length (by rw [headB_length]; omega)]
    simp [headB, twos, two]
  · rw [List.drop_append_of_le_length (by omega), List.take_append_of_le_length (by rw [List.length_drop]; omega)]
    have h := t3.ag.piece 12 ((formM m).length - 12) (Nat.le_refl _)
    rw [← eM] at h
    rw [← h, List.take_of_length_le (by rw [List.length_drop]; exact Nat.le_refl _)]
theorem okS_map {w : World} {B : Nat} {l : List SmR} (h : ∀ x ∈ l, SRd w B x) : ∀ s ∈ l.map SmR.s, okS s := by
  intro s hs
  obtain ⟨x, hx, rfl⟩ := List.mem_map.1 hs
  exact (h x hx).2.2.2
theorem run_sl_hm {P : Program} (W : World) (t e : TypeId) (s : Nat) (ht : P.underlying t = some (.slice e)) (hz : ∀ w, (Go.sizeOf e).run P w = .ok s w) (A : Option Addr) (n cap : Nat) (h : Nat) (h2 : h ≤ cap) : (Instr.slice t (.slice A n cap) none (some (.int .i64 (h : Int))) (some (.int .i64 (h : Int)))).run P W = .ok (.slice A h h) W := by
  have ht' : P.underlying t = some (.slice (P.elem t)) := by simp [Program.elem, ht]
  have he : P.elem t = e := by simp [Program.elem, ht]
  rw [run_slice_hm W t _ _ _ ht' .i64 .i64 _ _ (by omega) (by omega) (by omega), he, hz]
  have := cutA_zero A h
  unfold cutA at this
  simp [Result.andThen, sliced, this]
theorem made_mrd {w : World} {base : Nat} {x : MR} {id fl : Nat} {l : List Sm} (h : MOw w base x) (hx : x.m = madeM id fl l) (hi : id < 65536) (hf : fl < 65536) (hs : ∀ s ∈ l, okS s) : MRd w w.heap.size x := by
  obtain ⟨h1, h2, h3, _⟩ := madeM_all id fl l hi hf hs
  exact h.rd (by rw [hx]; exact h1) (by rw [hx]; exact h2) (by rw [hx]; omega)
theorem num_pos (m : Ms) (hr : rightM m = true) : 12 ≤ (formM m).length := by
  have := (head_pre hr).len
  rw [headB_length] at this
  exact this
theorem readE_atL (A : Option Addr) (c L : Nat) (b : List UInt8) (hL : b.length = L) (m : Ms) (er : Nat) (hm : readM b = (m, er)) (w : World) (h : Rd w w.heap.size A L (bc b)) (hc : L ≤ c) (hbl : L ≤ 140737488355328) :
    Calls Try.prog 17 #[.slice A L c] w fun e w' => ∃ x : MR, x.m = m ∧ e = .returned (.tuple #[.agg x.cells.toArray, .int .i64 (er : Int)]) ∧ MRd w' w'.heap.size x ∧ Below w.heap.size w w' := by
  subst hL
  exact readE_at A c b m er hm w h hc hbl
theorem MOw.only {w w' : World} {base g : Nat} {x : MR} (h : MOw w base x) (hO : Only w w' g) (hg : g < base) : MOw w' base x :=
  ⟨h.q.only hO hg, h.a.only hO hg, h.b.only hO hg, h.c.only hO hg, fun o ho => (h.n o ho).only hO hg, fun o ho => (h.r0 o ho).only hO hg, fun o ho => (h.r1 o ho).only hO hg, fun o ho => (h.r2 o ho).only hO hg⟩
theorem MOw.far {w w' : World} {base : Nat} {x : MR} (h : MOw w base x) (hb : Below w.heap.size w w') : MOw w' base x :=
  ⟨h.q.far hb, h.a.far hb, h.b.far hb, h.c.far hb, fun o ho => (h.n o ho).far hb, fun o ho => (h.r0 o ho).far hb, fun o ho => (h.r1 o ho).far hb, fun o ho => (h.r2 o ho).far hb⟩
theorem dmade_atL (id fl : Nat) (A : Option Addr) (c L : Nat) (l : List SmR) (hL : l.length = L) (w : World) (h : Rd w w.heap.size A (L * 9) (smcs l)) (hc : L ≤ c) (hx : ∀ x ∈ l, SRd w w.heap.size x) :
    Calls Try.prog 12 #[.int .u16 (id : Int), .int .u16 (fl : Int), .slice A L c] w fun e w' => ∃ x : MR, x.m = madeM id fl (l.map SmR.s) ∧ e = .returned (.agg x.cells.toArray) ∧ MOw w' w.heap.size x ∧ Below w.heap.size w w' := by
  subst hL
  exact dmade_at id fl A c l w h hc hx
theorem beq_anyL (A1 A2 : Option Addr) (c1 c2 L1 L2 : Nat) (l m : List UInt8) (hl : l.length = L1) (hm : m.length = L2) (w : World) (B : Nat) (h1 : Rd w B A1 L1 (bc l)) (h2 : Rd w B A2 L2 (bc m)) :
    Calls Try.prog 22 #[.slice A1 L1 c1, .slice A2 L2 c2] w fun e w' => e = .returned (.bool (decide (l = m))) ∧ w' = w := by
  subst hl hm
  exact beq_any A1 A2 c1 c2 l m w B h1 h2
theorem rd_cutB {w : World} {B n : Nat} {A : Option Addr} {l : List UInt8} (h : Rd w B A n (bc l)) {k m cap : Nat} (hk : k ≤ m) (hm : m ≤ n) (hc : n ≤ cap) : Rd w B (cutA A cap k) (m - k) (bc ((l.drop k).take (m - k))) := by
  have := h.cut hk hm hc
  unfold bc at this ⊢
  rw [← List.map_drop, ← List.map_take] at this
  exact this
theorem rcs_take (l : List RR) : ∀ k, (rcs l).take (k * 9) = rcs (l.take k) := by
  induction l with
  | nil => intro k; simp [rcs]
  | cons a l ih =>
    intro k
    cases k with
    | zero => simp [rcs]
    | succ k =>
      have : rcs (a :: l) = a.cells ++ rcs l := by simp [rcs]
      rw [this, List.take_append, RR.cells_length, List.take_of_length_le (by rw [RR.cells_length]; omega), show (k + 1) * 9 - 9 = k * 9 by omega, ih k]
      simp [rcs]
theorem RsRd.take {w : World} {B c n : Nat} {A : Option Addr} {l : List RR} (h : RsRd w B A c n l) {k : Nat} (hk : k ≤ n) : RsRd w B A c (l.take k).length (l.take k) := by
  have hl : (l.take k).length = k := by rw [List.length_take, h.2.1]; omega
  rw [hl]
  refine ⟨?_, hl, Nat.le_trans hk h.2.2.1, Nat.le_trans hk h.2.2.2.1, fun x hx => h.2.2.2.2 x (List.mem_of_mem_take hx)⟩
  have := h.1.pre (k := k * 9) (by omega)
  rw [rcs_take] at this
  exact this
theorem smcs_snoc (l : List SmR) (x : SmR) : smcs (l ++ [x]) = smcs l ++ x.cells := by simp [smcs]
theorem smcells_one (x : SmR) : ∀ u ∈ x.cells, u.oneCell' = true := by
  intro u hu
  simp [SmR.cells] at hu
  rcases hu with rfl | rfl | rfl | rfl | rfl | rfl | rfl | rfl | rfl <;> rfl
theorem smcs_take (l : List SmR) : ∀ k, (smcs l).take (k * 9) = smcs (l.take k) := by
  induction l with
  | nil => intro k; simp [smcs]
  | cons a l ih =>
    intro k
    cases k with
    | zero => simp [smcs]
    | succ k =>
      have : smcs (a :: l) = a.cells ++ smcs l := by simp [smcs]
      rw [this, List.take_append, SmR.cells_length, List.take_of_length_le (by rw [SmR.cells_length]; omega), show (k + 1) * 9 - 9 = k * 9 by omega, ih k]
      simp [smcs]
theorem Try.infoSm : (Try.prog.info? 81).map (fun i => (i.zero, i.size, i.bytes)) = some (some (.agg #[.slice none 0 0, .slice none 0 0, .int .u8 0, .int .u8 0, .int .u16 0, .int .u16 0, .int .u16 0, .int .u32 0, .slice none 0 0]), 9, 88) := by kernel_rfl
theorem szRc (w : World) : (Go.sizeOf 41).run Try.prog w = .ok 9 w := by kernel_rfl
set_option maxRecDepth 100000 in
theorem open_smv {H : Type} {enc : TypeId × Value → H} {W : World} {base : Nat} {v : Value} {d : DataW H} {ps : List MemPlace} (hval : Value.okWide Try.prog W .any base 81 v) (hd : DataW.Trod enc Try.prog W 0 (fun _ => true) true 81 v d ps) (hre : ∀ n ∈ d.weights Try.prog 81, n ≤ reachBytes) :
    ∃ x : SmR, v = .agg x.cells.toArray ∧ SRd W W.heap.size x := by
  obtain ⟨cs, rfl, _⟩ := Go.WideShapes.okWide_struct Try.underlying81 hval
  obtain ⟨n, hn⟩ := hd
  obtain ⟨x, h1, h2⟩ := open_sm hn hre
  exact ⟨x, by rw [← h1]; simp [Value.cells], h2⟩
end Go.Proofs.Ytlipmlbijddopaa
set_option linter.unusedVariables false
set_option linter.unusedSimpArgs false
namespace Go.Proofs.Ytlipmlbijddopaa
open Go.RowKit
namespace Wg
def addM (m : Ms) (k : Nat) (l : List Rc) : Ms := if k = 0 then { m with r0 := m.r0 ++ l } else if k = 1 then { m with r1 := m.r1 ++ l } else { m with r2 := m.r2 ++ l }
theorem add_right (m : Ms) (k : Nat) (l : List Rc) : rightM (addM m k l) = (rightM m && l.all rightR) := by
  unfold addM
  by_cases h0 : k = 0
  · rw [if_pos h0]; simp only [rightM, List.all_append]
    cases m.qs.all (fun q => rightN q.nm) <;> cases m.r0.all rightR <;> cases m.r1.all rightR <;> cases m.r2.all rightR <;> cases l.all rightR <;> rfl
  · rw [if_neg h0]
    by_cases h1 : k = 1
    · rw [if_pos h1]; simp only [rightM, List.all_append]
      cases m.qs.all (fun q => rightN q.nm) <;> cases m.r0.all rightR <;> cases m.r1.all rightR <;> cases m.r2.all rightR <;> cases l.all rightR <;> rfl
    · rw [if_neg h1]; simp only [rightM, List.all_append]
      cases m.qs.all (fun q => rightN q.nm) <;> cases m.r0.all rightR <;> cases m.r1.all rightR <;> cases m.r2.all rightR <;> cases l.all rightR <;> rfl
theorem add_num (m : Ms) (k : Nat) (l : List Rc) : (addM m k l).num = m.num + l.length := by
  unfold addM
  by_cases h0 : k = 0
  · rw [if_pos h0]; simp only [Ms.num, List.length_append]; omega
  · rw [if_neg h0]
    by_cases h1 : k = 1
    · rw [if_pos h1]; simp only [Ms.num, List.length_append]; omega
    · rw [if_neg h1]; simp only [Ms.num, List.length_append]; omega
theorem ask_long (s : Wr) (q : Qn) (hq : q.nm = [[97]]) : s.1.length + 6 ≤ (askB s q).1.length := by
  have h : s.1.length + 2 ≤ (appN s.1 s.2 q.nm).length := by
    rcases app_shape s.1 s.2 q.nm with ⟨h, _⟩ | ⟨i, a, h1, _, _, _, _, h, _⟩
    · rw [h, hq]; simp [labS]
    · rw [hq] at h1
      have : i = 0 := by simpa using h1
      subst this
      rw [h, List.length_append, List.length_append]
      have : (ptr (a : Int)).length = 2 := rfl
      omega
  simp [askB]
  omega
theorem rec_long (s : Wr) (r : Rc) (hq : r.q.nm = [[97]]) : s.1.length + 12 + (dataR r).length ≤ (recB s r).1.length := by
  have h := ask_long s r.q hq
  simp [recB, twos_length]
  omega
theorem rsB_snoc (s : Wr) (l : List Rc) (r : Rc) : rsB s (l ++ [r]) = recB (rsB s l) r := by simp [rsB]
theorem form_long (m : Ms) (k : Nat) (r : Rc) (hr : rightM m = true) (hq : r.q.nm = [[97]]) : 24 + (dataR r).length ≤ (formM (addM m k [r])).length := by
  unfold rightM at hr
  simp only [Bool.and_eq_true] at hr
  obtain ⟨a0, a1, a2, a3⟩ := hr
  have hh : ∀ m' : Ms, (headB m').length = 12 := fun m' => by simp [headB, twos_length]
  unfold addM
  by_cases h0 : k = 0
  · rw [if_pos h0]
    obtain ⟨m', hm⟩ : ∃ m', m' = { m with r0 := m.r0 ++ [r] } := ⟨_, rfl⟩
    rw [← hm]
    have e : formM m' = (rsB (rsB (recB (rsB (qsB (headB m', []) m.qs) m.r0) r) m.r1) m.r2).1 := by
      show (rsB (rsB (rsB (qsB (headB m', []) m'.qs) m'.r0) m'.r1) m'.r2).1 = _
      rw [hm]
      simp only [rsB_snoc]
    rw [e]
    have h1 := qsB_le (headB m', []) m.qs a0
    have h2 := rsB_le (qsB (headB m', []) m.qs) m.r0 a1
    have h3 := rec_long (rsB (qsB (headB m', []) m.qs) m.r0) r hq
    have h4 := rsB_le (recB (rsB (qsB (headB m', []) m.qs) m.r0) r) m.r1 a2
    have h5 := rsB_le (rsB (recB (rsB (qsB (headB m', []) m.qs) m.r0) r) m.r1) m.r2 a3
    have h6 := hh m'
    simp only at h1
    omega
  · rw [if_neg h0]
    by_cases hk : k = 1
    · rw [if_pos hk]
      obtain ⟨m', hm⟩ : ∃ m', m' = { m with r1 := m.r1 ++ [r] } := ⟨_, rfl⟩
      rw [← hm]
      have e : formM m' = (rsB (recB (rsB (rsB (qsB (headB m', []) m.qs) m.r0) m.r1) r) m.r2).1 := by
        show (rsB (rsB (rsB (qsB (headB m', []) m'.qs) m'.r0) m'.r1) m'.r2).1 = _
        rw [hm]
        simp only [rsB_snoc]
      rw [e]
      have h1 := qsB_le (headB m', []) m.qs a0
      have h2 := rsB_le (qsB (headB m', []) m.qs) m.r0 a1
      have h4 := rsB_le (rsB (qsB (headB m', []) m.qs) m.r0) m.r1 a2
      have h3 := rec_long (rsB (rsB (qsB (headB m', []) m.qs) m.r0) m.r1) r hq
      have h5 := rsB_le (recB (rsB (rsB (qsB (headB m', []) m.qs) m.r0) m.r1) r) m.r2 a3
      have h6 := hh m'
      simp only at h1
      omega
    · rw [if_neg hk]
      obtain ⟨m', hm⟩ : ∃ m', m' = { m with r2 := m.r2 ++ [r] } := ⟨_, rfl⟩
      rw [← hm]
      have e : formM m' = (recB (rsB (rsB (rsB (qsB (headB m', []) m.qs) m.r0) m.r1) m.r2) r).1 := by
        show (rsB (rsB (rsB (qsB (headB m', []) m'.qs) m'.r0) m'.r1) m'.r2).1 = _
        rw [hm]
        simp only [rsB_snoc]
      rw [e]
      have h1 := qsB_le (headB m', []) m.qs a0
      have h2 := rsB_le (qsB (headB m', []) m.qs) m.r0 a1
      have h4 := rsB_le (rsB (qsB (headB m', []) m.qs) m.r0) m.r1 a2
      have h5 := rsB_le (rsB (rsB (qsB (headB m', []) m.qs) m.r0) m.r1) m.r2 a3
      have h3 := rec_long (rsB (rsB (rsB (qsB (headB m', []) m.qs) m.r0) m.r1) m.r2) r hq
      have h6 := hh m'
      simp only at h1
      omega
/-- the record of one of the eight ways -/
def recW (w : Nat) : Rc :=
  match w with
  | 0 => ⟨⟨[[97], []], 1, 1⟩, 0, [], 0, 0, 0, []⟩
  | 1 => ⟨⟨[[97]], 1, 1⟩, 0, [], 0, 0, 1, []⟩
  | 2 => ⟨⟨[[97]], 1, 1⟩, 0, [], 0, 0, 0, [[97]]⟩
  | 3 => ⟨⟨[[97]], 1, 1⟩, 0, List.replicate 4097 0, 0, 0, 0, []⟩
  | 4 => ⟨⟨[[97]], 33, 1⟩, 0, [1], 0, 0, 0, []⟩
  | 5 => ⟨⟨[[97]], 33, 1⟩, 0, [], 0, 0, 0, [[65]]⟩
  | 6 => ⟨⟨[[97]], 1, 1⟩, 0, [], 0, 0, 0, []⟩
  | _ => ⟨⟨[[97]], 1, 1⟩, 0, List.replicate 4073 0, 0, 0, 0, []⟩
set_option maxRecDepth 100000 in
theorem right_a : rightN [[97]] = true := by decide
set_option maxRecDepth 100000 in
theorem rec_bad (w : Nat) (hw : w < 6) : rightR (recW w) = false := by
  rcases (show w = 0 ∨ w = 1 ∨ w = 2 ∨ w = 3 ∨ w = 4 ∨ w = 5 by omega) with rfl | rfl | rfl | rfl | rfl | rfl
  · decide
  · decide
  · decide
  · simp [rightR, recW, right_a]
  · decide
  · decide
set_option maxRecDepth 100000 in
theorem rec_good : rightR (recW 6) = true := by decide
set_option maxRecDepth 100000 in
theorem rec_fat : rightR (recW 7) = true := by simp [rightR, recW, right_a]
set_option maxRecDepth 100000 in
theorem wrong_bad (m : Ms) (k w : Nat) (hw : w < 6) : writeM (addM m k [recW w]) = ([], 170) := by
  unfold writeM
  rw [if_pos (by rw [add_right]; simp [rec_bad w hw])]
set_option maxRecDepth 100000 in
theorem wrong_many (m : Ms) (j k : Nat) (hr : rightM m = true) : writeM (addM (addM m j (List.replicate 256 (recW 6))) k [recW 6]) = ([], 5) := by
  have h1 : rightM (addM (addM m j (List.replicate 256 (recW 6))) k [recW 6]) = true := by
    rw [add_right, add_right, hr]
    simp [rec_good]
  have h2 : 256 < (addM (addM m j (List.replicate 256 (recW 6))) k [recW 6]).num := by
    rw [add_num, add_num, List.length_replicate]; simp only [List.length_cons, List.length_nil]; omega
  unfold writeM
  rw [if_neg (by rw [h1]; decide), if_pos h2]
set_option maxRecDepth 100000 in
theorem wrong_long (m : Ms) (k : Nat) (hr : rightM m = true) (hn : m.num ≤ 10) : writeM (addM m k [recW 7]) = ([], 3) := by
  have h1 : rightM (addM m k [recW 7]) = true := by
    rw [add_right, hr]
    simp [rec_fat]
  have h2 : ¬ 256 < (addM m k [recW 7]).num := by
    rw [add_num]; simp; omega
  have h3 := form_long m k (recW 7) hr rfl
  have h4 : (dataR (recW 7)).length = 4073 := by simp [dataR, recW]
  unfold writeM
  rw [if_neg (by rw [h1]; decide), if_neg h2, if_pos (by omega)]
end Wg
end Go.Proofs.Ytlipmlbijddopaa
set_option linter.unusedVariables false
set_option linter.unusedSimpArgs false
namespace Go.Proofs.Ytlipmlbijddopaa
open Go.RowKit
theorem run_app_make {P : Program} (w : World) (t tx ty e : TypeId) (k : IntKind) (i : TypeInfo) (z : Value) (ht : P.underlying t = some (.slice e)) (hx : P.underlying tx = some (.int k)) (hi : P.info? e = some i) (hz : i.zero = some z)
    (n : Nat) (h0 : 0 < n) (hs : 0 < i.size) (h63 : n ≤ 9223372036854775807) (h48 : n * i.bytes ≤ 140737488355328) :
    (Builtin.append_ #[t, tx] ty #[.slice none 0 0, .int .i64 (n : Int)]).run P w =
      .ok (.slice (some ⟨w.heap.size, 0, none⟩) n (grownCap w n 0 e)) (w.drew.alloc (.cells (Builtin.zeroCells z.cells n ++ Builtin.zeroCells z.cells (grownCap w n 0 e - n)) e)) := by
  have hn : n ≠ 0 := by omega
  have h63' : ¬ (9223372036854775807 < (n : Int)) := by omega
  have h48' : ¬ (281474976710656 < Builtin.nextslicecap n 0 * i.bytes) := by rw [nextslicecap_zero h0]; omega
  have hw : IntKind.i64.wrap (n : Int) = n := by simp [IntKind.wrap, IntKind.bits, IntKind.signed]; omega
  have hneg : ¬ ((n : Int) < 0) := by omega
  have h48i : ¬ (281474976710656 < (n : Int) * (i.bytes : Int)) := by
    have : ((n * i.bytes : Nat) : Int) ≤ 281474976710656 := by omega
    rw [Int.natCast_mul] at this
    omega
  have hns : ¬ (n = 0 ∨ i.size = 0) := by omega
  have hns1 : ¬ (n * i.size = 0) := fun e => hns (Nat.mul_eq_zero.1 e)
  simp [Builtin.append_, run_underlying ht, run_underlying hx, sizeOf, typeInfo, zeroValue, hi, hz, asInt, asIntOf, hw, hneg, h48i, hn, h63', h48', hns1, Question.forced, run_firstCells_none, newRow, grownCap]
theorem wpList_make {P : Program} (w : World) {ops : Array Oper} {rest : List Oper} {o : Oper} {a : Act} {Q : Exit → Act → World → Prop} (hgd : o.guard = none) (sl x : Operand) (t tx : TypeId)
    (ho : o.op = .call { callee := .builtin .append, args := #[sl, x], argTypes := #[t, tx] }) (e : TypeId) (k : IntKind) (i : TypeInfo) (z : Value) (ht : P.underlying t = some (.slice e)) (hx : P.underlying tx = some (.int k)) (hi : P.info? e = some i) (hz : i.zero = some z)
    (n : Nat) (hsl : a.eval sl = .slice none 0 0) (hxv : a.eval x = .int .i64 (n : Int)) (h0 : 0 < n) (hs : 0 < i.size) (h63 : n ≤ 9223372036854775807) (h48 : n * i.bytes ≤ 140737488355328)
    (h : wpList P ops Q rest (a.put o.dst (.slice (some ⟨w.heap.size, 0, none⟩) n (grownCap w n 0 e))) (w.drew.alloc (.cells (Builtin.zeroCells z.cells n ++ Builtin.zeroCells z.cells (grownCap w n 0 e - n)) e))) : wpList P ops Q (o :: rest) a w := by
  refine wpList_plain hgd fun K hK => ?_
  have hr := run_app_make (P := P) w t tx o.type e k i z ht hx hi hz n h0 hs h63 h48
  unfold Oper.wp execOp
  simp only [ho, resolve, invoke, builtin, Sem.run_bind, Sem.run_pure, Result.andThen_ok, List.map_toArray, List.map_cons, List.map_nil, hsl, hxv, hr]
  exact hK _ _ h
theorem own_made (w : World) (e : TypeId) (s n cap m : Nat) (z : Value) (hz : z.cells.size = s) (hc : n ≤ cap) (hm : cap ≤ maxLen) :
    OwM (w.drew.alloc (.cells (Builtin.zeroCells z.cells n ++ Builtin.zeroCells z.cells (cap - n)) e)) w.heap.size e s (.slice (some ⟨w.heap.size, 0, none⟩) 0 cap) 0 [] := by
  refine ⟨by simp, .inr ⟨w.heap.size, cap, _, rfl, Nat.le_refl _, heap_alloc_new w.drew _, Nat.zero_le _, hm, ?_, by simp⟩⟩
  rw [Array.size_append, size_zeroCells, size_zeroCells, hz, ← Nat.add_mul]
  congr 1
  omega
set_option maxRecDepth 100000 in
set_option maxHeartbeats 1000000 in
theorem rgrow_at (n : Nat) (w : World) (hn : n * 96 ≤ 140737488355328) : Calls Try.prog 32 #[.slice none 0 0, .int .i64 (n : Int)] w fun e w' => ∃ v, e = .returned v ∧ OwM w' w.heap.size 41 9 v 0 [] ∧ Below w.heap.size w w' := by
  obtain ⟨j0, hj', hy0, hy1, hy2⟩ := info_parts Try.infoR
  have hb : n * j0.bytes ≤ 140737488355328 := by rw [hy2]; exact hn
  have HB := Lib.hid hb
  have HS : Hid (0 < j0.size) := Lib.hid (by rw [hy1]; omega)
  clear hb
  have hnl : n ≤ 1466015503701 := by omega
  by_cases h0 : 0 < n
  · have hcg := grownCap_ge w n 0 41
    have hcm := grownCap_le_maxLen w n 0 41 (by unfold maxLen; omega)
    have hO := own_made w 41 9 n (grownCap w n 0 41) 0 (.agg zRR.cells.toArray) rfl hcg hcm
    have hBl := ((Below.refl w.heap.size w).drew).alloc (Nat.le_refl _) (.cells (Builtin.zeroCells (Value.agg zRR.cells.toArray).cells n ++ Builtin.zeroCells (Value.agg zRR.cells.toArray).cells (grownCap w n 0 41 - n)) 41)
    have HO := Lib.hid hO
    have HBl := Lib.hid hBl
    clear hO hBl
    go_enter Try.func32, Try.ntmps32
    go_wp2_with (at_builtin; refine wpList_make _ rfl _ _ _ _ rfl 41 .i64 j0 (.agg zRR.cells.toArray) Try.underlying25 Try.underlying3 hj' hy0 n rfl rfl h0 HS.out (by omega) HB.out ?_)
    go_ret
    exact ⟨_, rfl, HO.out, HBl.out⟩
  · have : n = 0 := by omega
    subst this
    go_enter Try.func32, Try.ntmps32
    go_wp2_with fail
    go_ret
    exact ⟨_, rfl, OwM.nil _ _ _ _, Below.refl _ _⟩
/-- a row of rows of addresses -/
structure ORow where
  A : Option Addr
  c : Nat
  l : List RR
def ORow.v (r : ORow) : Value := .slice r.A r.l.length r.c
def flatR (rows : List ORow) : List RR := rows.flatMap ORow.l
def RsO (w : World) (B : Nat) (A : Option Addr) (n : Nat) (rows : List ORow) : Prop := Rd w B A n (rows.map ORow.v) ∧ rows.length = n ∧ ∀ r ∈ rows, Rd w B r.A (r.l.length * 9) (rcs r.l)
theorem rcs_app2 (l k : List RR) : rcs (l ++ k) = rcs l ++ rcs k := by simp [rcs]
theorem flatR_snoc (rows : List ORow) (r : ORow) : flatR (rows ++ [r]) = flatR rows ++ r.l := by simp [flatR]
theorem flatR_take (rows : List ORow) (k : Nat) : (flatR (rows.take k)).length ≤ (flatR rows).length := by
  have : flatR rows = flatR (rows.take k) ++ flatR (rows.drop k) := by simp only [flatR]; rw [← List.flatMap_append, List.take_append_drop]
  rw [this, List.length_append]; omega
set_option maxRecDepth 100000 in
set_option maxHeartbeats 2000000 in
theorem rconcat_at (A : Option Addr) (c n : Nat) (rows : List ORow) (w : World) (h : RsO w w.heap.size A n rows) (hs : (flatR rows).length * 96 ≤ 140737488355328) (hn : n ≤ 140737488355328) :
    Calls Try.prog 13 #[.slice A n c] w fun e w' => ∃ v, e = .returned v ∧ OwM w' w.heap.size 41 9 v (flatR rows).length (rcs (flatR rows)) ∧ Below w.heap.size w w' := by
  obtain ⟨j0, hj', hy0, hy1, hy2⟩ := info_parts Try.infoR
  have H := Lib.hid h
  have HL := Lib.hid h.2.1
  have HS := Lib.hid hs
  have hF : (flatR rows).length ≤ 1466015503701 := by omega
  clear h hs
  have hcell : ∀ (W : World), Below w.heap.size w W → ∀ k (hk : k < n), ∃ b o, A = some ⟨b, o, none⟩ ∧ W.cell? ⟨b, o + k, none⟩ = some (rows[k]'(by rw [HL.out]; exact hk)).v := by
    intro W hW k hk
    obtain ⟨b, o, hA, hb, hc⟩ := (H.out.1.below hW).at_ hk
    refine ⟨b, o, hA, hc k _ ?_⟩
    rw [List.getElem?_map, List.getElem?_eq_getElem (by rw [HL.out]; exact hk)]; rfl
  have HC := Lib.hid hcell
  clear hcell
  have hft : ∀ k (hk : k < n), flatR (rows.take (k + 1)) = flatR (rows.take k) ++ (rows[k]'(by rw [HL.out]; exact hk)).l := by
    intro k hk
    rw [List.take_succ_eq_append_getElem (by rw [HL.out]; exact hk), flatR_snoc]
  have HFT := Lib.hid hft
  clear hft
  go_enter Try.func13, Try.ntmps13
  go_wp2_with fail
  go_loop [3, 11] (fun v3 vk => ∃ k m : Nat, k ≤ n ∧ m ≤ 1466015503701 ∧ vk = .int .i64 k ∧ v3 = .int .i64 m ∧ Hid (m = (flatR (rows.take k)).length)) (fun _ vk => n - (intOf vk).toNat)
  case atStart => exact ⟨0, 0, Nat.zero_le _, Nat.zero_le _, rfl, rfl, Lib.hid rfl⟩
  case round =>
    obtain ⟨k, m, hk, hm, rfl, rfl, HM⟩ := hrel
    rcases Nat.lt_or_ge k n with hlt | hge
    · obtain ⟨b, o, rfl, hc⟩ := HC.out w (Below.refl _ _) k hlt
      have hfk := HFT.out k hlt
      have hle := flatR_take rows (k + 1)
      obtain ⟨x, hx⟩ : ∃ x, x = rows[k]'(by rw [HL.out]; exact hlt) := ⟨_, rfl⟩
      rw [← hx] at hc hfk
      have hmx : m + x.l.length ≤ 1466015503701 := by
        rw [hfk, List.length_append, ← HM.out] at hle; omega
      have HFK := Lib.hid hfk
      clear hx hfk hle
      obtain ⟨xA, xc, xl⟩ := x
      unfold ORow.v at hc
      dsimp only at hc hmx
      have hng : ¬ ((m : Int) + (xl.length : Int) < 0) := by omega
      go_wp2_with fail
      go_round
      case rel => exact ⟨k + 1, m + xl.length, by omega, hmx, by go_num, by go_num, Lib.hid (by rw [HFK.out, List.length_append, ← HM.out])⟩
      case measure => simp [intOf]; omega
    · obtain rfl : n = k := by omega
      have hm2 : m = (flatR rows).length := by rw [HM.out, List.take_of_length_le (by rw [HL.out]; exact Nat.le_refl _)]
      have HM2 := Lib.hid hm2
      have hg96 : m * 96 ≤ 140737488355328 := by rw [hm2]; exact HS.out
      clear hm2
      go_wp2_with (go_at_call 32
                   refine (rgrow_at m _ hg96).mono ?_
                   rintro e w1 ⟨v1, rfl, ho1, hb1⟩
                   have HO1 := Lib.hid ho1
                   have HB1 := Lib.hid hb1
                   clear ho1 hb1)
      go_loopw [6, 27] (fun v6 vk wr => ∃ k : Nat, k ≤ n ∧ vk = .int .i64 k ∧ Hid (OwM wr w.heap.size 41 9 v6 (flatR (rows.take k)).length (rcs (flatR (rows.take k)))) ∧ Hid (Below w.heap.size w wr)) (fun _ vk _ => n - (intOf vk).toNat)
      case atStart => exact ⟨0, Nat.zero_le _, rfl, Lib.hid HO1.out, HB1⟩
      case round =>
        obtain ⟨k, hk, rfl, HO, HB⟩ := hrel
        rcases Nat.lt_or_ge k n with hlt | hge
        · obtain ⟨b, o, rfl, hc⟩ := HC.out wr HB.out k hlt
          have hfk := HFT.out k hlt
          have hle := flatR_take rows (k + 1)
          have hsrc := (H.out.2.2 _ (List.getElem_mem (show k < rows.length by rw [HL.out]; exact hlt))).below HB.out
          obtain ⟨x, hx⟩ : ∃ x, x = rows[k]'(by rw [HL.out]; exact hlt) := ⟨_, rfl⟩
          rw [← hx] at hc hfk hsrc
          obtain ⟨q, hq⟩ : ∃ q, q = flatR (rows.take k) := ⟨_, rfl⟩
          rw [← hq] at hfk HO
          rw [hfk, List.length_append] at hle
          have HFK := Lib.hid hfk
          clear hx hfk hq
          obtain ⟨xA, xc, xl⟩ := x
          unfold ORow.v at hc
          dsimp only at hc hle hsrc
          have hsr := Lib.hid (hsrc.srcM (P := Try.prog) (c := xc) (tx := 25) Try.underlying25 (rcs_one _))
          obtain ⟨Ar, cr, rfl, _, _, _⟩ := HO.out.form
          have hsz := HB.out.size
          clear hsrc
          go_wp2_with (at_builtin
                       refine wpList_appM _ rfl _ _ _ _ rfl w.heap.size 9 41 j0 (.agg zRR.cells.toArray) 96 Try.underlying25 hj' hy0 hy1 hy2 rfl (by omega) (.slice Ar q.length cr) q.length (rcs q) HO.out rfl xl.length (rcs xl) hsr.out (by omega) hsz ?_
                       intro v4 w4 ho4 hg4 hz4
                       have HO4 := Lib.hid ho4
                       clear ho4)
          go_roundw
          case rel =>
            refine ⟨k + 1, by omega, by go_num, Lib.hid ?_, Lib.hid (HB.out.trans (hg4.below (OwM.lt HO.out) hsz))⟩
            rw [HFK.out, List.length_append, rcs_app2]; exact HO4.out
          case measure => simp [intOf]; omega
        · obtain rfl : n = k := by omega
          have ho := HO.out
          rw [List.take_of_length_le (by rw [HL.out]; exact Nat.le_refl _)] at ho
          have HOE := Lib.hid ho
          clear ho HO
          go_wp2_with fail
          go_ret
          exact ⟨_, rfl, HOE.out, HB.out⟩
/-! ### copy of elements of several cells -/
theorem run_copy_rowS {P : Program} (w : World) (dT sT ty elem : TypeId) (s k g o dLen dCap : Nat) (a : Addr) (sLen sCap : Nat) (cur : Array Value) (t : TypeId) (cs : List Value)
    (hu : P.underlying dT = some (.slice elem)) (hs : (P.info? elem).map (·.size) = some s)
    (hg : w.heap[g]? = some (.cells cur t (0, 0))) (hk : k = Nat.min sLen dLen) (hn : cs.length = k * s)
    (hsrc : ∀ j v, cs[j]? = some v → w.cell? (a.add j) = some v) (hfit : o + cs.length ≤ cur.size) (h1 : ∀ v ∈ cs, v.oneCell' = true) :
    (Builtin.copy_ #[dT, sT] ty #[.slice (some ⟨g, o, none⟩) dLen dCap, .slice (some a) sLen sCap]).run P w =
      .ok (goInt k) (w.setRow g (splice cur.toList o cs).toArray) := by
  have hl := run_loadCells_list (P := P) w a cs hsrc
  have hst := run_storeCells_at P g o t cs 0 cur w hg (by simpa using hfit) h1
  rw [hn] at hl
  cases hq : P.info? elem with
  | none => simp [hq] at hs
  | some i =>
    have hi : i.size = s := by simpa [hq] using hs
    simp [Builtin.copy_, run_underlying hu, Builtin.lenOf, Builtin.firstCells, sizeOf, typeInfo, hq, hi, ← hk, hl, hst, splice]
section
variable {P : Program} {w : World} {ops : Array Oper} {o : Oper} {a : Act} {Q : Exit → Act → World → Prop}
theorem wpList_copyS {rest : List Oper} (hgd : o.guard = none) (d s : Operand) (dT sT : TypeId)
    (ho : o.op = .call { callee := .builtin .copy, args := #[d, s], argTypes := #[dT, sT] }) (elem : TypeId) (hu : P.underlying dT = some (.slice elem)) (sz : Nat) (hsz : (P.info? elem).map (·.size) = some sz)
    (k g off dLen dCap : Nat) (ad : Addr) (sLen sCap : Nat) (hd : a.eval d = .slice (some ⟨g, off, none⟩) dLen dCap) (hs : a.eval s = .slice (some ad) sLen sCap)
    (cur : List Value) (t : TypeId) (hg : w.heap[g]? = some (.cells cur.toArray t (0, 0))) (cs : List Value) (hk : k = Nat.min sLen dLen) (hn : cs.length = k * sz)
    (hsrc : ∀ j v, cs[j]? = some v → w.cell? (ad.add j) = some v) (hfit : off + cs.length ≤ cur.length) (h1 : ∀ v ∈ cs, v.oneCell' = true) (B : Nat) (w0 : World) (hb : Below B w0 w) (hBg : B ≤ g)
    (h : ∀ w', Hid (w'.heap[g]? = some (.cells (splice cur off cs).toArray t (0, 0))) → Below B w0 w' → wpList P ops Q rest (a.put o.dst (goInt k)) w') : wpList P ops Q (o :: rest) a w := by
  refine wpList_plain hgd fun K hK => ?_
  have hrun := run_copy_rowS (P := P) w dT sT o.type elem sz k g off dLen dCap ad sLen sCap cur.toArray t cs hu hsz hg hk hn hsrc (by simpa using hfit) h1
  unfold Oper.wp
  simp only [execOp, ho, resolve, invoke, builtin, Sem.run_bind, Sem.run_pure, Result.andThen_ok, List.map_toArray, List.map_cons, List.map_nil, hd, hs, hrun]
  exact hK _ _ (h _ (show _ = _ by simpa using setRow_heap w g _ _ t _ hg) (below_setRow hb hBg _))
theorem step_copyS {K : Act → World → Prop} {E : Prop} (hgd : o.guard = none) (d s : Operand) (dT sT : TypeId)
    (ho : o.op = .call { callee := .builtin .copy, args := #[d, s], argTypes := #[dT, sT] }) (elem : TypeId) (hu : P.underlying dT = some (.slice elem)) (sz : Nat) (hsz : (P.info? elem).map (·.size) = some sz)
    (k g off dLen dCap : Nat) (ad : Addr) (sLen sCap : Nat) (hd : a.eval d = .slice (some ⟨g, off, none⟩) dLen dCap) (hs : a.eval s = .slice (some ad) sLen sCap)
    (cur : List Value) (t : TypeId) (hg : w.heap[g]? = some (.cells cur.toArray t (0, 0))) (cs : List Value) (hk : k = Nat.min sLen dLen) (hn : cs.length = k * sz)
    (hsrc : ∀ j v, cs[j]? = some v → w.cell? (ad.add j) = some v) (hfit : off + cs.length ≤ cur.length) (h1 : ∀ v ∈ cs, v.oneCell' = true) (B : Nat) (w0 : World) (hb : Below B w0 w) (hBg : B ≤ g)
    (h : ∀ w', Hid (w'.heap[g]? = some (.cells (splice cur off cs).toArray t (0, 0))) → Below B w0 w' → K (a.put o.dst (goInt k)) w') : if Region.wanted o (yielded ops a.tmps) = true then Oper.wp P o a w K Q else E := by
  have hw : Region.wanted o (yielded ops a.tmps) = true := by simp [Region.wanted, hgd]
  rw [if_pos hw]
  have hrun := run_copy_rowS (P := P) w dT sT o.type elem sz k g off dLen dCap ad sLen sCap cur.toArray t cs hu hsz hg hk hn hsrc (by simpa using hfit) h1
  unfold Oper.wp
  simp only [execOp, ho, resolve, invoke, builtin, Sem.run_bind, Sem.run_pure, Result.andThen_ok, List.map_toArray, List.map_cons, List.map_nil, hd, hs, hrun]
  exact h _ (show _ = _ by simpa using setRow_heap w g _ _ t _ hg) (below_setRow hb hBg _)
end
/-! ### slices.Repeat -/
theorem reps_len (x : RR) (m : Nat) : (rcs (List.replicate m x)).length = m * 9 := by rw [rcs_length, List.length_replicate]
theorem splice_reps (cur : List Value) (m t : Nat) (x : RR) (h : cur.take (m * 9) = rcs (List.replicate m x)) (hl : (m + t) * 9 ≤ cur.length) : (splice cur (m * 9) (rcs (List.replicate t x))).take ((m + t) * 9) = rcs (List.replicate (m + t) x) := by
  unfold splice
  rw [h, ← List.append_assoc, List.take_left' (by rw [List.length_append, reps_len, reps_len]; omega), ← List.replicate_append_replicate, rcs_app2]
theorem reps_get (m : Nat) (x : RR) (j : Nat) (hj : j < m * 9) (t : Nat) (h : m ≤ t) : (rcs (List.replicate t x))[j]? = (rcs (List.replicate m x))[j]? := by
  have : List.replicate t x = List.replicate m x ++ List.replicate (t - m) x := by rw [List.replicate_append_replicate]; congr 1; omega
  rw [this, rcs_app2, List.getElem?_append_left (by rw [reps_len]; exact hj)]
theorem heap_cellsR {w : World} {g : Nat} {cur : List Value} {t : TypeId} (h : w.heap[g]? = some (.cells cur.toArray t (0, 0))) (j : Nat) : w.cell? ⟨g, j, none⟩ = cur[j]? := by simp [World.cell?, h]
theorem madeG_flat {α : Type} (f : α → List Value) (s : Nat) (hs : ∀ x, (f x).length = s) (h0 : 0 < s) (x : α) (z : Array Value) (hz : z.toList = f x) (n : Nat) : madeCells z (n * s) = ((List.replicate n x).flatMap f).toArray := by
  have hzs : z.size = s := by rw [← hs x, ← hz]; simp
  have hl : ((List.replicate n x).flatMap f).length = n * s := by
    induction n with
    | zero => simp
    | succ n ih => rw [List.replicate_succ, List.flatMap_cons, List.length_append, hs, ih, Nat.add_mul, Nat.one_mul, Nat.add_comm]
  apply Array.ext
  · rw [size_madeCells, List.size_toArray, hl]
  · intro j h1 h2
    rw [size_madeCells] at h1
    have hq : j / s < (List.replicate n x).length := by rw [List.length_replicate]; exact Nat.div_lt_of_lt_mul (by rw [Nat.mul_comm]; exact h1)
    have hms : j % s < s := Nat.mod_lt _ h0
    have h3 := flat_get f s hs (List.replicate n x) (j / s) (j % s) hq hms
    have hjq : j / s * s + j % s = j := by rw [Nat.mul_comm]; exact Nat.div_add_mod j s
    rw [hjq, List.getElem_replicate, ← hz] at h3
    rw [List.getElem?_eq_getElem (by rw [hl]; exact h1)] at h3
    simp only [madeCells, Array.getElem_map, Array.getElem_range, List.getElem_toArray]
    rw [hzs, getElem!_pos z (j % s) (by rw [hzs]; exact hms)]
    have h4 : z.toList[j % s]? = some z[j % s] := by
      rw [List.getElem?_eq_getElem (by simpa [hzs] using hms)]; simp
    rw [h4] at h3
    exact (Option.some.inj h3).symm
def zRRr : RR := ⟨none, 0, none, 0, none, 0, zR⟩
theorem make_rcs (n : Nat) (hn : n ≤ 1000000) (W : World) : (Instr.makeSlice 25 (.int .i64 (n : Int)) (.int .i64 (n : Int))).run Try.prog W = .ok (.slice (some ⟨W.heap.size, 0, none⟩) n n) (W.alloc (.cells (rcs (List.replicate n zRRr)).toArray 41)) := by
  obtain ⟨i0, hi, hz0, hz1, hz2⟩ := info_parts Try.infoR
  have := run_make (P := Try.prog) W 25 41 i0 _ Try.underlying25 hi hz0 .i64 .i64 n n (by omega) (by omega) (by rw [hz2]; omega) (by omega)
  rw [this, hz1]
  simp only [Int.toNat_natCast]
  have e : madeCells (Value.cells (.agg zRR.cells.toArray)) (n * 9) = (rcs (List.replicate n zRRr)).toArray := madeG_flat RR.cells 9 RR.cells_length (by omega) zRRr _ rfl n
  rw [e]
theorem run_slM_lR {P : Program} (W : World) (t e : TypeId) (s : Nat) (ht : P.underlying t = some (.slice e)) (hz : ∀ w, (Go.sizeOf e).run P w = .ok s w) (g n cap l : Nat) (h1 : l ≤ n) (h3 : l < cap) :
    (Instr.slice t (.slice (some ⟨g, 0, none⟩) n cap) (some (.int .i64 (l : Int))) none none).run P W = .ok (.slice (some ⟨g, l * s, none⟩) (n - l) (cap - l)) W := by
  have ht' : P.underlying t = some (.slice (P.elem t)) := by simp [Program.elem, ht]
  have he : P.elem t = e := by simp [Program.elem, ht]
  rw [run_slice_l W t _ _ _ ht' .i64 _ (by omega) (by omega), he, hz]
  have e1 : ¬ cap = l := by omega
  simp [Result.andThen, sliced, e1, Addr.add]
  by_cases h0 : l * s = 0
  · simp [h0]
  · simp [h0]
theorem run_slM_hR {P : Program} (W : World) (t e : TypeId) (s : Nat) (ht : P.underlying t = some (.slice e)) (hz : ∀ w, (Go.sizeOf e).run P w = .ok s w) (A : Option Addr) (n cap : Nat) (h : Nat) (h2 : h ≤ cap) : (Instr.slice t (.slice A n cap) none (some (.int .i64 (h : Int))) none).run P W = .ok (.slice A h cap) W := by
  have ht' : P.underlying t = some (.slice (P.elem t)) := by simp [Program.elem, ht]
  have he : P.elem t = e := by simp [Program.elem, ht]
  rw [run_slice_h W t _ _ _ ht' .i64 _ (by omega) (by omega), he, hz]
  have := cutA_zero A cap
  unfold cutA at this
  simp [Result.andThen, sliced, this]
theorem szRcR (w : World) : (Go.sizeOf 41).run Try.prog w = .ok 9 w := by kernel_rfl
theorem addr_add (g o j : Nat) : (⟨g, o, none⟩ : Addr).add j = ⟨g, o + j, none⟩ := by
  by_cases h0 : j = 0
  · subst h0; rfl
  · simp [Addr.add, h0]
set_option maxRecDepth 100000 in
set_option maxHeartbeats 2000000 in
theorem rrep_at (q c : Nat) (x : RR) (w : World) (hq : q < w.heap.size) (hr : ∀ j u, x.cells[j]? = some u → w.cell? ⟨q, j, none⟩ = some u) :
    Calls Try.prog 14 #[.slice (some ⟨q, 0, none⟩) 1 c, .int .i64 256] w fun e w' => ∃ g, e = .returned (.slice (some ⟨g, 0, none⟩) 256 256) ∧ w.heap.size ≤ g ∧ Rd w' w'.heap.size (some ⟨g, 0, none⟩) (256 * 9) (rcs (List.replicate 256 x)) ∧ Below w.heap.size w w' := by
  have hmk : ∀ W : World, (Instr.makeSlice 25 (.int .i64 256) (.int .i64 256)).run Try.prog W = .ok (.slice (some ⟨W.heap.size, 0, none⟩) 256 256) (W.alloc (.cells (rcs (List.replicate 256 zRRr)).toArray 41)) := make_rcs 256 (by omega)
  have hmul := Try.bits_Mul 1 256 (by omega) (by omega) w
  have HMul := Lib.hid hmul
  clear hmul
  have hsz : (Try.prog.info? 41).map (·.size) = some 9 := by kernel_rfl
  obtain ⟨Z, hZ⟩ : ∃ Z, Z = rcs (List.replicate 256 zRRr) := ⟨_, rfl⟩
  have hZl : Z.length = 2304 := by rw [hZ, reps_len]
  rw [← hZ] at hmk
  obtain ⟨X, hX⟩ : ∃ X, X = x.cells := ⟨_, rfl⟩
  have hXl : X.length = 9 := by rw [hX]; rfl
  have hX1 : ∀ u ∈ X, u.oneCell' = true := by rw [hX]; exact rcells_one x
  have hcx : ∀ j u, X[j]? = some u → (w.alloc (.cells Z.toArray 41)).cell? ((⟨q, 0, none⟩ : Addr).add j) = some u := fun j u hu => by
    rw [addr_add, Nat.zero_add, World.cell?_alloc_lt w _ ⟨q, j, none⟩ hq]
    exact hr j u (by rw [← hX]; exact hu)
  have HCX := Lib.hid hcx
  have HX := Lib.hid hX
  have HXL := Lib.hid hXl
  have HX1 := Lib.hid hX1
  have HZL := Lib.hid hZl
  clear hZ hX hXl hX1 hcx hZl
  go_enter Try.func14, Try.ntmps14
  go_wp2_with (first
    | (with_reducible refine wpList_copyS rfl _ _ _ _ rfl 41 Try.underlying25 9 hsz 1 w.heap.size 0 256 256 ⟨q, 0, none⟩ 1 c rfl rfl Z 41 (heap_alloc_new w _) X rfl HXL.out HCX.out (by rw [HZL.out, HXL.out]; omega) HX1.out w.heap.size w ((Below.refl _ _).alloc (Nat.le_refl _) _) (Nat.le_refl _) ?_; intro w2 hg2 hB2; have HB2 := Lib.hid hB2; clear hB2)
    | (go_at_call 33; refine HMul.out.mono ?_; rintro e w ⟨rfl, rfl⟩))
  have hs2 : (splice Z 0 X).take (1 * 9) = rcs (List.replicate 1 x) := by
    have h1 : X.length = 1 * 9 := HXL.out
    have h2 : rcs (List.replicate 1 x) = X := by rw [HX.out]; simp [rcs]
    rw [h2]
    unfold splice
    rw [List.take_zero, List.nil_append, List.take_left' h1]
  have hl2 : (splice Z 0 X).length = 2304 := by rw [length_splice _ _ _ (by rw [HZL.out, HXL.out]; omega)]; exact HZL.out
  generalize splice Z 0 X = cur0 at hg2 hs2 hl2
  have HS2 := Lib.hid hs2
  have HL2 := Lib.hid hl2
  clear hs2 hl2 HMul hmk HCX HX1 HXL HX HZL
  go_loopw [8] (fun v8 wr => ∃ (m : Nat) (cur : List Value), v8 = .int .i64 m ∧ 1 ≤ m ∧ m ≤ 256 ∧ Hid (wr.heap[w.heap.size]? = some (.cells cur.toArray 41 (0, 0))) ∧ Hid (cur.length = 2304) ∧ Hid (cur.take (m * 9) = rcs (List.replicate m x)) ∧ Hid (Below w.heap.size w wr)) (fun v8 _ => 256 - (intOf v8).toNat)
  case atStart => exact ⟨1, cur0, rfl, Nat.le_refl _, by omega, hg2, HL2, HS2, HB2⟩
  case round =>
    clear hg2 HL2 HS2 HB2
    obtain ⟨m, cur, rfl, hm1, hm2, HG, HL, HT, HB⟩ := hrel
    by_cases hlt : m < 256
    · obtain ⟨t, ht⟩ : ∃ t, t = min m (256 - m) := ⟨_, rfl⟩
      have ht1 : 1 ≤ t := by omega
      have ht2 : m + t ≤ 256 := by omega
      have htm : t ≤ m := by omega
      have s1 := fun W => run_slM_lR (P := Try.prog) W 25 41 9 Try.underlying25 szRcR w.heap.size 256 256 m (by omega) hlt
      have s2 := fun W => run_slM_hR (P := Try.prog) W 25 41 9 Try.underlying25 szRcR (some ⟨w.heap.size, 0, none⟩) 256 256 m (by omega)
      have hk : t = Nat.min m (256 - m) := ht
      have hn : (rcs (List.replicate t x)).length = t * 9 := reps_len x t
      have hsrc : ∀ j u, (rcs (List.replicate t x))[j]? = some u → wr.cell? ((⟨w.heap.size, 0, none⟩ : Addr).add j) = some u := fun j u hu => by
        have hj : j < t * 9 := by
          rcases Nat.lt_or_ge j (t * 9) with h1 | h1
          · exact h1
          · rw [List.getElem?_eq_none (by rw [hn]; exact h1)] at hu; cases hu
        rw [addr_add, Nat.zero_add, heap_cellsR HG.out]
        have h3 : (cur.take (m * 9))[j]? = some u := by rw [HT.out, reps_get t x j hj m htm]; exact hu
        rwa [List.getElem?_take_of_lt (by omega)] at h3
      have hfit : m * 9 + (rcs (List.replicate t x)).length ≤ cur.length := by rw [hn, HL.out]; omega
      have hone : ∀ u ∈ rcs (List.replicate t x), u.oneCell' = true := rcs_one _
      have HN := Lib.hid hn
      have HK := Lib.hid hk
      have HSr := Lib.hid hsrc
      have HFt := Lib.hid hfit
      have HOn := Lib.hid hone
      have k2 : IntKind.i64.wrap ((m : Int) + (t : Int)) = (m : Int) + (t : Int) := IntWalk.i64_in _ (by omega)
      have k1 : goInt t = .int .i64 (t : Int) := rfl
      have HK1 := Lib.hid k1
      clear hn hsrc hfit hone ht hk k1
      go_wp2_with fail
      go_region_law (first
        | (refine step_copyS rfl _ _ _ _ rfl 41 Try.underlying25 9 hsz t w.heap.size (m * 9) (256 - m) (256 - m) ⟨w.heap.size, 0, none⟩ m 256 ?_ ?_ cur 41 HG.out (rcs (List.replicate t x)) HK.out HN.out HSr.out HFt.out HOn.out w.heap.size w HB.out.drew (Nat.le_refl _) ?_
           · kernel_rfl
           · kernel_rfl
           intro w4 hg4 hb4
           rw [HK1.out]))
      all_goals
        simp only [Act.put, List.getElem_toArray, List.getElem_cons_succ, List.getElem_cons_zero, List.setIfInBounds_toArray, List.set_cons_succ, List.set_cons_zero]
        go_roundw
        case rel =>
          refine ⟨_, _, _, _, _, _, _, _, _, _, _, _, _, _, ?_, rfl⟩
          exact ⟨m + t, splice cur (m * 9) (rcs (List.replicate t x)), by go_num, by omega, ht2, hg4, Lib.hid (by rw [length_splice _ _ _ HFt.out]; exact HL.out), Lib.hid (splice_reps cur m t x HT.out (by rw [HL.out]; omega)), Lib.hid hb4⟩
        case measure => simp [intOf]; omega
    · have hmK : 256 = m := by omega
      subst hmK
      go_wp2
      go_ret
      have hlt2 := (Array.getElem?_eq_some_iff.1 HG.out).1
      refine ⟨w.heap.size, rfl, Nat.le_refl _, ⟨reps_len x 256, fun _ => ⟨w.heap.size, 0, rfl, hlt2, fun j u hu => ?_⟩⟩, HB.out⟩
      rw [Nat.zero_add, heap_cellsR HG.out]
      have e : cur = rcs (List.replicate 256 x) := by rw [← HT.out, List.take_of_length_le (by rw [HL.out]; exact Nat.le_refl _)]
      rw [e]
      exact hu
end Go.Proofs.Ytlipmlbijddopaa
set_option linter.unusedVariables false
set_option linter.unusedSimpArgs false
namespace Go.Proofs.Ytlipmlbijddopaa
open Go.RowKit
namespace Wn
/-- a record's parts -/
def parts (x : RR) (o : Ob) : Prop := o = nmO x.A x.c x.r.q.nm ∨ o = daO x.dA x.dc x.r.d ∨ o = nmO x.tA x.tc x.r.tg
theorem dr_iff (l : List RR) (o : Ob) : DR l o ↔ ∃ x ∈ l, parts x o := Iff.rfl
/-- a record that can be written down -/
def okT (r : Rc) : Prop := sizeN r.q.nm ≤ 140737488355328 ∧ r.d.length ≤ 100000 ∧ sizeN r.tg ≤ 140737488355328 ∧ okR r
theorem okT_right {r : Rc} (h : rightR r = true) (hk : okR r) : okT r := ⟨right_small (rightR_nm h), by have := rightR_data h; omega, rightR_tg h, hk⟩
theorem rep_le (n m : Nat) (h : n ≤ m) : (List.replicate n (0 : UInt8)).length ≤ m := by rw [List.length_replicate]; exact h
theorem okT_way (w : Nat) : okT (Wg.recW w) := by
  unfold Wg.recW
  split
  · exact ⟨by decide, by decide, by decide, ⟨by decide, by decide⟩, by decide, by decide, by decide, by decide⟩
  · exact ⟨by decide, by decide, by decide, ⟨by decide, by decide⟩, by decide, by decide, by decide, by decide⟩
  · exact ⟨by decide, by decide, by decide, ⟨by decide, by decide⟩, by decide, by decide, by decide, by decide⟩
  · exact ⟨by decide, rep_le _ _ (by omega), by decide, ⟨by decide, by decide⟩, by decide, by decide, by decide, by decide⟩
  · exact ⟨by decide, by decide, by decide, ⟨by decide, by decide⟩, by decide, by decide, by decide, by decide⟩
  · exact ⟨by decide, by decide, by decide, ⟨by decide, by decide⟩, by decide, by decide, by decide, by decide⟩
  · exact ⟨by decide, by decide, by decide, ⟨by decide, by decide⟩, by decide, by decide, by decide, by decide⟩
  · exact ⟨by decide, rep_le _ _ (by omega), by decide, ⟨by decide, by decide⟩, by decide, by decide, by decide, by decide⟩
theorem ownM_setNe {w : World} {base g s n : Nat} {e : TypeId} {v : Value} {xs : List Value} (h : OwM w base e s v n xs) (hne : v.ownBlock ≠ some g) (k : Nat) (u : Value) : OwM (w.setCell ⟨g, k, none⟩ u) base e s v n xs :=
  World.ownsRow.kept h (grownBy_set w g k u) (.inr hne)
/-- the state: boxes M (the message) and R (the record), the rows and what they lead to -/
structure St (w : World) (b M R id fl : Nat) (Aq : Option Addr) (cq : Nat) (lq : List QR) (rs : Nat → RW) (D : Ob → Prop) : Prop where
  vm : Vx w M 28 (mrow id fl Aq cq lq rs)
  fam : Fam w b (rowF Aq cq lq rs) D
  dd : ∀ o, DD lq rs o → D o
  rm : ∀ i, i < 4 → (rowF Aq cq lq rs i).v.ownBlock ≠ some M ∧ (rowF Aq cq lq rs i).v.ownBlock ≠ some R
  dm : ∀ o, D o → o.v.ownBlock ≠ some M ∧ o.v.ownBlock ≠ some R
  lt : b ≤ M ∧ M < R ∧ R < w.heap.size
section
variable {w w' : World} {b M R id fl : Nat} {Aq : Option Addr} {cq : Nat} {lq : List QR} {rs : Nat → RW} {D : Ob → Prop}
theorem St.far (h : St w b M R id fl Aq cq lq rs D) (hb : Below w.heap.size w w') : St w' b M R id fl Aq cq lq rs D :=
  ⟨h.vm.below hb h.vm.lt, h.fam.far hb, h.dd, h.rm, h.dm, h.lt.1, h.lt.2.1, Nat.lt_of_lt_of_le h.lt.2.2 hb.size⟩
/-- a store into the record's box -/
theorem St.setR (h : St w b M R id fl Aq cq lq rs D) (k : Nat) (u : Value) : St (w.setCell ⟨R, k, none⟩ u) b M R id fl Aq cq lq rs D :=
  ⟨h.vm.setO (by have := h.lt.2.1; omega) k u, ⟨fun i hi => ownM_setNe (h.fam.ok i hi) (h.rm i hi).2 k u, fun o ho => ownM_setNe (h.fam.dn o ho) (h.dm o ho).2 k u, h.fam.ap, h.fam.ne⟩, h.dd, h.rm, h.dm, h.lt.1, h.lt.2.1, by simpa using h.lt.2.2⟩
theorem St.more {o : Ob} (h : St w b M R id fl Aq cq lq rs D) (hb : Below w.heap.size w w') (ho : o.ok w' w.heap.size) : St w' b M R id fl Aq cq lq rs (fun x => x = o ∨ D x) := by
  have h1 := h.far hb
  refine ⟨h1.vm, h.fam.add o hb ho (by have := h.lt; omega), fun x hx => Or.inr (h.dd x hx), h.rm, fun x hx => ?_, h1.lt⟩
  rcases hx with rfl | hx
  · constructor
    · intro e; have := OwM.lt ho M e; have := h.lt; omega
    · intro e; have := OwM.lt ho R e; have := h.lt; omega
  · exact h.dm x hx
theorem St.ok (h : St w b M R id fl Aq cq lq rs D) {i : Nat} (hi : i < 3) : OwM w b 41 9 (.slice (rs i).A (rs i).l.length (rs i).c) (rs i).l.length (rcs (rs i).l) := by
  have := h.fam.ok i (by omega)
  unfold rowF at this
  rw [if_neg (by omega)] at this
  exact this
theorem St.cell (h : St w b M R id fl Aq cq lq rs D) {i : Nat} (hi : i < 3) : w.cell? ⟨M, 3 + i, none⟩ = some (.slice (rs i).A (rs i).l.length (rs i).c) := by
  rw [h.vm.cell]; exact mrow_get _ _ _ _ _ _ i hi
theorem row_at {i : Nat} (hi : i < 3) : rowF Aq cq lq rs i = rwR (rs i).A (rs i).c (rs i).l := by unfold rowF; rw [if_neg (by omega)]
/-- row i is another one now, and the box says so -/
theorem St.app (h : St w b M R id fl Aq cq lq rs D) {w1 w2 : World} {i : Nat} (hi : i < 3) (hb : Below w.heap.size w w1) (A2 : Option Addr) (c2 : Nat) (l2 : List RR)
    (hl : ∀ o, DR l2 o → D o) (hg : Gr w1 w2 (.slice (rs i).A (rs i).l.length (rs i).c) (.slice A2 l2.length c2)) (hO : OwM w2 b 41 9 (.slice A2 l2.length c2) l2.length (rcs l2)) :
    St (w2.setCell ⟨M, 3 + i, none⟩ (.slice A2 l2.length c2)) b M R id fl Aq cq lq (updF rs i ⟨A2, c2, l2⟩) D ∧ (∀ cs, Vx w R 41 cs → Vx (w2.setCell ⟨M, 3 + i, none⟩ (.slice A2 l2.length c2)) R 41 cs) := by
  have h1 := h.far hb
  have hrm := h.rm i (by omega)
  rw [row_at hi] at hrm
  have hF := h1.fam.app i (by omega) (rwR A2 c2 l2) (by rw [row_at hi]; exact hg) hO
  have hsz2 : w1.heap.size ≤ w2.heap.size := hg.1.size
  have hn2 : ∀ g, (Value.slice A2 l2.length c2).ownBlock = some g → g ≠ M ∧ g ≠ R := fun g hg2 => by
    rcases hg.2 g hg2 with h3 | h3
    · exact ⟨fun e => hrm.1 (by rw [← e]; exact h3), fun e => hrm.2 (by rw [← e]; exact h3)⟩
    · have := h1.lt; omega
  have hmr : ∀ j, j < 4 → (rowF Aq cq lq (updF rs i ⟨A2, c2, l2⟩) j) = updF (rowF Aq cq lq rs) i (rwR A2 c2 l2) j := fun j hj => by
    unfold rowF
    by_cases e : j = i
    · subst e; rw [updF_same, updF_same, if_neg (by omega)]
    · rw [updF_ne _ _ e, updF_ne _ _ e]
  have hvm2 : Vx w2 M 28 (mrow id fl Aq cq lq rs) := h1.vm.grown hg.1 (fun e => hrm.1 e.symm)
  have hm1 : ∀ o, D o → o.v.ownBlock ≠ some M := fun o ho => (h.dm o ho).1
  refine ⟨⟨?_, ?_, fun o ho => ?_, fun j hj => ?_, h.dm, ?_⟩, fun cs hv => ?_⟩
  · have := hvm2.set_ (3 + i) (.slice A2 l2.length c2)
    have e := mrow_set id fl Aq cq lq rs i hi ⟨A2, c2, l2⟩
    unfold RW.v at e
    simp only at e
    rw [← e]
    exact this
  · refine Fam.mono (R := updF (rowF Aq cq lq rs) i (rwR A2 c2 l2)) ⟨fun j hj => ownM_setNe (hF.ok j hj) ?_ _ _, fun o ho => ownM_setNe (hF.dn o ho) (hm1 o ho) _ _, hF.ap, hF.ne⟩ hmr (fun o ho => ho)
    by_cases e : j = i
    · subst e; rw [updF_same]; intro e2; exact (hn2 M e2).1 rfl
    · rw [updF_ne _ _ e]; exact (h.rm j hj).1
  · rcases ho with ho | ⟨j, hj, ho⟩
    · exact h.dd o (Or.inl ho)
    · by_cases e : j = i
      · subst e; rw [updF_same] at ho; exact hl o ho
      · rw [updF_ne _ _ e] at ho; exact h.dd o (Or.inr ⟨j, hj, ho⟩)
  · rw [hmr j hj]
    by_cases e : j = i
    · subst e; rw [updF_same]; exact ⟨fun e2 => (hn2 M e2).1 rfl, fun e2 => (hn2 R e2).2 rfl⟩
    · rw [updF_ne _ _ e]; exact h.rm j hj
  · have := h1.lt
    simp
    omega
  · exact (((hv.below hb hv.lt)).grown hg.1 (fun e => hrm.2 e.symm)).setO (by have := h.lt; omega) _ _
theorem ok_rd {x : RR} {b : Nat} (hn : ∀ o, parts x o → o.ok w b) (hk : okT x.r) : RRd w w.heap.size x := by
  obtain ⟨k1, k2, k3, k4, k5, k6, k7, k8⟩ := hk
  exact ⟨⟨nmO_rd (hn _ (Or.inl rfl)) k1, k4⟩, daO_rd (hn _ (Or.inr (Or.inl rfl))) (by omega), nmO_rd (hn _ (Or.inr (Or.inr rfl))) k3, k5, k6, k7, k8⟩
/-- the message as one value -/
def mr (id fl : Nat) (Aq : Option Addr) (cq : Nat) (lq : List QR) (rs : Nat → RW) : MR := ⟨id, fl, Aq, cq, lq, (rs 0).A, (rs 0).c, (rs 0).l, (rs 1).A, (rs 1).c, (rs 1).l, (rs 2).A, (rs 2).c, (rs 2).l⟩
theorem mr_cells : (mr id fl Aq cq lq rs).cells = mrow id fl Aq cq lq rs := rfl
theorem mr_m : (mr id fl Aq cq lq rs).m = msOf id fl (lq.map QR.q) (fun i => (rs i).l.map RR.r) := rfl
theorem St.rd (h : St w b M R id fl Aq cq lq rs D) (hid : id < 65536) (hfl : fl < 65536) (hq : ∀ x ∈ lq, rightN x.q.nm = true ∧ okQ x.q) (hql : lq.length ≤ 10) (hr : ∀ i, i < 3 → ∀ x ∈ (rs i).l, okT x.r) (hrl : ∀ i, i < 3 → (rs i).l.length ≤ 300) :
    MRd w w.heap.size (mr id fl Aq cq lq rs) := by
  have rr : ∀ i, i < 3 → RsRd w w.heap.size (rs i).A (rs i).c (rs i).l.length (rs i).l := fun i hi => by
    have h1 := h.ok hi
    exact ⟨h1.rd, rfl, h1.cap, by have := hrl i hi; omega, fun x hx => ok_rd (fun o ho => h.fam.dn o (h.dd o (Or.inr ⟨i, hi, x, hx, ho⟩))) (hr i hi x hx)⟩
  exact ⟨hid, hfl, rwQ_rd (h.fam.ok 3 (by omega)) (fun o ho => h.fam.dn o (h.dd o (Or.inl ho))) (fun x hx => (hq x hx).1) (fun x hx => (hq x hx).2) (by show lq.length ≤ 256; omega), rr 0 (by omega), rr 1 (by omega), rr 2 (by omega)⟩
end
/-- adding to one list, in the vocabulary of the rows -/
theorem add_rows (id fl : Nat) (q : List Qn) (f : Nat → List Rc) (i : Nat) (hi : i < 3) (l : List Rc) : Wg.addM (msOf id fl q f) i l = msOf id fl q (updF f i (f i ++ l)) := by
  unfold Wg.addM msOf
  rcases (show i = 0 ∨ i = 1 ∨ i = 2 by omega) with rfl | rfl | rfl <;> simp [updF]
theorem map_upd (rs : Nat → RW) (i : Nat) (A : Option Addr) (c : Nat) (l : List RR) : (fun j => (updF rs i ⟨A, c, l⟩ j).l.map RR.r) = updF (fun j => (rs j).l.map RR.r) i (l.map RR.r) := by
  funext j
  by_cases e : j = i
  · subst e; rw [updF_same, updF_same]
  · rw [updF_ne _ _ e, updF_ne _ _ e]
end Wn
end Go.Proofs.Ytlipmlbijddopaa
set_option linter.unusedVariables false
set_option linter.unusedSimpArgs false
namespace Go.Proofs.Ytlipmlbijddopaa
open Go.RowKit
namespace Wn
def errW (v : Nat) : Nat := if v = 6 then 5 else if v = 7 then 3 else 170
theorem made_bytes (n : Nat) (hn : n ≤ 1000000) (W : World) : (Instr.makeSlice 22 (.int .i64 (n : Int)) (.int .i64 (n : Int))).run Try.prog W = .ok (.slice (some ⟨W.heap.size, 0, none⟩) n n) (W.alloc (.cells (bc (List.replicate n 0)).toArray 5)) := by
  obtain ⟨i0, hi, hz0, hz1, hz2⟩ := info_parts Try.infoByte
  have := run_make (P := Try.prog) W 22 5 i0 (.int .u8 0) Try.underlying22 hi hz0 .i64 .i64 n n (by omega) (by omega) (by rw [hz2]; omega) (by omega)
  rw [this, hz1]
  simp only [Int.toNat_natCast]
  have e : madeCells (Value.cells (.int .u8 0)) (n * 1) = ((List.replicate n (0 : UInt8)).flatMap (fun c => [Value.int .u8 (c.toNat : Int)])).toArray := madeG_flat (fun c : UInt8 => [Value.int .u8 (c.toNat : Int)]) 1 (fun _ => rfl) (by omega) 0 _ rfl n
  have e2 : bc (List.replicate n (0 : UInt8)) = (List.replicate n (0 : UInt8)).flatMap (fun c => [Value.int .u8 (c.toNat : Int)]) := by
    unfold bc
    generalize List.replicate n (0 : UInt8) = l
    induction l with
    | nil => rfl
    | cons a l ih => simp [ih]
  rw [e, e2]
/-- what stands where the eight ways meet -/
structure Join (w wx : World) (b M R id fl : Nat) (Aq : Option Addr) (cq : Nat) (lq : List QR) (rs : Nat → RW) (k v : Nat) (x : RR) (rs' : Nat → RW) (D : Ob → Prop) : Prop where
  st : St wx b M R id fl Aq cq lq rs' D
  vr : Vx wx R 41 x.cells
  px : ∀ o, parts x o → D o
  xr : x.r = Wg.recW v
  ms : (v ≠ 6 ∧ rs' = rs) ∨ (v = 6 ∧ ∃ A c, rs' = updF rs ((k + 1) % 3) ⟨A, c, (rs ((k + 1) % 3)).l ++ List.replicate 256 x⟩)
  bl : Below w.heap.size w wx
theorem lit_ok (w : World) (l : List (List UInt8)) (n : Nat) (hn : l.length = n) (hl : n ≤ 10) : (nmO (some ⟨w.heap.size, 0, none⟩) n l).ok (w.alloc (.cells (sc l).toArray 9)) w.heap.size := by
  subst hn
  have h := Ow.lit w 9 (sc l) (by rw [sc_length]; unfold maxLen; omega)
  unfold Ob.ok nmO OwM
  unfold Ow at h
  simpa using h
theorem dat_ok (w : World) (l : List UInt8) (n : Nat) (hn : l.length = n) (hl : n ≤ 10000) : (daO (some ⟨w.heap.size, 0, none⟩) n l).ok (w.alloc (.cells (bc l).toArray 5)) w.heap.size := by
  subst hn
  have h := Ow.lit w 5 (bc l) (by rw [bc_length]; unfold maxLen; omega)
  unfold Ob.ok daO OwM
  unfold Ow at h
  simpa using h
theorem lit_ok2 (w : World) (l : List (List UInt8)) (n g : Nat) (hg : g = w.heap.size) (hn : l.length = n) (hl : n ≤ 10) : (nmO (some ⟨g, 0, none⟩) n l).ok (w.alloc (.cells (sc l).toArray 9)) w.heap.size := by subst hg; exact lit_ok w l n hn hl
theorem dat_ok2 (w : World) (l : List UInt8) (n g : Nat) (hg : g = w.heap.size) (hn : l.length = n) (hl : n ≤ 10000) : (daO (some ⟨g, 0, none⟩) n l).ok (w.alloc (.cells (bc l).toArray 5)) w.heap.size := by subst hg; exact dat_ok w l n hn hl
theorem nil_nm (w : World) (b : Nat) : (nmO none 0 []).ok w b := OwM.nil _ _ _ _
theorem nil_da (w : World) (b : Nat) : (daO none 0 []).ok w b := OwM.nil _ _ _ _
theorem row_cell {w : World} {M id fl : Nat} {Aq : Option Addr} {cq : Nat} {lq : List QR} {rs : Nat → RW} (h : Vx w M 28 (mrow id fl Aq cq lq rs)) (i : Nat) (hi : i < 3) : w.cell? ⟨M, 3 + i, none⟩ = some (.slice (rs i).A (rs i).l.length (rs i).c) := by
  rw [h.cell]; exact mrow_get _ _ _ _ _ _ i hi
theorem fam_base {w : World} {b b2 : Nat} {R : Nat → Ob} {D : Ob → Prop} (h : Fam w b R D) (hb : b2 ≤ b) : Fam w b2 R D := ⟨fun i hi => OwM.mono (h.ok i hi) hb, fun o ho => OwM.mono (h.dn o ho) hb, h.ap, h.ne⟩
def x0 (g : Nat) : RR := ⟨some ⟨g, 0, none⟩, 1, none, 0, none, 0, Wg.recW 6⟩
theorem start_st {w3 W : World} {b id fl : Nat} {Aq : Option Addr} {cq : Nat} {lq : List QR} {rs : Nat → RW} (hf : Fam w3 b (rowF Aq cq lq rs) (DD lq rs)) (hb : b ≤ w3.heap.size)
    (hW : W = ((w3.alloc (.cells (mrow id fl Aq cq lq rs).toArray 28)).alloc (.cells (sc [[97]]).toArray 9)).alloc (.cells (x0 (w3.heap.size + 1)).cells.toArray 41)) :
    St W b w3.heap.size (w3.heap.size + 1 + 1) id fl Aq cq lq rs (fun o => o = nmO none 0 [] ∨ o = daO none 0 [] ∨ o = nmO (some ⟨w3.heap.size + 1, 0, none⟩) 1 [[97]] ∨ DD lq rs o) ∧ Vx W (w3.heap.size + 1 + 1) 41 (x0 (w3.heap.size + 1)).cells ∧ Below w3.heap.size w3 W ∧ W.heap.size = w3.heap.size + 3 := by
  obtain ⟨w4, h4⟩ : ∃ w4, w4 = w3.alloc (.cells (mrow id fl Aq cq lq rs).toArray 28) := ⟨_, rfl⟩
  obtain ⟨w5, h5⟩ : ∃ w5, w5 = w4.alloc (.cells (sc [[97]]).toArray 9) := ⟨_, rfl⟩
  rw [← h4, ← h5] at hW
  have z4 : w4.heap.size = w3.heap.size + 1 := by rw [h4]; simp
  have z5 : w5.heap.size = w3.heap.size + 1 + 1 := by rw [h5]; simp [z4]
  have zW : W.heap.size = w3.heap.size + 3 := by rw [hW]; simp [z5]
  have b4 : Below w3.heap.size w3 w4 := by rw [h4]; exact below_new _ _
  have b5 : Below w4.heap.size w4 w5 := by rw [h5]; exact below_new _ _
  have bW : Below w5.heap.size w5 W := by rw [hW]; exact below_new _ _
  have v4 : Vx w4 w3.heap.size 28 (mrow id fl Aq cq lq rs) := by rw [h4]; exact Vx.new _ _ _
  have vW : Vx W w5.heap.size 41 (x0 (w3.heap.size + 1)).cells := by rw [hW]; exact Vx.new _ _ _
  rw [z5] at vW
  have b45 := b5.trans (bW.mono b5.size)
  have b35 := b4.trans (b5.mono b4.size)
  have hnm : (nmO (some ⟨w3.heap.size + 1, 0, none⟩) 1 [[97]]).ok w5 w4.heap.size := by
    have := lit_ok w4 [[97]] 1 rfl (by omega)
    rw [z4, ← h5] at this
    rw [z4]; exact this
  have hF := (((hf.far b4).add (nmO (some ⟨w3.heap.size + 1, 0, none⟩) 1 [[97]]) b5 hnm (by omega)).add (daO none 0 []) (Below.refl _ _) (nil_da _ _) (by omega)).add (nmO none 0 []) (Below.refl _ _) (nil_nm _ _) (by omega)
  refine ⟨⟨v4.below b45 v4.lt, hF.far bW, fun o ho => Or.inr (Or.inr (Or.inr ho)), fun i hi => ?_, fun o ho => ?_, ?_⟩, vW, b35.trans (bW.mono b35.size), zW⟩
  · have h1 := OwM.block_lt (hf.ok i hi)
    exact ⟨fun e => by have := h1 _ e; omega, fun e => by have := h1 _ e; omega⟩
  · rcases ho with rfl | rfl | rfl | ho
    · exact ⟨fun e => by simp [nmO, Value.ownBlock] at e, fun e => by simp [nmO, Value.ownBlock] at e⟩
    · exact ⟨fun e => by simp [daO, Value.ownBlock] at e, fun e => by simp [daO, Value.ownBlock] at e⟩
    · refine ⟨fun e => ?_, fun e => ?_⟩
      · have : w3.heap.size + 1 = w3.heap.size := by simp [nmO, Value.ownBlock] at e
        omega
      · have : w3.heap.size + 1 = w3.heap.size + 1 + 1 := by simp [nmO, Value.ownBlock] at e
        omega
    · have h1 := OwM.block_lt (hf.dn o ho)
      exact ⟨fun e => by have := h1 _ e; omega, fun e => by have := h1 _ e; omega⟩
  · omega
theorem gr_below {w w' : World} (h : Below w.heap.size w w') {v v' : Value} (hv : ∀ g, v'.ownBlock = some g → w.heap.size ≤ g) : Gr w w' v v' :=
  ⟨⟨h.os, h.tape, h.output, h.size, fun i hi _ => h.block i hi⟩, fun g hg => Or.inr (hv g hg)⟩
theorem six_join {w W w7 : World} {b M R id fl k j : Nat} {Aq : Option Addr} {cq : Nat} {lq : List QR} {rs : Nat → RW} {D : Ob → Prop} {x : RR} {l2 : List RR} (hl2 : l2 = (rs j).l ++ List.replicate 256 x) (hx : x.r = Wg.recW 6) (hst : St W b M R id fl Aq cq lq rs D) (hv : Vx W R 41 x.cells) (hbl : Below w.heap.size w W) (hwM : w.heap.size ≤ M) (hj : j = (k + 1) % 3) (hb7 : Below W.heap.size W w7)
    {A7 : Option Addr} {c7 : Nat} (ho7 : OwM w7 W.heap.size 41 9 (.slice A7 l2.length c7) l2.length (rcs l2)) (hD : ∀ o, parts x o → D o) :
    Join w (w7.setCell ⟨M, 3 + j, none⟩ (.slice A7 l2.length c7)) b M R id fl Aq cq lq rs k 6 x (updF rs j ⟨A7, c7, l2⟩) D := by
  have hl := hl2
  have hj3 : j < 3 := by omega
  have hM := hst.lt
  obtain ⟨h1, h2⟩ := hst.app hj3 (Below.refl _ _) A7 c7 l2 (fun o ho => by
    obtain ⟨y, hy, ho⟩ := ho
    rw [hl] at hy
    rcases List.mem_append.1 hy with hy | hy
    · exact hst.dd o (Or.inr ⟨j, hj3, y, hy, ho⟩)
    · rw [List.eq_of_mem_replicate hy] at ho; exact hD o ho) (gr_below hb7 (fun g hg => OwM.lt ho7 g hg)) (OwM.mono ho7 (by omega))
  refine ⟨h1, h2 _ hv, hD, hx, Or.inr ⟨rfl, A7, c7, ?_⟩, (hbl.trans (hb7.mono hbl.size)).setCell (by show w.heap.size ≤ M; omega) _⟩
  subst hj; rw [hl]
/-- two rows of records in a row of slices -/
def Two (w : World) (q : Nat) (A : Option Addr) (c : Nat) (l : List RR) (g : Nat) (l2 : List RR) : Prop := RsO w w.heap.size (some ⟨q, 0, none⟩) 2 [⟨A, c, l⟩, ⟨some ⟨g, 0, none⟩, 256, l2⟩]
theorem two_mk (w : World) (A : Option Addr) (c : Nat) (l : List RR) (g : Nat) (l2 : List RR) (h1 : Rd w w.heap.size A (l.length * 9) (rcs l)) (h2 : Rd w w.heap.size (some ⟨g, 0, none⟩) (256 * 9) (rcs l2)) (hl : l2.length = 256) :
    Two (w.alloc (.cells #[.slice A l.length c, .slice (some ⟨g, 0, none⟩) 256 256] 25)) w.heap.size A c l g l2 := by
  have hn := below_new w (.cells #[.slice A l.length c, .slice (some ⟨g, 0, none⟩) 256 256] 25)
  refine ⟨?_, rfl, fun r hr => ?_⟩
  · have hv := Vx.new w 25 [.slice A l.length c, .slice (some ⟨g, 0, none⟩) 256 256]
    refine ⟨rfl, fun _ => ⟨w.heap.size, 0, rfl, hv.lt, fun j u hu => ?_⟩⟩
    rw [Nat.zero_add]
    refine (hv.cell j).trans ?_
    simpa [ORow.v, hl] using hu
  · simp only [List.mem_cons, List.not_mem_nil, or_false] at hr
    rcases hr with rfl | rfl
    · exact (h1.below hn).more hn.size
    · show Rd _ _ _ (l2.length * 9) _
      rw [hl]; exact (h2.below hn).more hn.size
theorem flat2 (A A2 : Option Addr) (c c2 : Nat) (l l2 : List RR) : flatR [⟨A, c, l⟩, ⟨A2, c2, l2⟩] = l ++ l2 := by simp [flatR]
/-! ### what is written -/
theorem made_ok {m : Ms} (hr : rightM m = true) (hk : okM m) : (∀ q ∈ m.qs, rightN q.nm = true ∧ okQ q) ∧ (∀ r ∈ m.r0, okT r) ∧ (∀ r ∈ m.r1, okT r) ∧ (∀ r ∈ m.r2, okT r) := by
  unfold rightM at hr
  simp only [Bool.and_eq_true, List.all_eq_true] at hr
  obtain ⟨a, b, c, d⟩ := hr
  exact ⟨fun q hq => ⟨a q hq, hk.qs q hq⟩, fun r h => okT_right (b r h) (hk.r0 r h), fun r h => okT_right (c r h) (hk.r1 r h), fun r h => okT_right (d r h) (hk.r2 r h)⟩
section
variable {w wx : World} {b M R id fl k v : Nat} {Aq : Option Addr} {cq : Nat} {lq : List QR} {rs rs' : Nat → RW} {D : Ob → Prop} {x : RR}
theorem Join.len (h : Join w wx b M R id fl Aq cq lq rs k v x rs' D) (hr : ∀ i, (rs i).l.length ≤ 10) (i : Nat) : (rs' i).l.length ≤ 266 := by
  rcases h.ms with ⟨_, e⟩ | ⟨_, A, c, e⟩
  · rw [e]; have := hr i; omega
  · rw [e]
    by_cases e2 : i = (k + 1) % 3
    · subst e2; rw [updF_same]; simp only [List.length_append, List.length_replicate]; have := hr ((k + 1) % 3); omega
    · rw [updF_ne _ _ e2]; have := hr i; omega
theorem Join.wr (h : Join w wx b M R id fl Aq cq lq rs k v x rs' D) (hk : k < 3) (hv : v < 8) {m : Ms} (hm : msOf id fl (lq.map QR.q) (fun i => (rs i).l.map RR.r) = m) (hr : rightM m = true) (hn : m.num ≤ 10) (A2 : Option Addr) (c2 : Nat) :
    writeM (mr id fl Aq cq lq (updF rs' k ⟨A2, c2, (rs' k).l ++ [x]⟩)).m = ([], errW v) := by
  have e1 : (mr id fl Aq cq lq (updF rs' k ⟨A2, c2, (rs' k).l ++ [x]⟩)).m = Wg.addM (msOf id fl (lq.map QR.q) (fun i => (rs' i).l.map RR.r)) k [Wg.recW v] := by
    rw [mr_m, map_upd, List.map_append, add_rows _ _ _ _ _ hk, ← h.xr]; rfl
  rw [e1]
  rcases h.ms with ⟨hv6, e⟩ | ⟨hv6, A, c, e⟩
  · rw [e, hm]
    rcases Nat.lt_or_ge v 6 with h6 | h6
    · rw [Wg.wrong_bad m k v h6]
      unfold errW
      rw [if_neg (by omega), if_neg (by omega)]
    · obtain rfl : v = 7 := by omega
      rw [Wg.wrong_long m k hr hn]; rfl
  · subst hv6
    rw [e, map_upd, List.map_append, ← add_rows _ _ _ _ _ (Nat.mod_lt _ (by omega)), hm, List.map_replicate, h.xr, Wg.wrong_many m _ k hr]; rfl
theorem Join.rd {W2 : World} (h : Join w wx b M R id fl Aq cq lq rs k v x rs' D) (hk : k < 3) {m : Ms} (hm : msOf id fl (lq.map QR.q) (fun i => (rs i).l.map RR.r) = m) (hr : rightM m = true) (ho : okM m) (hid : id < 65536) (hfl : fl < 65536) (hql : lq.length ≤ 10) (hl : ∀ i, (rs i).l.length ≤ 10) (A2 : Option Addr) (c2 : Nat)
    (hs : St W2 b M R id fl Aq cq lq (updF rs' k ⟨A2, c2, (rs' k).l ++ [x]⟩) D) : MRd W2 W2.heap.size (mr id fl Aq cq lq (updF rs' k ⟨A2, c2, (rs' k).l ++ [x]⟩)) := by
  obtain ⟨a, a0, a1, a2⟩ := made_ok hr ho
  have hrs : ∀ i, i < 3 → ∀ z ∈ (rs i).l, okT z.r := fun i hi z hz => by
    rcases (show i = 0 ∨ i = 1 ∨ i = 2 by omega) with rfl | rfl | rfl
    · exact a0 z.r (by rw [← hm]; exact List.mem_map_of_mem hz)
    · exact a1 z.r (by rw [← hm]; exact List.mem_map_of_mem hz)
    · exact a2 z.r (by rw [← hm]; exact List.mem_map_of_mem hz)
  have hx : okT x.r := by rw [h.xr]; exact okT_way v
  have hrs' : ∀ i, i < 3 → ∀ z ∈ (rs' i).l, okT z.r := fun i hi z hz => by
    rcases h.ms with ⟨_, e⟩ | ⟨_, A, c, e⟩
    · rw [e] at hz; exact hrs i hi z hz
    · rw [e] at hz
      by_cases e2 : i = (k + 1) % 3
      · subst e2
        rw [updF_same] at hz
        rcases List.mem_append.1 hz with hz | hz
        · exact hrs _ hi z hz
        · rw [List.eq_of_mem_replicate hz]; exact hx
      · rw [updF_ne _ _ e2] at hz; exact hrs i hi z hz
  refine hs.rd hid hfl (fun q hq => a q.q (by rw [← hm]; exact List.mem_map_of_mem hq)) hql (fun i hi z hz => ?_) (fun i hi => ?_)
  · by_cases e : i = k
    · subst e
      rw [updF_same] at hz
      rcases List.mem_append.1 hz with hz | hz
      · exact hrs' i hi z hz
      · rw [List.mem_singleton.1 hz]; exact hx
    · rw [updF_ne _ _ e] at hz; exact hrs' i hi z hz
  · have h1 := h.len hl i
    by_cases e : i = k
    · subst e; rw [updF_same]; simp only [List.length_append, List.length_singleton]; omega
    · rw [updF_ne _ _ e]; omega
end
end Wn
set_option maxRecDepth 100000 in
set_option maxHeartbeats 8000000 in
theorem dnsWrong_any (id fl : Nat) (A1 : Option Addr) (c1 : Nat) (l1 : List SmR) (way sec : Nat) (w : World) (hid : id < 65536) (hfl : fl < 65536)
    (h1 : Rd w w.heap.size A1 (l1.length * 9) (l1.flatMap SmR.cells)) (hc1 : l1.length ≤ c1) (hx1 : ∀ x ∈ l1, SRd w w.heap.size x) (hway : way < 256) (hsec : sec < 256) :
    Calls Try.prog 4 #[.int .u16 (id : Int), .int .u16 (fl : Int), .slice A1 l1.length c1, .int .u8 (way : Int), .int .u8 (sec : Int)] w fun e w' => e = .returned (.bool true) ∧ Below w.heap.size w w' := by
  obtain ⟨k, hk⟩ : ∃ k, k = sec % 3 := ⟨_, rfl⟩
  obtain ⟨v, hv⟩ : ∃ v, v = way % 8 := ⟨_, rfl⟩
  have hk3 : k < 3 := by omega
  have hv8 : v < 8 := by omega
  have hkI : (sec : Int) % 3 = (k : Int) := by omega
  have hvI : (way : Int) % 8 = (v : Int) := by omega
  have HKI := Lib.hid hkI
  have HVI := Lib.hid hvI
  clear hk hv hkI hvI
  have hok : ∀ s ∈ l1.map SmR.s, okS s := okS_map hx1
  obtain ⟨mr0, mk0, mn0, ml0, mw0, mb0⟩ := madeM_all id fl (l1.map SmR.s) hid hfl hok
  have HX1 := Lib.hid hx1
  have HR1 := Lib.hid h1
  have HMR := Lib.hid mr0
  have HMK := Lib.hid mk0
  have HMN := Lib.hid mn0
  clear hok mr0 mk0 mn0 ml0 mw0 mb0 hx1 h1
  go_enter Try.func4, Try.ntmps4
  go_upto_block 0 with (first
    | (go_at_call 12
       refine (dmade_fam id fl A1 c1 l1 w2 ((HR1.out.below hb2).more hb2.size) hc1 (fun x hx => ((HX1.out x hx).below hb2).more hb2.size)).mono ?_
       rintro e w3 ⟨M0, Aq, cq, lq, rs, hm3, rfl, hf3, hM3, hq3, hr3, hb3⟩
       unfold mrow RW.v
       dsimp only)
    | (go_at_call 11
       refine (dawake_any _).mono ?_
       rintro e w2 ⟨rfl, hb2⟩))
  rw [HKI.out]
  have hf3' := Wn.fam_base hf3 (b2 := w2.heap.size) (by omega)
  generalize hW : World.alloc (World.alloc (World.alloc w3 _) _) _ = W
  obtain ⟨hst, hvr, hbW, hsz⟩ := Wn.start_st hf3' hb3.size hW.symm
  have hbl := hb2.trans ((hb3.mono hb2.size).trans (hbW.mono (Nat.le_trans hb2.size hb3.size)))
  have hwM : w.heap.size ≤ w3.heap.size := Nat.le_trans hb2.size hb3.size
  have hw2 : w.heap.size ≤ w2.heap.size := hb2.size
  obtain ⟨M, hM⟩ : ∃ M, M = w3.heap.size := ⟨_, rfl⟩
  rw [← hM] at hst hvr hsz hwM
  rw [← hM]
  have HM := Lib.hid hm3
  have HST := Lib.hid hst
  have HVR := Lib.hid hvr
  have HBL := Lib.hid hbl
  have HR3 := Lib.hid hr3
  clear hm3 hst hvr hbl hr3 hf3 hf3' hW hb3 hbW hb2 hM HR1 HX1 HKI hM3
  go_cut [13] from 29 to 78 (fun v13 wx => ∃ (x : RR) (rs' : Nat → RW) (D : Ob → Prop), v13 = .int .i64 ((Wn.errW v : Nat) : Int) ∧ Hid (Wn.Join w wx w2.heap.size M (M + 1 + 1) id fl Aq cq lq rs k v x rs' D))
  case first =>
    have hR := HST.out.lt
    have hD1 : ∀ o, o = nmO none 0 [] ∨ o = daO none 0 [] ∨ o = nmO (some ⟨M + 1, 0, none⟩) 1 [[97]] → (fun o => o = nmO none 0 [] ∨ o = daO none 0 [] ∨ o = nmO (some ⟨M + 1, 0, none⟩) 1 [[97]] ∨ DD lq rs o) o := fun o ho => by
      rcases ho with h | h | h
      · exact Or.inl h
      · exact Or.inr (Or.inl h)
      · exact Or.inr (Or.inr (Or.inl h))
    have HD := Lib.hid hD1
    clear hD1
    have hvI := HVI.out
    clear HVI
    rcases (show v = 0 ∨ v = 1 ∨ v = 2 ∨ v = 3 ∨ v = 4 ∨ v = 5 ∨ v = 6 ∨ v = 7 by omega) with rfl | rfl | rfl | rfl | rfl | rfl | rfl | rfl
    · have h0 := (HST.out.setR 0 (.slice (some ⟨M + 3, 0, none⟩) 2 2))
      have v0 := (HVR.out.set_ 0 (.slice (some ⟨M + 3, 0, none⟩) 2 2))
      have b0 := (HBL.out.setCell (p := ⟨M + 1 + 1, 0, none⟩) (by show w.heap.size ≤ M + 1 + 1; omega) (.slice (some ⟨M + 3, 0, none⟩) 2 2))
      have c0 := HVR.out.cell 0
      have g0 := HVR.out.free 0
      have hz : (W.setCell ⟨M + 1 + 1, 0, none⟩ (.slice (some ⟨M + 3, 0, none⟩) 2 2)).heap.size = M + 3 := by simp [hsz]
      have hn := below_new (W.setCell ⟨M + 1 + 1, 0, none⟩ (.slice (some ⟨M + 3, 0, none⟩) 2 2)) (.cells (sc [[97], []]).toArray 9)
      have h1 := h0.more hn (Wn.lit_ok2 (W.setCell ⟨M + 1 + 1, 0, none⟩ (.slice (some ⟨M + 3, 0, none⟩) 2 2)) [[97], []] 2 (M + 3) hz.symm rfl (by omega))
      have v1 := v0.below hn v0.lt
      have b1 := b0.trans (hn.mono b0.size)
      have a0 := (HVR.out.alloc (.cells (sc [[97], []]).toArray 9)).cell 0
      have f0 := (HVR.out.alloc (.cells (sc [[97], []]).toArray 9)).free 0
      have HJ := Lib.hid (⟨h1, v1, (fun o ho => by rcases ho with h | h | h; exact Or.inl h; exact Or.inr (HD.out o (Or.inr (Or.inl h))); exact Or.inr (HD.out o (Or.inl h))), rfl, Or.inl ⟨by omega, rfl⟩, b1⟩ : Wn.Join w _ w2.heap.size M (M + 1 + 1) id fl Aq cq lq rs k 0 ⟨(some ⟨M + 3, 0, none⟩), 2, none, 0, none, 0, Wg.recW 0⟩ rs _)
      clear h0 h1 v0 v1 b0 b1 hn hz
      simp only [Wn.x0, Wg.recW, RR.cells, List.getElem?_cons_zero, List.getElem?_cons_succ, List.length_cons, List.length_nil] at a0 c0
      go_wp2_with fail
      go_meet
      case rel => exact ⟨_, _, _, rfl, HJ⟩
    · have h0 := (HST.out.setR 7 (.int .u16 1))
      have v0 := (HVR.out.set_ 7 (.int .u16 1))
      have b0 := (HBL.out.setCell (p := ⟨M + 1 + 1, 7, none⟩) (by show w.heap.size ≤ M + 1 + 1; omega) (.int .u16 1))
      have c7 := HVR.out.cell 7
      have g7 := HVR.out.free 7
      have HJ := Lib.hid (⟨h0, v0, (fun o ho => by rcases ho with h | h | h; exact HD.out o (Or.inr (Or.inr h)); exact HD.out o (Or.inr (Or.inl h)); exact HD.out o (Or.inl h)), rfl, Or.inl ⟨by omega, rfl⟩, b0⟩ : Wn.Join w _ w2.heap.size M (M + 1 + 1) id fl Aq cq lq rs k 1 ⟨some ⟨M + 1, 0, none⟩, 1, none, 0, none, 0, Wg.recW 1⟩ rs _)
      clear h0 v0 b0
      simp only [Wn.x0, Wg.recW, RR.cells, List.getElem?_cons_zero, List.getElem?_cons_succ, List.length_cons, List.length_nil] at c7
      go_wp2_with fail
      go_meet
      case rel => exact ⟨_, _, _, rfl, HJ⟩
    · have h0 := (HST.out.setR 8 (.slice (some ⟨M + 3, 0, none⟩) 1 1))
      have v0 := (HVR.out.set_ 8 (.slice (some ⟨M + 3, 0, none⟩) 1 1))
      have b0 := (HBL.out.setCell (p := ⟨M + 1 + 1, 8, none⟩) (by show w.heap.size ≤ M + 1 + 1; omega) (.slice (some ⟨M + 3, 0, none⟩) 1 1))
      have c8 := HVR.out.cell 8
      have g8 := HVR.out.free 8
      have hz : (W.setCell ⟨M + 1 + 1, 8, none⟩ (.slice (some ⟨M + 3, 0, none⟩) 1 1)).heap.size = M + 3 := by simp [hsz]
      have hn := below_new (W.setCell ⟨M + 1 + 1, 8, none⟩ (.slice (some ⟨M + 3, 0, none⟩) 1 1)) (.cells (sc [[97]]).toArray 9)
      have h1 := h0.more hn (Wn.lit_ok2 (W.setCell ⟨M + 1 + 1, 8, none⟩ (.slice (some ⟨M + 3, 0, none⟩) 1 1)) [[97]] 1 (M + 3) hz.symm rfl (by omega))
      have v1 := v0.below hn v0.lt
      have b1 := b0.trans (hn.mono b0.size)
      have a8 := (HVR.out.alloc (.cells (sc [[97]]).toArray 9)).cell 8
      have f8 := (HVR.out.alloc (.cells (sc [[97]]).toArray 9)).free 8
      have HJ := Lib.hid (⟨h1, v1, (fun o ho => by rcases ho with h | h | h; exact Or.inr (HD.out o (Or.inr (Or.inr h))); exact Or.inr (HD.out o (Or.inr (Or.inl h))); exact Or.inl h), rfl, Or.inl ⟨by omega, rfl⟩, b1⟩ : Wn.Join w _ w2.heap.size M (M + 1 + 1) id fl Aq cq lq rs k 2 ⟨some ⟨M + 1, 0, none⟩, 1, none, 0, (some ⟨M + 3, 0, none⟩), 1, Wg.recW 2⟩ rs _)
      clear h0 h1 v0 v1 b0 b1 hn hz
      simp only [Wn.x0, Wg.recW, RR.cells, List.getElem?_cons_zero, List.getElem?_cons_succ, List.length_cons, List.length_nil] at a8 c8
      go_wp2_with fail
      go_meet
      case rel => exact ⟨_, _, _, rfl, HJ⟩
    · have h0 := (HST.out.setR 4 (.slice (some ⟨M + 3, 0, none⟩) 4097 4097))
      have v0 := (HVR.out.set_ 4 (.slice (some ⟨M + 3, 0, none⟩) 4097 4097))
      have b0 := (HBL.out.setCell (p := ⟨M + 1 + 1, 4, none⟩) (by show w.heap.size ≤ M + 1 + 1; omega) (.slice (some ⟨M + 3, 0, none⟩) 4097 4097))
      have c4 := HVR.out.cell 4
      have g4 := HVR.out.free 4
      have hz : (W.setCell ⟨M + 1 + 1, 4, none⟩ (.slice (some ⟨M + 3, 0, none⟩) 4097 4097)).heap.size = M + 3 := by simp [hsz]
      have hn := below_new (W.setCell ⟨M + 1 + 1, 4, none⟩ (.slice (some ⟨M + 3, 0, none⟩) 4097 4097)) (.cells (bc (List.replicate 4097 0)).toArray 5)
      have h1 := h0.more hn (Wn.dat_ok2 (W.setCell ⟨M + 1 + 1, 4, none⟩ (.slice (some ⟨M + 3, 0, none⟩) 4097 4097)) (List.replicate 4097 0) 4097 (M + 3) hz.symm (by rw [List.length_replicate]) (by omega))
      have v1 := v0.below hn v0.lt
      have b1 := b0.trans (hn.mono b0.size)
      have a4 := (HVR.out.alloc (.cells (bc (List.replicate 4097 0)).toArray 5)).cell 4
      have f4 := (HVR.out.alloc (.cells (bc (List.replicate 4097 0)).toArray 5)).free 4
      have HJ := Lib.hid (⟨h1, v1, (fun o ho => by rcases ho with h | h | h; exact Or.inr (HD.out o (Or.inr (Or.inr h))); exact Or.inl h; exact Or.inr (HD.out o (Or.inl h))), rfl, Or.inl ⟨by omega, rfl⟩, b1⟩ : Wn.Join w _ w2.heap.size M (M + 1 + 1) id fl Aq cq lq rs k 3 ⟨some ⟨M + 1, 0, none⟩, 1, (some ⟨M + 3, 0, none⟩), 4097, none, 0, Wg.recW 3⟩ rs _)
      clear h0 h1 v0 v1 b0 b1 hn hz
      have hmk : ∀ W : World, (Instr.makeSlice 22 (.int .i64 4097) (.int .i64 4097)).run Try.prog W = .ok (.slice (some ⟨W.heap.size, 0, none⟩) 4097 4097) (W.alloc (.cells (bc (List.replicate 4097 0)).toArray 5)) := Wn.made_bytes 4097 (by omega)
      generalize hzz : bc (List.replicate 4097 0) = zz at hmk HJ
      simp only [Wn.x0, Wg.recW, RR.cells, List.getElem?_cons_zero, List.getElem?_cons_succ, List.length_cons, List.length_nil] at a4 c4
      go_wp2_with fail
      go_meet
      case rel => exact ⟨_, _, _, rfl, HJ⟩
    · have h0 := ((HST.out.setR 1 (.int .u16 33)).setR 4 (.slice (some ⟨M + 3, 0, none⟩) 1 1))
      have v0 := ((HVR.out.set_ 1 (.int .u16 33)).set_ 4 (.slice (some ⟨M + 3, 0, none⟩) 1 1))
      have b0 := ((HBL.out.setCell (p := ⟨M + 1 + 1, 1, none⟩) (by show w.heap.size ≤ M + 1 + 1; omega) (.int .u16 33)).setCell (p := ⟨M + 1 + 1, 4, none⟩) (by show w.heap.size ≤ M + 1 + 1; omega) (.slice (some ⟨M + 3, 0, none⟩) 1 1))
      have c1 := HVR.out.cell 1
      have g1 := HVR.out.free 1
      have c4 := HVR.out.cell 4
      have g4 := HVR.out.free 4
      have hz : ((W.setCell ⟨M + 1 + 1, 1, none⟩ (.int .u16 33)).setCell ⟨M + 1 + 1, 4, none⟩ (.slice (some ⟨M + 3, 0, none⟩) 1 1)).heap.size = M + 3 := by simp [hsz]
      have hn := below_new ((W.setCell ⟨M + 1 + 1, 1, none⟩ (.int .u16 33)).setCell ⟨M + 1 + 1, 4, none⟩ (.slice (some ⟨M + 3, 0, none⟩) 1 1)) (.cells (bc [1]).toArray 5)
      have h1 := h0.more hn (Wn.dat_ok2 ((W.setCell ⟨M + 1 + 1, 1, none⟩ (.int .u16 33)).setCell ⟨M + 1 + 1, 4, none⟩ (.slice (some ⟨M + 3, 0, none⟩) 1 1)) [1] 1 (M + 3) hz.symm rfl (by omega))
      have v1 := v0.below hn v0.lt
      have b1 := b0.trans (hn.mono b0.size)
      have a1 := (HVR.out.alloc (.cells (bc [1]).toArray 5)).cell 1
      have f1 := (HVR.out.alloc (.cells (bc [1]).toArray 5)).free 1
      have a4 := (HVR.out.alloc (.cells (bc [1]).toArray 5)).cell 4
      have f4 := (HVR.out.alloc (.cells (bc [1]).toArray 5)).free 4
      have HJ := Lib.hid (⟨h1, v1, (fun o ho => by rcases ho with h | h | h; exact Or.inr (HD.out o (Or.inr (Or.inr h))); exact Or.inl h; exact Or.inr (HD.out o (Or.inl h))), rfl, Or.inl ⟨by omega, rfl⟩, b1⟩ : Wn.Join w _ w2.heap.size M (M + 1 + 1) id fl Aq cq lq rs k 4 ⟨some ⟨M + 1, 0, none⟩, 1, (some ⟨M + 3, 0, none⟩), 1, none, 0, Wg.recW 4⟩ rs _)
      clear h0 h1 v0 v1 b0 b1 hn hz
      simp only [Wn.x0, Wg.recW, RR.cells, List.getElem?_cons_zero, List.getElem?_cons_succ, List.length_cons, List.length_nil] at a1 c1 a4 c4
      go_wp2_with fail
      go_meet
      case rel => exact ⟨_, _, _, rfl, HJ⟩
    · have h0 := ((HST.out.setR 1 (.int .u16 33)).setR 8 (.slice (some ⟨M + 3, 0, none⟩) 1 1))
      have v0 := ((HVR.out.set_ 1 (.int .u16 33)).set_ 8 (.slice (some ⟨M + 3, 0, none⟩) 1 1))
      have b0 := ((HBL.out.setCell (p := ⟨M + 1 + 1, 1, none⟩) (by show w.heap.size ≤ M + 1 + 1; omega) (.int .u16 33)).setCell (p := ⟨M + 1 + 1, 8, none⟩) (by show w.heap.size ≤ M + 1 + 1; omega) (.slice (some ⟨M + 3, 0, none⟩) 1 1))
      have c1 := HVR.out.cell 1
      have g1 := HVR.out.free 1
      have c8 := HVR.out.cell 8
      have g8 := HVR.out.free 8
      have hz : ((W.setCell ⟨M + 1 + 1, 1, none⟩ (.int .u16 33)).setCell ⟨M + 1 + 1, 8, none⟩ (.slice (some ⟨M + 3, 0, none⟩) 1 1)).heap.size = M + 3 := by simp [hsz]
      have hn := below_new ((W.setCell ⟨M + 1 + 1, 1, none⟩ (.int .u16 33)).setCell ⟨M + 1 + 1, 8, none⟩ (.slice (some ⟨M + 3, 0, none⟩) 1 1)) (.cells (sc [[65]]).toArray 9)
      have h1 := h0.more hn (Wn.lit_ok2 ((W.setCell ⟨M + 1 + 1, 1, none⟩ (.int .u16 33)).setCell ⟨M + 1 + 1, 8, none⟩ (.slice (some ⟨M + 3, 0, none⟩) 1 1)) [[65]] 1 (M + 3) hz.symm rfl (by omega))
      have v1 := v0.below hn v0.lt
      have b1 := b0.trans (hn.mono b0.size)
      have a1 := (HVR.out.alloc (.cells (sc [[65]]).toArray 9)).cell 1
      have f1 := (HVR.out.alloc (.cells (sc [[65]]).toArray 9)).free 1
      have a8 := (HVR.out.alloc (.cells (sc [[65]]).toArray 9)).cell 8
      have f8 := (HVR.out.alloc (.cells (sc [[65]]).toArray 9)).free 8
      have HJ := Lib.hid (⟨h1, v1, (fun o ho => by rcases ho with h | h | h; exact Or.inr (HD.out o (Or.inr (Or.inr h))); exact Or.inr (HD.out o (Or.inr (Or.inl h))); exact Or.inl h), rfl, Or.inl ⟨by omega, rfl⟩, b1⟩ : Wn.Join w _ w2.heap.size M (M + 1 + 1) id fl Aq cq lq rs k 5 ⟨some ⟨M + 1, 0, none⟩, 1, none, 0, (some ⟨M + 3, 0, none⟩), 1, Wg.recW 5⟩ rs _)
      clear h0 h1 v0 v1 b0 b1 hn hz
      simp only [Wn.x0, Wg.recW, RR.cells, List.getElem?_cons_zero, List.getElem?_cons_succ, List.length_cons, List.length_nil] at a1 c1 a8 c8
      go_wp2_with fail
      go_meet
      case rel => exact ⟨_, _, _, rfl, HJ⟩
    · skip
      obtain ⟨j, hj⟩ : ∃ j, j = (k + 1) % 3 := ⟨_, rfl⟩
      have hj3 : j < 3 := by omega
      have HJ0 := Lib.hid hj
      have hwk : IntKind.i64.wrap ((k : Int) + 1) = (k : Int) + 1 := by rw [IntKind.wrap_i64]; omega
      have hwt : ((k : Int) + 1).tmod 3 = (j : Int) := by rw [Int.tmod_eq_emod_of_nonneg (by omega)]; omega
      clear hj
      have hjI : (j : Int) < 3 := by omega
      have HLJ := Lib.hid (HR3.out j)
      go_upto_region 23 with fail
      clear HR3 HM HMR HMK HMN
      have hvr : Vx W (M + 1 + 1) 41 [.slice (some ⟨M + 1, 0, none⟩) 1 1, .int .u16 1, .int .u16 1, .int .u32 0, .slice none 0 0, .int .u16 0, .int .u16 0, .int .u16 0, .slice none 0 0] := HVR.out
      have HV0 := Lib.hid hvr
      clear hvr
      have HS0 := HST
      have hn4 : Below W.heap.size W (W.alloc (.cells #[.slice (some ⟨M + 1, 0, none⟩) 1 1, .int .u16 1, .int .u16 1, .int .u32 0, .slice none 0 0, .int .u16 0, .int .u16 0, .int .u16 0, .slice none 0 0] 41)).drew := (below_new W _).drew
      have HN4 := Lib.hid hn4
      have HS1 := Lib.hid (HST.out.far hn4)
      have HV1 := Lib.hid (HV0.out.below hn4 HV0.out.lt)
      have HQ4 : Hid (M + 3 < (W.alloc (.cells #[.slice (some ⟨M + 1, 0, none⟩) 1 1, .int .u16 1, .int .u16 1, .int .u32 0, .slice none 0 0, .int .u16 0, .int .u16 0, .int .u16 0, .slice none 0 0] 41)).drew.heap.size) := Lib.hid (by show M + 3 < (W.alloc _).heap.size; simp [hsz])
      have HC4 : Hid (∀ (i : Nat) (u : Value), (Wn.x0 (M + 1)).cells[i]? = some u → (W.alloc (.cells #[.slice (some ⟨M + 1, 0, none⟩) 1 1, .int .u16 1, .int .u16 1, .int .u32 0, .slice none 0 0, .int .u16 0, .int .u16 0, .int .u16 0, .slice none 0 0] 41)).drew.cell? ⟨M + 3, i, none⟩ = some u) := Lib.hid (fun i u hu => by rw [← hsz]; exact ((Vx.new W 41 (Wn.x0 (M + 1)).cells).cell i).trans hu)
      clear hn4
      refine wp_region_held_drew (S := fun W1 => Vx W1 (M + 1 + 1) 41 [.slice (some ⟨M + 1, 0, none⟩) 1 1, .int .u16 1, .int .u16 1, .int .u32 0, .slice none 0 0, .int .u16 0, .int .u16 0, .int .u16 0, .slice none 0 0]) (by kernel_rfl) HV0.out.drew (fun hH => ?_)
      refine reg_take 0 (v := ?_) rfl (by kernel_rfl) (fun _ _ _ h => h) (by rfl) hH ?_ ?_
      rotate_left
      · intro w hSw; (try dsimp only at hSw); go_simp; (try with_reducible rfl)
      (try simp only [Act.put, List.setIfInBounds_toArray, List.set_cons_zero, List.set_cons_succ])
      refine reg_take 1 (v := ?_) rfl (by kernel_rfl) (fun _ _ _ h => h) (by rfl) hH ?_ ?_
      rotate_left
      · intro w hSw; (try dsimp only at hSw); go_simp; (try with_reducible rfl)
      (try simp only [Act.put, List.setIfInBounds_toArray, List.set_cons_zero, List.set_cons_succ])
      refine reg_take 2 (v := ?_) rfl (by kernel_rfl) (fun _ _ _ h => h) (by rfl) hH ?_ ?_
      rotate_left
      · intro w hSw; (try dsimp only at hSw); go_simp; (try with_reducible rfl)
      (try simp only [Act.put, List.setIfInBounds_toArray, List.set_cons_zero, List.set_cons_succ])
      refine reg_take 3 (v := ?_) rfl (by kernel_rfl) (fun _ _ _ h => h) (by rfl) hH ?_ ?_
      rotate_left
      · intro w hSw; (try dsimp only at hSw); go_simp; (try with_reducible rfl)
      (try simp only [Act.put, List.setIfInBounds_toArray, List.set_cons_zero, List.set_cons_succ])
      refine reg_take 4 (v := ?_) rfl (by kernel_rfl) (fun _ _ _ h => h) (by rfl) hH ?_ ?_
      rotate_left
      · intro w hSw; (try dsimp only at hSw); go_simp; (try with_reducible rfl)
      (try simp only [Act.put, List.setIfInBounds_toArray, List.set_cons_zero, List.set_cons_succ])
      refine reg_take 5 (v := ?_) rfl (by kernel_rfl) (fun _ _ _ h => h) (by rfl) hH ?_ ?_
      rotate_left
      · intro w hSw; (try dsimp only at hSw); go_simp; (try with_reducible rfl)
      (try simp only [Act.put, List.setIfInBounds_toArray, List.set_cons_zero, List.set_cons_succ])
      refine reg_take 6 (v := ?_) rfl (by kernel_rfl) (fun _ _ _ h => h) (by rfl) hH ?_ ?_
      rotate_left
      · intro w hSw; (try dsimp only at hSw); go_simp; (try with_reducible rfl)
      (try simp only [Act.put, List.setIfInBounds_toArray, List.set_cons_zero, List.set_cons_succ])
      refine reg_take 7 (v := ?_) rfl (by kernel_rfl) (fun _ _ _ h => h) (by rfl) hH ?_ ?_
      rotate_left
      · intro w hSw; (try dsimp only at hSw); go_simp; (try with_reducible rfl)
      (try simp only [Act.put, List.setIfInBounds_toArray, List.set_cons_zero, List.set_cons_succ])
      refine reg_load 9 rfl (by kernel_rfl) 41 _ (by rfl) (M + 1 + 1) 41 [.slice (some ⟨M + 1, 0, none⟩) 1 1, .int .u16 1, .int .u16 1, .int .u32 0, .slice none 0 0, .int .u16 0, .int .u16 0, .int .u16 0, .slice none 0 0] _ (fun _ _ _ h => h) (by rfl) hH (by rfl) (fun _ h => h) Try.underlying41 (by rfl) (by kernel_rfl) ?_
      (try simp only [Act.put, List.setIfInBounds_toArray, List.set_cons_zero, List.set_cons_succ])
      refine reg_take 14 (v := ?_) rfl (by kernel_rfl) (fun _ _ _ h => h) (by rfl) hH ?_ ?_
      rotate_left
      · intro w hSw; (try dsimp only at hSw); go_simp; (try with_reducible rfl)
      (try simp only [Act.put, List.setIfInBounds_toArray, List.set_cons_zero, List.set_cons_succ])
      refine wpAnyH_ready (rs := [8, 10]) (by kernel_rfl) (by simp) ?_
      refine reg_cons 8 rfl (fun K1 hK1 => ?_) (reg_cons 10 rfl (fun K1 hK1 => ?_) AllReadyH.nil)
      · skip
        have c8 := HS0.out.cell (i := j) hj3
        go_simp
        clear c8
        refine hK1.out _ _ HV0.out.drew (fun hH => ?_)
        (try simp only [Act.put, List.setIfInBounds_toArray, List.set_cons_zero, List.set_cons_succ])
        clear hK1
        refine wpAnyH_ready (rs := [10]) (by kernel_rfl) (by simp) ?_
        refine reg_cons 10 rfl (fun K1 hK1 => ?_) AllReadyH.nil
        · skip
          go_simp
          refine hK1.out _ _ (HV0.out.alloc (.cells #[.slice (some ⟨M + 1, 0, none⟩) 1 1, .int .u16 1, .int .u16 1, .int .u32 0, .slice none 0 0, .int .u16 0, .int .u16 0, .int .u16 0, .slice none 0 0] 41)).drew (fun hH => ?_)
          (try simp only [Act.put, List.setIfInBounds_toArray, List.set_cons_zero, List.set_cons_succ])
          clear hK1
          refine wpAnyH_ready (rs := [11]) (by kernel_rfl) (by simp) ?_
          refine reg_cons 11 rfl (fun K1 hK1 => ?_) AllReadyH.nil
          · skip
            go_simp
            go_at_call 14
            refine (rrep_at (M + 3) 1 (Wn.x0 (M + 1)) _ HQ4.out HC4.out).mono ?_
            rintro e w5 ⟨g5, rfl, hg5, hr5, hb5⟩
            have HB5 := Lib.hid (show Below W.heap.size W w5 from HN4.out.trans (Below.mono hb5 HN4.out.size))
            have HS2 := Lib.hid (HST.out.far HB5.out)
            have HV2 := Lib.hid (HV0.out.below HB5.out HV0.out.lt)
            have HR5 := Lib.hid hr5
            clear hr5 hb5
            (try dsimp only)
            refine hK1.out _ _ HV2.out (fun hH => ?_)
            (try simp only [Act.put, List.setIfInBounds_toArray, List.set_cons_zero, List.set_cons_succ])
            clear hK1
            refine wpAnyH_ready (rs := [12]) (by kernel_rfl) (by simp) ?_
            refine reg_cons 12 rfl (fun K1 hK1 => ?_) AllReadyH.nil
            · skip
              go_simp
              have hn6 := below_new w5 (.cells #[.slice (rs j).A (rs j).l.length (rs j).c, .slice (some ⟨g5, 0, none⟩) 256 256] 25)
              have hr6 : Wn.Two (w5.alloc (.cells #[.slice (rs j).A (rs j).l.length (rs j).c, .slice (some ⟨g5, 0, none⟩) 256 256] 25)) w5.heap.size (rs j).A (rs j).c (rs j).l g5 (List.replicate 256 (Wn.x0 (M + 1))) := Wn.two_mk w5 _ _ _ _ _ (HS2.out.ok hj3).rd HR5.out (by rw [List.length_replicate])
              have HB6 := Lib.hid (HB5.out.trans (hn6.mono HB5.out.size))
              have HR6 := Lib.hid hr6
              refine hK1.out _ _ (HV2.out.alloc _) (fun hH => ?_)
              clear hn6 hr6
              (try simp only [Act.put, List.setIfInBounds_toArray, List.set_cons_zero, List.set_cons_succ])
              clear hK1
              refine wpAnyH_ready (rs := [13]) (by kernel_rfl) (by simp) ?_
              refine reg_cons 13 rfl (fun K1 hK1 => ?_) AllReadyH.nil
              go_simp
              refine (rconcat_at _ _ 2 _ _ HR6.out (by rw [Wn.flat2, List.length_append, List.length_replicate]; have := HLJ.out; omega) (by omega)).mono ?_
              rintro e w7 ⟨v7, rfl, ho7, hb7⟩
              obtain ⟨l7, hl7⟩ : ∃ l7, l7 = (rs j).l ++ List.replicate 256 (Wn.x0 (M + 1)) := ⟨_, rfl⟩
              rw [Wn.flat2, ← hl7] at ho7
              have HL7 := Lib.hid hl7
              clear hl7
              obtain ⟨A7, c7, rfl, _, _, _⟩ := ho7.form
              have HB7 := Lib.hid (HB6.out.trans (hb7.mono HB6.out.size))
              have HO7 := Lib.hid (OwM.mono ho7 HB6.out.size)
              have HV7 := Lib.hid (HV0.out.below HB7.out HV0.out.lt)
              have hvm := (HST.out.far HB7.out).vm
              have r3 : w7.cell? ⟨M, 3 + j, none⟩ = some (.slice (rs j).A (rs j).l.length (rs j).c) := Wn.row_cell hvm j hj3
              have f3 := hvm.free (3 + j)
              clear ho7 hb7 hvm
              (try dsimp only)
              refine hK1.out _ _ HV7.out (fun hH => ?_)
              (try simp only [Act.put, List.setIfInBounds_toArray, List.set_cons_zero, List.set_cons_succ])
              clear hK1
              refine reg_take 15 (v := ?_) rfl (by kernel_rfl) (fun _ _ _ h => h) (by rfl) hH ?_ ?_
              rotate_left
              · intro w hSw; (try dsimp only at hSw); go_simp; (try with_reducible rfl)
              (try simp only [Act.put, List.setIfInBounds_toArray, List.set_cons_zero, List.set_cons_succ])
              refine wpAnyH_ready (rs := [16]) (by kernel_rfl) (by simp) ?_
              refine reg_cons 16 rfl (fun K1 hK1 => ?_) AllReadyH.nil
              go_simp
              refine hK1.out _ _ (HV7.out.setO (g' := M) (by omega) (3 + j) _) (fun hH => ?_)
              clear hK1
              refine wpAnyH_done (by kernel_rfl) ?_ _
              clear hH r3 f3
              have HJ := Lib.hid (Wn.six_join (k := k) HL7.out rfl HST.out HVR.out HBL.out hwM HJ0.out HB7.out HO7.out (fun o ho => by rcases ho with h | h | h; exact HD.out o (Or.inr (Or.inr h)); exact HD.out o (Or.inr (Or.inl h)); exact HD.out o (Or.inl h)))
              go_wp2_with fail
              go_meet
              case rel => exact ⟨_, _, _, rfl, HJ⟩
      · skip
        go_simp
        refine hK1.out _ _ (HV0.out.alloc (.cells #[.slice (some ⟨M + 1, 0, none⟩) 1 1, .int .u16 1, .int .u16 1, .int .u32 0, .slice none 0 0, .int .u16 0, .int .u16 0, .int .u16 0, .slice none 0 0] 41)).drew (fun hH => ?_)
        (try simp only [Act.put, List.setIfInBounds_toArray, List.set_cons_zero, List.set_cons_succ])
        clear hK1
        refine wpAnyH_ready (rs := [8, 11]) (by kernel_rfl) (by simp) ?_
        refine reg_cons 8 rfl (fun K1 hK1 => ?_) (reg_cons 11 rfl (fun K1 hK1 => ?_) AllReadyH.nil)
        · skip
          have c8 := HS1.out.cell (i := j) hj3
          go_simp
          clear c8
          refine hK1.out _ _ HV1.out.drew (fun hH => ?_)
          (try simp only [Act.put, List.setIfInBounds_toArray, List.set_cons_zero, List.set_cons_succ])
          clear hK1
          refine wpAnyH_ready (rs := [11]) (by kernel_rfl) (by simp) ?_
          refine reg_cons 11 rfl (fun K1 hK1 => ?_) AllReadyH.nil
          · skip
            go_simp
            go_at_call 14
            refine (rrep_at (M + 3) 1 (Wn.x0 (M + 1)) _ HQ4.out HC4.out).mono ?_
            rintro e w5 ⟨g5, rfl, hg5, hr5, hb5⟩
            have HB5 := Lib.hid (show Below W.heap.size W w5 from HN4.out.trans (Below.mono hb5 HN4.out.size))
            have HS2 := Lib.hid (HST.out.far HB5.out)
            have HV2 := Lib.hid (HV0.out.below HB5.out HV0.out.lt)
            have HR5 := Lib.hid hr5
            clear hr5 hb5
            (try dsimp only)
            refine hK1.out _ _ HV2.out (fun hH => ?_)
            (try simp only [Act.put, List.setIfInBounds_toArray, List.set_cons_zero, List.set_cons_succ])
            clear hK1
            refine wpAnyH_ready (rs := [12]) (by kernel_rfl) (by simp) ?_
            refine reg_cons 12 rfl (fun K1 hK1 => ?_) AllReadyH.nil
            · skip
              go_simp
              have hn6 := below_new w5 (.cells #[.slice (rs j).A (rs j).l.length (rs j).c, .slice (some ⟨g5, 0, none⟩) 256 256] 25)
              have hr6 : Wn.Two (w5.alloc (.cells #[.slice (rs j).A (rs j).l.length (rs j).c, .slice (some ⟨g5, 0, none⟩) 256 256] 25)) w5.heap.size (rs j).A (rs j).c (rs j).l g5 (List.replicate 256 (Wn.x0 (M + 1))) := Wn.two_mk w5 _ _ _ _ _ (HS2.out.ok hj3).rd HR5.out (by rw [List.length_replicate])
              have HB6 := Lib.hid (HB5.out.trans (hn6.mono HB5.out.size))
              have HR6 := Lib.hid hr6
              refine hK1.out _ _ (HV2.out.alloc _) (fun hH => ?_)
              clear hn6 hr6
              (try simp only [Act.put, List.setIfInBounds_toArray, List.set_cons_zero, List.set_cons_succ])
              clear hK1
              refine wpAnyH_ready (rs := [13]) (by kernel_rfl) (by simp) ?_
              refine reg_cons 13 rfl (fun K1 hK1 => ?_) AllReadyH.nil
              go_simp
              refine (rconcat_at _ _ 2 _ _ HR6.out (by rw [Wn.flat2, List.length_append, List.length_replicate]; have := HLJ.out; omega) (by omega)).mono ?_
              rintro e w7 ⟨v7, rfl, ho7, hb7⟩
              obtain ⟨l7, hl7⟩ : ∃ l7, l7 = (rs j).l ++ List.replicate 256 (Wn.x0 (M + 1)) := ⟨_, rfl⟩
              rw [Wn.flat2, ← hl7] at ho7
              have HL7 := Lib.hid hl7
              clear hl7
              obtain ⟨A7, c7, rfl, _, _, _⟩ := ho7.form
              have HB7 := Lib.hid (HB6.out.trans (hb7.mono HB6.out.size))
              have HO7 := Lib.hid (OwM.mono ho7 HB6.out.size)
              have HV7 := Lib.hid (HV0.out.below HB7.out HV0.out.lt)
              have hvm := (HST.out.far HB7.out).vm
              have r3 : w7.cell? ⟨M, 3 + j, none⟩ = some (.slice (rs j).A (rs j).l.length (rs j).c) := Wn.row_cell hvm j hj3
              have f3 := hvm.free (3 + j)
              clear ho7 hb7 hvm
              (try dsimp only)
              refine hK1.out _ _ HV7.out (fun hH => ?_)
              (try simp only [Act.put, List.setIfInBounds_toArray, List.set_cons_zero, List.set_cons_succ])
              clear hK1
              refine reg_take 15 (v := ?_) rfl (by kernel_rfl) (fun _ _ _ h => h) (by rfl) hH ?_ ?_
              rotate_left
              · intro w hSw; (try dsimp only at hSw); go_simp; (try with_reducible rfl)
              (try simp only [Act.put, List.setIfInBounds_toArray, List.set_cons_zero, List.set_cons_succ])
              refine wpAnyH_ready (rs := [16]) (by kernel_rfl) (by simp) ?_
              refine reg_cons 16 rfl (fun K1 hK1 => ?_) AllReadyH.nil
              go_simp
              refine hK1.out _ _ (HV7.out.setO (g' := M) (by omega) (3 + j) _) (fun hH => ?_)
              clear hK1
              refine wpAnyH_done (by kernel_rfl) ?_ _
              clear hH r3 f3
              have HJ := Lib.hid (Wn.six_join (k := k) HL7.out rfl HST.out HVR.out HBL.out hwM HJ0.out HB7.out HO7.out (fun o ho => by rcases ho with h | h | h; exact HD.out o (Or.inr (Or.inr h)); exact HD.out o (Or.inr (Or.inl h)); exact HD.out o (Or.inl h)))
              go_wp2_with fail
              go_meet
              case rel => exact ⟨_, _, _, rfl, HJ⟩
        · skip
          go_simp
          go_at_call 14
          refine (rrep_at (M + 3) 1 (Wn.x0 (M + 1)) _ HQ4.out HC4.out).mono ?_
          rintro e w5 ⟨g5, rfl, hg5, hr5, hb5⟩
          have HB5 := Lib.hid (show Below W.heap.size W w5 from HN4.out.trans (Below.mono hb5 HN4.out.size))
          have HS2 := Lib.hid (HST.out.far HB5.out)
          have HV2 := Lib.hid (HV0.out.below HB5.out HV0.out.lt)
          have HR5 := Lib.hid hr5
          clear hr5 hb5
          (try dsimp only)
          refine hK1.out _ _ HV2.out (fun hH => ?_)
          (try simp only [Act.put, List.setIfInBounds_toArray, List.set_cons_zero, List.set_cons_succ])
          clear hK1
          refine wpAnyH_ready (rs := [8]) (by kernel_rfl) (by simp) ?_
          refine reg_cons 8 rfl (fun K1 hK1 => ?_) AllReadyH.nil
          · skip
            have c8 := HS2.out.cell (i := j) hj3
            go_simp
            clear c8
            refine hK1.out _ _ HV2.out.drew (fun hH => ?_)
            (try simp only [Act.put, List.setIfInBounds_toArray, List.set_cons_zero, List.set_cons_succ])
            clear hK1
            refine wpAnyH_ready (rs := [12]) (by kernel_rfl) (by simp) ?_
            refine reg_cons 12 rfl (fun K1 hK1 => ?_) AllReadyH.nil
            · skip
              go_simp
              have hn6 := below_new w5 (.cells #[.slice (rs j).A (rs j).l.length (rs j).c, .slice (some ⟨g5, 0, none⟩) 256 256] 25)
              have hr6 : Wn.Two (w5.alloc (.cells #[.slice (rs j).A (rs j).l.length (rs j).c, .slice (some ⟨g5, 0, none⟩) 256 256] 25)) w5.heap.size (rs j).A (rs j).c (rs j).l g5 (List.replicate 256 (Wn.x0 (M + 1))) := Wn.two_mk w5 _ _ _ _ _ (HS2.out.ok hj3).rd HR5.out (by rw [List.length_replicate])
              have HB6 := Lib.hid (HB5.out.trans (hn6.mono HB5.out.size))
              have HR6 := Lib.hid hr6
              refine hK1.out _ _ (HV2.out.alloc _) (fun hH => ?_)
              clear hn6 hr6
              (try simp only [Act.put, List.setIfInBounds_toArray, List.set_cons_zero, List.set_cons_succ])
              clear hK1
              refine wpAnyH_ready (rs := [13]) (by kernel_rfl) (by simp) ?_
              refine reg_cons 13 rfl (fun K1 hK1 => ?_) AllReadyH.nil
              go_simp
              refine (rconcat_at _ _ 2 _ _ HR6.out (by rw [Wn.flat2, List.length_append, List.length_replicate]; have := HLJ.out; omega) (by omega)).mono ?_
              rintro e w7 ⟨v7, rfl, ho7, hb7⟩
              obtain ⟨l7, hl7⟩ : ∃ l7, l7 = (rs j).l ++ List.replicate 256 (Wn.x0 (M + 1)) := ⟨_, rfl⟩
              rw [Wn.flat2, ← hl7] at ho7
              have HL7 := Lib.hid hl7
              clear hl7
              obtain ⟨A7, c7, rfl, _, _, _⟩ := ho7.form
              have HB7 := Lib.hid (HB6.out.trans (hb7.mono HB6.out.size))
              have HO7 := Lib.hid (OwM.mono ho7 HB6.out.size)
              have HV7 := Lib.hid (HV0.out.below HB7.out HV0.out.lt)
              have hvm := (HST.out.far HB7.out).vm
              have r3 : w7.cell? ⟨M, 3 + j, none⟩ = some (.slice (rs j).A (rs j).l.length (rs j).c) := Wn.row_cell hvm j hj3
              have f3 := hvm.free (3 + j)
              clear ho7 hb7 hvm
              (try dsimp only)
              refine hK1.out _ _ HV7.out (fun hH => ?_)
              (try simp only [Act.put, List.setIfInBounds_toArray, List.set_cons_zero, List.set_cons_succ])
              clear hK1
              refine reg_take 15 (v := ?_) rfl (by kernel_rfl) (fun _ _ _ h => h) (by rfl) hH ?_ ?_
              rotate_left
              · intro w hSw; (try dsimp only at hSw); go_simp; (try with_reducible rfl)
              (try simp only [Act.put, List.setIfInBounds_toArray, List.set_cons_zero, List.set_cons_succ])
              refine wpAnyH_ready (rs := [16]) (by kernel_rfl) (by simp) ?_
              refine reg_cons 16 rfl (fun K1 hK1 => ?_) AllReadyH.nil
              go_simp
              refine hK1.out _ _ (HV7.out.setO (g' := M) (by omega) (3 + j) _) (fun hH => ?_)
              clear hK1
              refine wpAnyH_done (by kernel_rfl) ?_ _
              clear hH r3 f3
              have HJ := Lib.hid (Wn.six_join (k := k) HL7.out rfl HST.out HVR.out HBL.out hwM HJ0.out HB7.out HO7.out (fun o ho => by rcases ho with h | h | h; exact HD.out o (Or.inr (Or.inr h)); exact HD.out o (Or.inr (Or.inl h)); exact HD.out o (Or.inl h)))
              go_wp2_with fail
              go_meet
              case rel => exact ⟨_, _, _, rfl, HJ⟩
    · have h0 := (HST.out.setR 4 (.slice (some ⟨M + 3, 0, none⟩) 4073 4073))
      have v0 := (HVR.out.set_ 4 (.slice (some ⟨M + 3, 0, none⟩) 4073 4073))
      have b0 := (HBL.out.setCell (p := ⟨M + 1 + 1, 4, none⟩) (by show w.heap.size ≤ M + 1 + 1; omega) (.slice (some ⟨M + 3, 0, none⟩) 4073 4073))
      have c4 := HVR.out.cell 4
      have g4 := HVR.out.free 4
      have hz : (W.setCell ⟨M + 1 + 1, 4, none⟩ (.slice (some ⟨M + 3, 0, none⟩) 4073 4073)).heap.size = M + 3 := by simp [hsz]
      have hn := below_new (W.setCell ⟨M + 1 + 1, 4, none⟩ (.slice (some ⟨M + 3, 0, none⟩) 4073 4073)) (.cells (bc (List.replicate 4073 0)).toArray 5)
      have h1 := h0.more hn (Wn.dat_ok2 (W.setCell ⟨M + 1 + 1, 4, none⟩ (.slice (some ⟨M + 3, 0, none⟩) 4073 4073)) (List.replicate 4073 0) 4073 (M + 3) hz.symm (by rw [List.length_replicate]) (by omega))
      have v1 := v0.below hn v0.lt
      have b1 := b0.trans (hn.mono b0.size)
      have a4 := (HVR.out.alloc (.cells (bc (List.replicate 4073 0)).toArray 5)).cell 4
      have f4 := (HVR.out.alloc (.cells (bc (List.replicate 4073 0)).toArray 5)).free 4
      have HJ := Lib.hid (⟨h1, v1, (fun o ho => by rcases ho with h | h | h; exact Or.inr (HD.out o (Or.inr (Or.inr h))); exact Or.inl h; exact Or.inr (HD.out o (Or.inl h))), rfl, Or.inl ⟨by omega, rfl⟩, b1⟩ : Wn.Join w _ w2.heap.size M (M + 1 + 1) id fl Aq cq lq rs k 7 ⟨some ⟨M + 1, 0, none⟩, 1, (some ⟨M + 3, 0, none⟩), 4073, none, 0, Wg.recW 7⟩ rs _)
      clear h0 h1 v0 v1 b0 b1 hn hz
      have hmk : ∀ W : World, (Instr.makeSlice 22 (.int .i64 4073) (.int .i64 4073)).run Try.prog W = .ok (.slice (some ⟨W.heap.size, 0, none⟩) 4073 4073) (W.alloc (.cells (bc (List.replicate 4073 0)).toArray 5)) := Wn.made_bytes 4073 (by omega)
      generalize hzz : bc (List.replicate 4073 0) = zz at hmk HJ
      simp only [Wn.x0, Wg.recW, RR.cells, List.getElem?_cons_zero, List.getElem?_cons_succ, List.length_cons, List.length_nil] at a4 c4
      go_wp2_with fail
      go_meet
      case rel => exact ⟨_, _, _, rfl, HJ⟩
  case rest =>
    obtain ⟨x, rs', D, rfl, HJ⟩ := hcut
    clear HST HVR HBL hsz
    have HLN := Lib.hid (HJ.out.len HR3.out k)
    have HST := Lib.hid HJ.out.st
    have hlt := HJ.out.st.lt
    have hvr := HJ.out.vr
    obtain ⟨xA, xc, dA, dc, tA, tc, ⟨⟨nm, ty, cl⟩, ttl, rd, pr, we, po, tg⟩⟩ := x
    have HV0 : Hid (Vx wc (M + 1 + 1) 41 [.slice xA nm.length xc, .int .u16 (ty : Int), .int .u16 (cl : Int), .int .u32 (ttl : Int), .slice dA rd.length dc, .int .u16 (pr : Int), .int .u16 (we : Int), .int .u16 (po : Int), .slice tA tg.length tc]) := Lib.hid hvr
    have hn1 : Below wc.heap.size wc (wc.alloc (.cells #[.slice xA nm.length xc, .int .u16 (ty : Int), .int .u16 (cl : Int), .int .u32 (ttl : Int), .slice dA rd.length dc, .int .u16 (pr : Int), .int .u16 (we : Int), .int .u16 (po : Int), .slice tA tg.length tc] 41)).drew := (below_new wc _).drew
    have HN1 := Lib.hid hn1
    have HS1 := Lib.hid (HST.out.far hn1)
    have HV1 := Lib.hid (HV0.out.below hn1 HV0.out.lt)
    have HSR : Hid (Src Try.prog 9 25 (.slice (some ⟨wc.heap.size, 0, none⟩) 1 1) 1 (RR.cells ⟨xA, xc, dA, dc, tA, tc, ⟨⟨nm, ty, cl⟩, ttl, rd, pr, we, po, tg⟩⟩) (wc.alloc (.cells #[.slice xA nm.length xc, .int .u16 (ty : Int), .int .u16 (cl : Int), .int .u32 (ttl : Int), .slice dA rd.length dc, .int .u16 (pr : Int), .int .u16 (we : Int), .int .u16 (po : Int), .slice tA tg.length tc] 41)).drew) := Lib.hid (litM_src (w := wc.drew) Try.underlying25 41 9 (RR.cells ⟨xA, xc, dA, dc, tA, tc, ⟨⟨nm, ty, cl⟩, ttl, rd, pr, we, po, tg⟩⟩) 1 rfl (rcells_one _))
    have hkI : (k : Int) < 3 := by omega
    obtain ⟨j0, hj', hy0, hy1, hy2⟩ := info_parts Try.infoR
    clear hvr hn1
    go_upto_region 25 with fail
    go_cut [] from 79 to 89 (fun wx => ∃ (A6 : Option Addr) (c6 : Nat), Hid (Wn.St wx w2.heap.size M (M + 1 + 1) id fl Aq cq lq (updF rs' k ⟨A6, c6, (rs' k).l ++ [⟨xA, xc, dA, dc, tA, tc, ⟨⟨nm, ty, cl⟩, ttl, rd, pr, we, po, tg⟩⟩]⟩) D) ∧ Hid (Below w.heap.size w wx))
    case first =>
      refine wp_region_held_drew (S := fun W1 => Vx W1 (M + 1 + 1) 41 [.slice xA nm.length xc, .int .u16 (ty : Int), .int .u16 (cl : Int), .int .u32 (ttl : Int), .slice dA rd.length dc, .int .u16 (pr : Int), .int .u16 (we : Int), .int .u16 (po : Int), .slice tA tg.length tc]) (by kernel_rfl) HV0.out.drew (fun hH => ?_)
      refine reg_take 0 (v := ?_) rfl (by kernel_rfl) (fun _ _ _ h => h) (by rfl) hH ?_ ?_
      rotate_left
      · intro w hSw; (try dsimp only at hSw); go_simp; (try with_reducible rfl)
      (try simp only [Act.put, List.setIfInBounds_toArray, List.set_cons_zero, List.set_cons_succ])
      refine reg_take 1 (v := ?_) rfl (by kernel_rfl) (fun _ _ _ h => h) (by rfl) hH ?_ ?_
      rotate_left
      · intro w hSw; (try dsimp only at hSw); go_simp; (try with_reducible rfl)
      (try simp only [Act.put, List.setIfInBounds_toArray, List.set_cons_zero, List.set_cons_succ])
      refine reg_take 2 (v := ?_) rfl (by kernel_rfl) (fun _ _ _ h => h) (by rfl) hH ?_ ?_
      rotate_left
      · intro w hSw; (try dsimp only at hSw); go_simp; (try with_reducible rfl)
      (try simp only [Act.put, List.setIfInBounds_toArray, List.set_cons_zero, List.set_cons_succ])
      refine reg_take 3 (v := ?_) rfl (by kernel_rfl) (fun _ _ _ h => h) (by rfl) hH ?_ ?_
      rotate_left
      · intro w hSw; (try dsimp only at hSw); go_simp; (try with_reducible rfl)
      (try simp only [Act.put, List.setIfInBounds_toArray, List.set_cons_zero, List.set_cons_succ])
      refine reg_load 5 rfl (by kernel_rfl) 41 _ (by rfl) (M + 1 + 1) 41 [.slice xA nm.length xc, .int .u16 (ty : Int), .int .u16 (cl : Int), .int .u32 (ttl : Int), .slice dA rd.length dc, .int .u16 (pr : Int), .int .u16 (we : Int), .int .u16 (po : Int), .slice tA tg.length tc] _ (fun _ _ _ h => h) (by rfl) hH (by rfl) (fun _ h => h) Try.underlying41 (by rfl) (by kernel_rfl) ?_
      (try simp only [Act.put, List.setIfInBounds_toArray, List.set_cons_zero, List.set_cons_succ])
      refine reg_take 8 (v := ?_) rfl (by kernel_rfl) (fun _ _ _ h => h) (by rfl) hH ?_ ?_
      rotate_left
      · intro w hSw; (try dsimp only at hSw); go_simp; (try with_reducible rfl)
      (try simp only [Act.put, List.setIfInBounds_toArray, List.set_cons_zero, List.set_cons_succ])
      refine wpAnyH_ready (rs := [4, 6]) (by kernel_rfl) (by simp) ?_
      refine reg_cons 4 rfl (fun K1 hK1 => ?_) (reg_cons 6 rfl (fun K1 hK1 => ?_) AllReadyH.nil)
      · skip
        have c8 := HST.out.cell (i := k) hk3
        go_simp
        clear c8
        refine hK1.out _ _ HV0.out.drew (fun hH => ?_)
        (try simp only [Act.put, List.setIfInBounds_toArray, List.set_cons_zero, List.set_cons_succ])
        clear hK1
        refine wpAnyH_ready (rs := [6]) (by kernel_rfl) (by simp) ?_
        refine reg_cons 6 rfl (fun K1 hK1 => ?_) AllReadyH.nil
        · skip
          go_simp
          refine hK1.out _ _ HV1.out (fun hH => ?_)
          (try simp only [Act.put, List.setIfInBounds_toArray, List.set_cons_zero, List.set_cons_succ])
          clear hK1
          refine wpAnyH_ready (rs := [7]) (by kernel_rfl) (by simp) ?_
          refine reg_cons 7 rfl (fun K1 hK1 => ?_) AllReadyH.nil
          refine step_appM rfl _ _ _ _ rfl w2.heap.size 9 41 j0 _ 96 Try.underlying25 hj' hy0 hy1 hy2 rfl (by omega) (.slice (rs' k).A (rs' k).l.length (rs' k).c) (rs' k).l.length (rcs (rs' k).l) (HS1.out.ok hk3) rfl (.slice (some ⟨wc.heap.size, 0, none⟩) 1 1) rfl 1 (RR.cells ⟨xA, xc, dA, dc, tA, tc, ⟨⟨nm, ty, cl⟩, ttl, rd, pr, we, po, tg⟩⟩) HSR.out (by have := HLN.out; omega) (by have := HS1.out.lt; omega) ?_
          intro v6 w6 ho6 hg6 hz6
          obtain ⟨A6, c6, rfl, _, _, _⟩ := ho6.form
          have HG6 := Lib.hid hg6
          have HO6 := Lib.hid ho6
          have hap := HST.out.app hk3 HN1.out A6 c6 ((rs' k).l ++ [⟨xA, xc, dA, dc, tA, tc, ⟨⟨nm, ty, cl⟩, ttl, rd, pr, we, po, tg⟩⟩]) (fun o ho => by obtain ⟨y, hy, ho⟩ := ho; rcases List.mem_append.1 hy with hy | hy; exact HST.out.dd o (Or.inr ⟨k, hk3, y, hy, ho⟩); rw [List.mem_singleton.1 hy] at ho; exact HJ.out.px o ho) (by rw [List.length_append]; exact HG6.out) (by rw [List.length_append, rcs_snoc]; exact HO6.out)
          rw [List.length_append] at hap
          have HAP := Lib.hid hap
          have hvm := Vx.grown HS1.out.vm hg6.1 (fun e => (HS1.out.rm k (by omega)).1 (by rw [Wn.row_at hk3]; exact e.symm))
          have r3 : w6.cell? ⟨M, 3 + k, none⟩ = some (.slice (rs' k).A (rs' k).l.length (rs' k).c) := Wn.row_cell hvm k hk3
          have f3 := hvm.free (3 + k)
          have HV6 := Lib.hid (Vx.grown HV1.out hg6.1 (fun e => (HS1.out.rm k (by omega)).2 (by rw [Wn.row_at hk3]; exact e.symm)))
          have HB6 : Hid (Below w.heap.size w w6) := Lib.hid (HJ.out.bl.trans ((Below.mono HN1.out HJ.out.bl.size).trans (Below.mono (hg6.below (OwM.lt (HS1.out.ok hk3)) (by have := HS1.out.lt; omega)) hw2)))
          clear hap hvm hg6 ho6 hH
          refine hK1.out _ _ HV6.out (fun hH => ?_)
          (try simp only [Act.put, List.setIfInBounds_toArray, List.set_cons_zero, List.set_cons_succ])
          clear hK1
          refine reg_take 9 (v := ?_) rfl (by kernel_rfl) (fun _ _ _ h => h) (by rfl) hH ?_ ?_
          rotate_left
          · intro w hSw; (try dsimp only at hSw); go_simp; (try with_reducible rfl)
          (try simp only [Act.put, List.setIfInBounds_toArray, List.set_cons_zero, List.set_cons_succ])
          refine wpAnyH_ready (rs := [10]) (by kernel_rfl) (by simp) ?_
          refine reg_cons 10 rfl (fun K1 hK1 => ?_) AllReadyH.nil
          go_simp
          refine hK1.out _ _ (HV6.out.setO (g' := M) (by omega) (3 + k) _) (fun hH => ?_)
          clear hK1
          refine wpAnyH_done (by kernel_rfl) ?_ _
          clear hH r3 f3
          go_wp2_with fail
          go_meet
          case rel => exact ⟨A6, c6, Lib.hid HAP.out.1, Lib.hid (HB6.out.setCell (by show w.heap.size ≤ M; omega) _)⟩
      · skip
        go_simp
        refine hK1.out _ _ HV1.out (fun hH => ?_)
        (try simp only [Act.put, List.setIfInBounds_toArray, List.set_cons_zero, List.set_cons_succ])
        clear hK1
        refine wpAnyH_ready (rs := [4]) (by kernel_rfl) (by simp) ?_
        refine reg_cons 4 rfl (fun K1 hK1 => ?_) AllReadyH.nil
        · skip
          have c8 := HS1.out.cell (i := k) hk3
          go_simp
          clear c8
          refine hK1.out _ _ HV1.out.drew (fun hH => ?_)
          (try simp only [Act.put, List.setIfInBounds_toArray, List.set_cons_zero, List.set_cons_succ])
          clear hK1
          refine wpAnyH_ready (rs := [7]) (by kernel_rfl) (by simp) ?_
          refine reg_cons 7 rfl (fun K1 hK1 => ?_) AllReadyH.nil
          refine step_appM rfl _ _ _ _ rfl w2.heap.size 9 41 j0 _ 96 Try.underlying25 hj' hy0 hy1 hy2 rfl (by omega) (.slice (rs' k).A (rs' k).l.length (rs' k).c) (rs' k).l.length (rcs (rs' k).l) (HS1.out.ok hk3) rfl (.slice (some ⟨wc.heap.size, 0, none⟩) 1 1) rfl 1 (RR.cells ⟨xA, xc, dA, dc, tA, tc, ⟨⟨nm, ty, cl⟩, ttl, rd, pr, we, po, tg⟩⟩) HSR.out (by have := HLN.out; omega) (by have := HS1.out.lt; omega) ?_
          intro v6 w6 ho6 hg6 hz6
          obtain ⟨A6, c6, rfl, _, _, _⟩ := ho6.form
          have HG6 := Lib.hid hg6
          have HO6 := Lib.hid ho6
          have hap := HST.out.app hk3 HN1.out A6 c6 ((rs' k).l ++ [⟨xA, xc, dA, dc, tA, tc, ⟨⟨nm, ty, cl⟩, ttl, rd, pr, we, po, tg⟩⟩]) (fun o ho => by obtain ⟨y, hy, ho⟩ := ho; rcases List.mem_append.1 hy with hy | hy; exact HST.out.dd o (Or.inr ⟨k, hk3, y, hy, ho⟩); rw [List.mem_singleton.1 hy] at ho; exact HJ.out.px o ho) (by rw [List.length_append]; exact HG6.out) (by rw [List.length_append, rcs_snoc]; exact HO6.out)
          rw [List.length_append] at hap
          have HAP := Lib.hid hap
          have hvm := Vx.grown HS1.out.vm hg6.1 (fun e => (HS1.out.rm k (by omega)).1 (by rw [Wn.row_at hk3]; exact e.symm))
          have r3 : w6.cell? ⟨M, 3 + k, none⟩ = some (.slice (rs' k).A (rs' k).l.length (rs' k).c) := Wn.row_cell hvm k hk3
          have f3 := hvm.free (3 + k)
          have HV6 := Lib.hid (Vx.grown HV1.out hg6.1 (fun e => (HS1.out.rm k (by omega)).2 (by rw [Wn.row_at hk3]; exact e.symm)))
          have HB6 : Hid (Below w.heap.size w w6) := Lib.hid (HJ.out.bl.trans ((Below.mono HN1.out HJ.out.bl.size).trans (Below.mono (hg6.below (OwM.lt (HS1.out.ok hk3)) (by have := HS1.out.lt; omega)) hw2)))
          clear hap hvm hg6 ho6 hH
          refine hK1.out _ _ HV6.out (fun hH => ?_)
          (try simp only [Act.put, List.setIfInBounds_toArray, List.set_cons_zero, List.set_cons_succ])
          clear hK1
          refine reg_take 9 (v := ?_) rfl (by kernel_rfl) (fun _ _ _ h => h) (by rfl) hH ?_ ?_
          rotate_left
          · intro w hSw; (try dsimp only at hSw); go_simp; (try with_reducible rfl)
          (try simp only [Act.put, List.setIfInBounds_toArray, List.set_cons_zero, List.set_cons_succ])
          refine wpAnyH_ready (rs := [10]) (by kernel_rfl) (by simp) ?_
          refine reg_cons 10 rfl (fun K1 hK1 => ?_) AllReadyH.nil
          go_simp
          refine hK1.out _ _ (HV6.out.setO (g' := M) (by omega) (3 + k) _) (fun hH => ?_)
          clear hK1
          refine wpAnyH_done (by kernel_rfl) ?_ _
          clear hH r3 f3
          go_wp2_with fail
          go_meet
          case rel => exact ⟨A6, c6, Lib.hid HAP.out.1, Lib.hid (HB6.out.setCell (by show w.heap.size ≤ M; omega) _)⟩
    case rest =>
      obtain ⟨A6, c6, HS6, HB6⟩ := hcut
      obtain ⟨rs2, hrs2⟩ : ∃ r, r = updF rs' k ⟨A6, c6, (rs' k).l ++ [⟨xA, xc, dA, dc, tA, tc, ⟨⟨nm, ty, cl⟩, ttl, rd, pr, we, po, tg⟩⟩]⟩ := ⟨_, rfl⟩
      have hrd := HJ.out.rd hk3 HM.out HMR.out HMK.out hid hfl hq3 HR3.out A6 c6 HS6.out
      have hwr := HJ.out.wr hk3 hv8 HM.out HMR.out HMN.out A6 c6
      have hs6 := HS6.out
      rw [← hrs2] at hrd hwr hs6
      have hv10 : Vx wc M 28 [.int .u16 (id : Int), .int .u16 (fl : Int), .slice Aq lq.length cq, .slice (rs2 0).A (rs2 0).l.length (rs2 0).c, .slice (rs2 1).A (rs2 1).l.length (rs2 1).c, .slice (rs2 2).A (rs2 2).l.length (rs2 2).c] := hs6.vm
      have KW : Hid (Calls Try.prog 15 #[.agg #[.int .u16 (id : Int), .int .u16 (fl : Int), .slice Aq lq.length cq, .slice (rs2 0).A (rs2 0).l.length (rs2 0).c, .slice (rs2 1).A (rs2 1).l.length (rs2 1).c, .slice (rs2 2).A (rs2 2).l.length (rs2 2).c]] wc fun e w' => ∃ A c, e = .returned (.tuple #[.slice A 0 c, .int .i64 ((Wn.errW v : Nat) : Int)]) ∧ Below wc.heap.size wc w') := Lib.hid (by
        refine (write_at (Wn.mr id fl Aq cq lq rs2) wc hrd).mono ?_
        rw [hwr]
        rintro e w' ⟨v8, rfl, ho, hb⟩
        obtain ⟨A, c, rfl, _, _⟩ := ho.form6 0 rfl
        exact ⟨A, c, rfl, hb⟩)
      have KC : Hid (∀ w8, Below wc.heap.size wc w8 → Calls Try.prog 16 #[.agg #[.int .u16 (id : Int), .int .u16 (fl : Int), .slice Aq lq.length cq, .slice (rs2 0).A (rs2 0).l.length (rs2 0).c, .slice (rs2 1).A (rs2 1).l.length (rs2 1).c, .slice (rs2 2).A (rs2 2).l.length (rs2 2).c]] w8 fun e w' => e = .returned (.int .i64 ((Wn.errW v : Nat) : Int)) ∧ Below w8.heap.size w8 w') := Lib.hid (fun w8 hb8 => by
        refine (check_at (Wn.mr id fl Aq cq lq rs2) w8 ((hrd.below hb8).more hb8.size)).mono ?_
        rw [hwr]
        rintro e w' ⟨rfl, hb⟩
        exact ⟨rfl, hb⟩)
      generalize Wn.errW v = ev at KW KC ⊢
      clear hrs2 hrd hwr hs6 HS6 HJ HM HMR HMK HMN HS1 HST HV1 HV0 HN1 HSR HR3 HLN
      have hvc := Lib.hid hv10
      obtain ⟨z0, z1, z2, z3, z4, z5⟩ := hv10.c6
      go_wp2_with (first
        | (go_at_call 16; (
           refine (KC.out _ HB8.out).mono ?_
           rintro e w9 ⟨rfl, hb9⟩
           have HB9 := Lib.hid hb9
           clear hb9))
        | (go_at_call 15; (
           refine KW.out.mono ?_
           rintro e w8 ⟨A8, c8, rfl, hb8⟩
           have HB8 := Lib.hid hb8
           obtain ⟨y0, y1, y2, y3, y4, y5⟩ := (hvc.out.below hb8 hvc.out.lt).c6
           clear hb8)))
      go_ret
      exact ⟨rfl, HB6.out.trans ((HB8.out.trans (HB9.out.mono HB8.out.size)).mono HB6.out.size)⟩
end Go.Proofs.Ytlipmlbijddopaa
