/-
  The walk of tells: it returns true at every leg and all numbers.
-/
import Derived.Test.YtogofbncdggigaaNo
namespace Go.Proofs.Ytogofbncdggigaa
open Go.RowKit Net

set_option maxRecDepth 100000 in
set_option maxHeartbeats 8000000 in
theorem tells_any (i f t d m c g y a b : Int) (w : World) (hy0 : 0 ≤ y) (hy1 : y ≤ 255) :
    Calls Try.prog 11 #[.agg #[.int .i64 i, .int .i64 f, .int .i64 t, .int .i64 d, .int .i64 m, .int .i64 c, .int .i64 g, .int .u8 y], .int .i64 a, .int .i64 b] w fun e w' => e = .returned (.bool true) ∧ Below w.heap.size w w' := by
  go_enter Try.func11, Try.ntmps11
  go_wp2_with fail
  refine (on_any i f t d m c g y a _ hy0 hy1).mono ?_
  obtain ⟨r0, hr0⟩ : ∃ r, onR (onB i f t d m c g y) a = r := ⟨_, rfl⟩
  rw [hr0]
  rintro e w1 ⟨rfl, hb1⟩
  have x0 : LegAt w1 w.heap.size i f t d m c g y := BlockAt.below (t := 23) (BlockAt.new w #[.int .i64 i, .int .i64 f, .int .i64 t, .int .i64 d, .int .i64 m, .int .i64 c, .int .i64 g, .int .u8 y] 23) hb1
  have hX : Below w.heap.size w w1 := ((Below.refl _ w).alloc (Nat.le_refl _) _).trans (hb1.mono (by simp))
  clear hb1
  obtain ⟨l0, l1, l2, l3, l4, l5, l6, l7⟩ := x0.cells
  have z0 := x0.lt
  have HR0 := Lib.hid hr0
  clear hr0
  go_wp2_with fail
  refine (refon_any i f t d m c g y a _ hy0 hy1).mono ?_
  rw [HR0.out]
  rintro e w2 ⟨rfl, hb2⟩
  have y0 : LegAt w2 w.heap.size i f t d m c g y := BlockAt.below (t := 23) (BlockAt.alloc (t := 23) x0 _) hb2
  have y1 : BlockAt w2 w1.heap.size #[.int .i64 (rA d r0), .int .i64 (rB d m r0)] 28 := BlockAt.below (BlockAt.new w1 _ 28) hb2
  have hX2 : Below w.heap.size w w2 := (hX.alloc (by omega) _).trans (hb2.mono (by simp; omega))
  clear hb2 l0 l1 l2 l3 l4 l5 l6 l7 x0 hX
  obtain ⟨l0, l1, l2, l3, l4, l5, l6, l7⟩ := y0.cells
  obtain ⟨p0, p1, p2, p3⟩ := y1.two
  have z1 := y0.lt
  have z2 := y1.lt
  go_wp2_with fail
  clear l0 l1 l2 l3 l4 l5 l6 l7 p0 p1 p2 p3
  obtain ⟨W, hW⟩ : ∃ W, w2.alloc (.cells #[.int .i64 (rA d r0), .int .i64 (rB d m r0)] 50) = W := ⟨_, rfl⟩
  have x0 : LegAt W w.heap.size i f t d m c g y := by rw [← hW]; exact BlockAt.alloc (t := 23) y0 _
  have x1 : BlockAt W w1.heap.size #[.int .i64 (rA d r0), .int .i64 (rB d m r0)] 28 := by rw [← hW]; exact y1.alloc _
  have x2 : BlockAt W w2.heap.size #[.int .i64 (rA d r0), .int .i64 (rB d m r0)] 50 := by rw [← hW]; exact BlockAt.new w2 _ 50
  have hX : Below w.heap.size w W := by rw [← hW]; exact hX2.alloc (by omega) _
  rw [hW]
  clear hW y0 y1 hX2
  obtain ⟨l0, l1, l2, l3, l4, l5, l6, l7⟩ := x0.cells
  obtain ⟨p0, p1, p2, p3⟩ := x1.two
  obtain ⟨p4, p5, p6, p7⟩ := x2.two
  have v1 := x0.lt
  have v2 := x1.lt
  have v3 := x2.lt
  go_region_held3 (fun w' => w'.cell? ⟨w.heap.size, 0, none⟩ = some (.int .i64 i) ∧ w'.cell? ⟨w.heap.size, 1, none⟩ = some (.int .i64 f) ∧ w'.cell? ⟨w.heap.size, 2, none⟩ = some (.int .i64 t) ∧ w'.cell? ⟨w.heap.size, 3, none⟩ = some (.int .i64 d) ∧ w'.cell? ⟨w.heap.size, 4, none⟩ = some (.int .i64 m) ∧ w'.cell? ⟨w.heap.size, 5, none⟩ = some (.int .i64 c) ∧ w'.cell? ⟨w.heap.size, 6, none⟩ = some (.int .i64 g) ∧ w'.cell? ⟨w.heap.size, 7, none⟩ = some (.int .u8 y) ∧ w'.cell? ⟨w1.heap.size, 0, none⟩ = some (.int .i64 (rA d r0)) ∧ w'.cell? ⟨w1.heap.size, 1, none⟩ = some (.int .i64 (rB d m r0)) ∧ w'.cell? ⟨w2.heap.size, 0, none⟩ = some (.int .i64 (rA d r0)) ∧ w'.cell? ⟨w2.heap.size, 1, none⟩ = some (.int .i64 (rB d m r0))) (go_keep)
    (first
      | (go_at_call 13; refine (right_any i f t d m c g y _ hy0 hy1).mono ?_; rintro e w3 ⟨rfl, hb3⟩; have hc3 : ∀ b o, b < W.heap.size → w3.cell? ⟨b, o, none⟩ = W.cell? ⟨b, o, none⟩ := (bcell hb3).1; have hs3 : W.heap.size ≤ w3.heap.size := hb3.size; have t1 : w.heap.size < w3.heap.size := (by omega); have t2 : w1.heap.size < w3.heap.size := (by omega); have t3 : w2.heap.size < w3.heap.size := (by omega))
      | (go_at_call 28; refine (refright_any i f t d m c g y _ hy0 hy1).mono ?_; rintro e w4 ⟨rfl, hb4⟩; obtain ⟨hc4, hf4⟩ := bcell hb4; have hs4 := hb4.size; have t4 : w.heap.size < w4.heap.size := (by omega); have t5 : w1.heap.size < w4.heap.size := (by omega); have t6 : w2.heap.size < w4.heap.size := (by omega))
      | (go_at_call 29; refine (same_any _ _ _ _ _ _ _).mono ?_; rintro e w5 ⟨he, hb5⟩; rw [sameB_refl] at he; subst he; obtain ⟨hc5, hf5⟩ := bcell hb5))
  have u0 : LegAt w5 w.heap.size i f t d m c g y := BlockAt.below (t := 23) (BlockAt.below (t := 23) (BlockAt.below (t := 23) (show LegAt W.drew w.heap.size i f t d m c g y from x0) hb3) hb4) hb5
  have u1 : BlockAt w5 w1.heap.size #[.int .i64 (rA d r0), .int .i64 (rB d m r0)] 28 := (((show BlockAt W.drew w1.heap.size #[.int .i64 (rA d r0), .int .i64 (rB d m r0)] 28 from x1).below hb3).below hb4).below hb5
  have u2 : BlockAt w5 w2.heap.size #[.int .i64 (rA d r0), .int .i64 (rB d m r0)] 50 := (((show BlockAt W.drew w2.heap.size #[.int .i64 (rA d r0), .int .i64 (rB d m r0)] 50 from x2).below hb3).below hb4).below hb5
  have u3 : Below w.heap.size w w5 := ((hX.drew.trans (hb3.mono (by show w.heap.size ≤ W.heap.size; omega))).trans (hb4.mono (by omega))).trans (hb5.mono (by omega))
  have ne1 : ¬ w.heap.size = w1.heap.size := by omega
  have ne2 : ¬ w.heap.size = w2.heap.size := by omega
  have ne3 : ¬ w1.heap.size = w2.heap.size := by omega
  have ne4 : ¬ w1.heap.size = w.heap.size := by omega
  have ne5 : ¬ w2.heap.size = w.heap.size := by omega
  have ne6 : ¬ w2.heap.size = w1.heap.size := by omega
  clear l0 l1 l2 l3 l4 l5 l6 l7 p0 p1 p2 p3 p4 p5 p6 p7 v1 v2 v3 hb3 hb4 hb5 hc3 hc4 hc5 hf4 hf5 hs3 hs4 t1 t2 t3 t4 t5 t6 x0 x1 x2 hX
  obtain ⟨l0, l1, l2, l3, l4, l5, l6, l7⟩ := u0.cells
  obtain ⟨p0, p1, p2, p3⟩ := u1.two
  obtain ⟨p4, p5, p6, p7⟩ := u2.two
  have v1 := u0.lt
  have v2 := u1.lt
  have v3 := u2.lt
  go_wp2_with fail
  refine (next_any i f t d m c g y a _ hy0 hy1).mono ?_
  rintro e w6 ⟨r1, hr1, rfl, hb⟩
  have g0 : LegAt w6 w.heap.size i f t d m c g y := BlockAt.below (t := 23) u0 hb
  have g1 : BlockAt w6 w1.heap.size #[.int .i64 (rA d r0), .int .i64 (rB d m r0)] 28 := u1.below hb
  have g2 : BlockAt w6 w2.heap.size #[.int .i64 (rA d r0), .int .i64 (rB d m r0)] 50 := u2.below hb
  have g3 : Below w.heap.size w w6 := u3.trans (hb.mono (by omega))
  clear l0 l1 l2 l3 l4 l5 l6 l7 p0 p1 p2 p3 p4 p5 p6 p7 v1 v2 v3
  clear u0 u1 u2 u3 hb
  have u0 := g0
  have u1 := g1
  have u2 := g2
  have u3 := g3
  clear g0 g1 g2 g3
  obtain ⟨l0, l1, l2, l3, l4, l5, l6, l7⟩ := u0.cells
  obtain ⟨p0, p1, p2, p3⟩ := u1.two
  obtain ⟨p4, p5, p6, p7⟩ := u2.two
  have v1 := u0.lt
  have v2 := u1.lt
  have v3 := u2.lt
  go_wp2_with fail
  refine (refnext_p i f t d m c g y a _ hy0 hy1).mono ?_
  rintro e w7 ⟨s, hs, rfl, hb⟩
  obtain rfl := next_unique hr1 hs
  have g0 : LegAt w7 w.heap.size i f t d m c g y := BlockAt.below (t := 23) (BlockAt.other (t := 23) (BlockAt.other (t := 23) u0 ne1 _) ne1 _) hb
  have g1 : BlockAt w7 w1.heap.size #[.int .i64 (rA d r1), .int .i64 (rB d m r1)] 28 := ((u1.set20 _).set21 _).below hb
  have g2 : BlockAt w7 w2.heap.size #[.int .i64 (rA d r0), .int .i64 (rB d m r0)] 50 := ((u2.other ne6 _).other ne6 _).below hb
  have g3 : Below w.heap.size w w7 := ((u3.setCell (p := ⟨w1.heap.size, 0, none⟩) (by show w.heap.size ≤ w1.heap.size; omega) _).setCell (p := ⟨w1.heap.size, 1, none⟩) (by show w.heap.size ≤ w1.heap.size; omega) _).trans (hb.mono (by simp; omega))
  clear l0 l1 l2 l3 l4 l5 l6 l7 p0 p1 p2 p3 p4 p5 p6 p7 v1 v2 v3
  clear u0 u1 u2 u3 hb hs hr1
  have u0 := g0
  have u1 := g1
  have u2 := g2
  have u3 := g3
  clear g0 g1 g2 g3
  obtain ⟨l0, l1, l2, l3, l4, l5, l6, l7⟩ := u0.cells
  obtain ⟨p0, p1, p2, p3⟩ := u1.two
  obtain ⟨p4, p5, p6, p7⟩ := u2.two
  have v1 := u0.lt
  have v2 := u1.lt
  have v3 := u2.lt
  go_wp2_with fail
  refine (same_any _ _ _ _ _ _ _).mono ?_
  rintro e w8 ⟨he, hb⟩
  rw [sameB_refl] at he
  subst he
  have g0 : LegAt w8 w.heap.size i f t d m c g y := BlockAt.below (t := 23) (BlockAt.other (t := 23) (BlockAt.other (t := 23) u0 ne2 _) ne2 _) hb
  have g1 : BlockAt w8 w1.heap.size #[.int .i64 (rA d r1), .int .i64 (rB d m r1)] 28 := ((u1.other ne3 _).other ne3 _).below hb
  have g2 : BlockAt w8 w2.heap.size #[.int .i64 (rA d r1), .int .i64 (rB d m r1)] 50 := ((u2.set20 _).set21 _).below hb
  have g3 : Below w.heap.size w w8 := ((u3.setCell (p := ⟨w2.heap.size, 0, none⟩) (by show w.heap.size ≤ w2.heap.size; omega) _).setCell (p := ⟨w2.heap.size, 1, none⟩) (by show w.heap.size ≤ w2.heap.size; omega) _).trans (hb.mono (by simp; omega))
  clear l0 l1 l2 l3 l4 l5 l6 l7 p0 p1 p2 p3 p4 p5 p6 p7 v1 v2 v3
  clear u0 u1 u2 u3 hb
  have u0 := g0
  have u1 := g1
  have u2 := g2
  have u3 := g3
  clear g0 g1 g2 g3
  obtain ⟨l0, l1, l2, l3, l4, l5, l6, l7⟩ := u0.cells
  obtain ⟨p0, p1, p2, p3⟩ := u1.two
  obtain ⟨p4, p5, p6, p7⟩ := u2.two
  have v1 := u0.lt
  have v2 := u1.lt
  have v3 := u2.lt
  go_wp2_with fail
  refine (last_any i f t d m c g y a _ hy0 hy1).mono ?_
  rintro e w9 ⟨r2, hr2, rfl, hb⟩
  have g0 : LegAt w9 w.heap.size i f t d m c g y := BlockAt.below (t := 23) u0 hb
  have g1 : BlockAt w9 w1.heap.size #[.int .i64 (rA d r1), .int .i64 (rB d m r1)] 28 := u1.below hb
  have g2 : BlockAt w9 w2.heap.size #[.int .i64 (rA d r1), .int .i64 (rB d m r1)] 50 := u2.below hb
  have g3 : Below w.heap.size w w9 := u3.trans (hb.mono (by omega))
  clear l0 l1 l2 l3 l4 l5 l6 l7 p0 p1 p2 p3 p4 p5 p6 p7 v1 v2 v3
  clear u0 u1 u2 u3 hb
  have u0 := g0
  have u1 := g1
  have u2 := g2
  have u3 := g3
  clear g0 g1 g2 g3
  obtain ⟨l0, l1, l2, l3, l4, l5, l6, l7⟩ := u0.cells
  obtain ⟨p0, p1, p2, p3⟩ := u1.two
  obtain ⟨p4, p5, p6, p7⟩ := u2.two
  have v1 := u0.lt
  have v2 := u1.lt
  have v3 := u2.lt
  go_wp2_with fail
  refine (reflast_p i f t d m c g y a _ hy0 hy1).mono ?_
  rintro e w10 ⟨s, hs, rfl, hb⟩
  obtain rfl := last_unique hr2 hs
  have g0 : LegAt w10 w.heap.size i f t d m c g y := BlockAt.below (t := 23) (BlockAt.other (t := 23) (BlockAt.other (t := 23) u0 ne1 _) ne1 _) hb
  have g1 : BlockAt w10 w1.heap.size #[.int .i64 (rA d r2), .int .i64 (rB d m r2)] 28 := ((u1.set20 _).set21 _).below hb
  have g2 : BlockAt w10 w2.heap.size #[.int .i64 (rA d r1), .int .i64 (rB d m r1)] 50 := ((u2.other ne6 _).other ne6 _).below hb
  have g3 : Below w.heap.size w w10 := ((u3.setCell (p := ⟨w1.heap.size, 0, none⟩) (by show w.heap.size ≤ w1.heap.size; omega) _).setCell (p := ⟨w1.heap.size, 1, none⟩) (by show w.heap.size ≤ w1.heap.size; omega) _).trans (hb.mono (by simp; omega))
  clear l0 l1 l2 l3 l4 l5 l6 l7 p0 p1 p2 p3 p4 p5 p6 p7 v1 v2 v3
  clear u0 u1 u2 u3 hb hs hr2
  have u0 := g0
  have u1 := g1
  have u2 := g2
  have u3 := g3
  clear g0 g1 g2 g3
  obtain ⟨l0, l1, l2, l3, l4, l5, l6, l7⟩ := u0.cells
  obtain ⟨p0, p1, p2, p3⟩ := u1.two
  obtain ⟨p4, p5, p6, p7⟩ := u2.two
  have v1 := u0.lt
  have v2 := u1.lt
  have v3 := u2.lt
  go_wp2_with fail
  refine (same_any _ _ _ _ _ _ _).mono ?_
  rintro e w11 ⟨he, hb⟩
  rw [sameB_refl] at he
  subst he
  have g0 : LegAt w11 w.heap.size i f t d m c g y := BlockAt.below (t := 23) (BlockAt.other (t := 23) (BlockAt.other (t := 23) u0 ne2 _) ne2 _) hb
  have g1 : BlockAt w11 w1.heap.size #[.int .i64 (rA d r2), .int .i64 (rB d m r2)] 28 := ((u1.other ne3 _).other ne3 _).below hb
  have g2 : BlockAt w11 w2.heap.size #[.int .i64 (rA d r2), .int .i64 (rB d m r2)] 50 := ((u2.set20 _).set21 _).below hb
  have g3 : Below w.heap.size w w11 := ((u3.setCell (p := ⟨w2.heap.size, 0, none⟩) (by show w.heap.size ≤ w2.heap.size; omega) _).setCell (p := ⟨w2.heap.size, 1, none⟩) (by show w.heap.size ≤ w2.heap.size; omega) _).trans (hb.mono (by simp; omega))
  clear l0 l1 l2 l3 l4 l5 l6 l7 p0 p1 p2 p3 p4 p5 p6 p7 v1 v2 v3
  clear u0 u1 u2 u3 hb
  have u0 := g0
  have u1 := g1
  have u2 := g2
  have u3 := g3
  clear g0 g1 g2 g3
  obtain ⟨l0, l1, l2, l3, l4, l5, l6, l7⟩ := u0.cells
  obtain ⟨p0, p1, p2, p3⟩ := u1.two
  obtain ⟨p4, p5, p6, p7⟩ := u2.two
  have v1 := u0.lt
  have v2 := u1.lt
  have v3 := u2.lt
  go_wp2_with fail
  cases hR : rightB i f t d m c g y with
  | false =>
    refine (list_wrong i f t d m c g y a b _ hy0 hy1 hR).mono ?_
    rintro e w12 ⟨rfl, hb⟩
    have g0 : LegAt w12 w.heap.size i f t d m c g y := BlockAt.below (t := 23) u0 hb
    have g3 : Below w.heap.size w w12 := u3.trans (hb.mono (by omega))
    clear l0 l1 l2 l3 l4 l5 l6 l7 p0 p1 p2 p3 p4 p5 p6 p7 v1 v2 v3
    clear u0 u1 u2 u3 hb
    obtain ⟨l0, l1, l2, l3, l4, l5, l6, l7⟩ := g0.cells
    have v1 := g0.lt
    have HR := Lib.hid hR
    clear hR
    go_wp2_with fail
    refine (reflist_wrong i f t d m c g y a b _ hy0 hy1 HR.out).mono ?_
    rintro e w13 ⟨rfl, hb⟩
    have h3 := g3.trans (hb.mono (by omega))
    clear l0 l1 l2 l3 l4 l5 l6 l7 hb
    go_wp2_with fail
    refine wp_loop_rounds 1 ?_
    rw [rounds_succ]
    go_wp2
    go_ret
    exact ⟨rfl, h3⟩
  | true =>
    have HR := Lib.hid hR
    clear hR
    refine (list_right i f t d m c g y a b _ hy0 hy1 HR.out).mono ?_
    rintro e w12 ⟨ds, hds, (⟨hlen, v, rfl, xo⟩ | ⟨hlong, rfl⟩), hb⟩
    all_goals
      have g0 : LegAt w12 w.heap.size i f t d m c g y := BlockAt.below (t := 23) u0 hb
      have g3 : Below w.heap.size w w12 := u3.trans (hb.mono (by omega))
      clear l0 l1 l2 l3 l4 l5 l6 l7 p0 p1 p2 p3 p4 p5 p6 p7 v1 v2 v3
      clear u0 u1 u2 u3 hb
      obtain ⟨l0, l1, l2, l3, l4, l5, l6, l7⟩ := g0.cells
      have v1 := g0.lt
    · obtain ⟨p, cp, rfl⟩ := ownsRow_form xo
      go_wp2_with fail
      refine (reflist_right i f t d m c g y a b _ hy0 hy1 HR.out).mono ?_
      rintro e w13 ⟨ds', hds', (⟨hlen', v', rfl, yo⟩ | ⟨hlong', rfl⟩), hb⟩
      · obtain rfl := isList_unique hds hds'
        obtain ⟨p', cp', rfl⟩ := ownsRow_form yo
        have xo2 := ownsRow_none xo hb
        have h3 := g3.trans (hb.mono (by omega))
        clear l0 l1 l2 l3 l4 l5 l6 l7 hb xo hds hds'
        go_wp2_with fail
        go_loopw [15] (fun iv wr => ∃ k : Nat, iv = .int .i64 k ∧ k ≤ ds.length ∧ wr.ownsRow w11.heap.size 28 2 (.slice p ds.length cp) ds.length (depCells d m ds) ∧ wr.ownsRow w12.heap.size 50 2 (.slice p' ds.length cp') ds.length (depCells d m ds) ∧ Below w.heap.size w wr)
          (fun iv _ => ds.length - (intOf iv).toNat)
        case atStart => exact ⟨0, rfl, Nat.zero_le _, xo2, yo, h3⟩
        case round =>
          obtain ⟨k, rfl, hk, xr, yr, hX⟩ := hrel
          by_cases hlt : k < ds.length
          · obtain ⟨gp, rfl, hgp⟩ : ∃ gp, p = some ⟨gp, 0, none⟩ ∧ gp < wr.heap.size := by
              rcases xr.2 with ⟨_, h0⟩ | ⟨g1, cap, cur, h1, _, h2, _⟩
              · omega
              · exact ⟨g1, by cases h1; rfl, (Array.getElem?_eq_some_iff.1 h2).1⟩
            obtain ⟨gq, rfl, hgq⟩ : ∃ gq, p' = some ⟨gq, 0, none⟩ ∧ gq < wr.heap.size := by
              rcases yr.2 with ⟨_, h0⟩ | ⟨g1, cap, cur, h1, _, h2, _⟩
              · omega
              · exact ⟨g1, by cases h1; rfl, (Array.getElem?_eq_some_iff.1 h2).1⟩
            obtain ⟨x, hx1, hx2⟩ := depCells_at d m ds k hlt
            have k1 := (xr.cellAt (k * 2) (by omega)).trans hx1
            have k2 := (xr.cellAt (k * 2 + 1) (by omega)).trans hx2
            have k3 := (yr.cellAt (k * 2) (by omega)).trans hx1
            have k4 := (yr.cellAt (k * 2 + 1) (by omega)).trans hx2
            clear hx1 hx2
            have hlti : (k : Int) < (ds.length : Int) := by omega
            go_wp2_with fail
            go_region_held3 (fun w' => w'.cell? ⟨gp, k * 2, none⟩ = some (.int .i64 (1440 * x + d)) ∧ w'.cell? ⟨gp, k * 2 + 1, none⟩ = some (.int .i64 (1440 * x + d + m)) ∧ w'.cell? ⟨gq, k * 2, none⟩ = some (.int .i64 (1440 * x + d)) ∧ w'.cell? ⟨gq, k * 2 + 1, none⟩ = some (.int .i64 (1440 * x + d + m))) (go_keep)
              (first | (go_at_call 29; refine (same_any _ _ _ _ _ _ _).mono ?_; rintro e w5 ⟨he, hb5⟩; rw [sameB_refl] at he; subst he; have hc5 : ∀ b o, b < wr.heap.size → w5.cell? ⟨b, o, none⟩ = wr.cell? ⟨b, o, none⟩ := (bcell hb5).1))
            go_wp2
            go_roundw
            case rel => exact ⟨k + 1, by go_num, by omega, ownsRow_none (show wr.drew.ownsRow w11.heap.size 28 2 _ _ _ from xr) hb5, ownsRow_none (show wr.drew.ownsRow w12.heap.size 50 2 _ _ _ from yr) hb5, hX.drew.trans (hb5.mono (show w.heap.size ≤ wr.heap.size from hX.size))⟩
            case measure => simp [intOf]; omega
          · go_wp2
            go_ret
            exact ⟨rfl, hX⟩
      · obtain rfl := isList_unique hds hds'
        omega
    · go_wp2_with fail
      refine (reflist_right i f t d m c g y a b _ hy0 hy1 HR.out).mono ?_
      rintro e w13 ⟨ds', hds', (⟨hlen', v', rfl, yo⟩ | ⟨hlong', rfl⟩), hb⟩
      · obtain rfl := isList_unique hds hds'
        omega
      · have h3 := g3.trans (hb.mono (by omega))
        clear l0 l1 l2 l3 l4 l5 l6 l7 hb hds hds'
        go_wp2_with fail
        refine wp_loop_rounds 1 ?_
        rw [rounds_succ]
        go_wp2
        go_ret
        exact ⟨rfl, h3⟩
end Go.Proofs.Ytogofbncdggigaa
