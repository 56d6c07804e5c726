/-
  The walk of NetworkOrder.
-/
import Derived.Test.YtogofbncdggigaaNq
import Derived.Test.YtogofbncdggigaaNu
namespace Go.Proofs.Ytogofbncdggigaa
open Go.RowKit Net

theorem next_mono_none {on : Int → Bool} {d c a b : Int} (h : IsNext on d c a none) (hab : a ≤ b) : IsNext on d c b none := fun j hj => by have := h j hj; omega
theorem next_mono_some {on : Int → Bool} {d c a b k k2 : Int} (h : IsNext on d c a (some k)) (h2 : IsNext on d c b (some k2)) (hab : a ≤ b) : k ≤ k2 := by
  by_cases e : k2 < k
  · have := h.2.2 k2 e h2.1; have := h2.2.1; omega
  · omega
theorem next_self {on : Int → Bool} {d c k : Int} (h : on k = true) : IsNext on d c (1440 * k + d - c) (some k) := ⟨h, by omega, fun j hj _ => by omega⟩
theorem last_self {on : Int → Bool} {d m k : Int} (h : on k = true) : IsLast on d m (1440 * k + d + m) (some k) := ⟨h, by omega, fun j hj _ => by omega⟩

set_option maxRecDepth 100000 in
set_option maxHeartbeats 8000000 in
theorem networkorder_any (i f t d m c g y a b : Int) (w : World) (hy0 : 0 ≤ y) (hy1 : y ≤ 255) :
    Calls Try.prog 6 #[.agg #[.int .i64 i, .int .i64 f, .int .i64 t, .int .i64 d, .int .i64 m, .int .i64 c, .int .i64 g, .int .u8 y], .int .i64 a, .int .i64 b] w fun e w' => e = .returned (.bool true) ∧ Below w.heap.size w w' := by
  go_enter Try.func6, Try.ntmps6
  go_wp2_with fail
  refine (awake_any _).mono ?_
  rintro e w1 ⟨rfl, hb⟩
  have u0 : LegAt w1 w.heap.size i f t d m c g y := BlockAt.below (t := 23) (BlockAt.new w #[.int .i64 i, .int .i64 f, .int .i64 t, .int .i64 d, .int .i64 m, .int .i64 c, .int .i64 g, .int .u8 y] 23) hb
  have uB : Below w.heap.size w w1 := ((Below.refl _ w).alloc (Nat.le_refl _) _).trans (hb.mono (by simp))
  clear hb
  obtain ⟨l0, l1, l2, l3, l4, l5, l6, l7⟩ := LegAt.cells u0
  have v0 := u0.lt
  go_wp2_with fail
  refine (right_any i f t d m c g y _ hy0 hy1).mono ?_
  cases hr : rightB i f t d m c g y with
  | false =>
    have HR := Lib.hid hr
    clear hr
    rintro e w2 ⟨rfl, hb⟩
    have tB := uB.trans (hb.mono (by omega))
    clear l0 l1 l2 l3 l4 l5 l6 l7 v0 u0 uB hb
    go_wp2
    go_ret
    exact ⟨rfl, tB⟩
  | true =>
    have hlaw := onLaw hr
    obtain ⟨_, _, _, _, _, _, _, _, _, _, _, _, _, _, _, _, _⟩ := rightB_iff.1 hr
    have HR := Lib.hid hr
    have HL := Lib.hid hlaw
    clear hr hlaw
    rintro e w2 ⟨rfl, hb⟩
    have t0 : LegAt w2 w.heap.size i f t d m c g y := BlockAt.below (t := 23) u0 hb
    have tB := uB.trans (hb.mono (by omega))
    clear l0 l1 l2 l3 l4 l5 l6 l7 v0 u0 uB hb
    obtain ⟨l0, l1, l2, l3, l4, l5, l6, l7⟩ := LegAt.cells t0
    have v0 := t0.lt
    obtain ⟨A, hA⟩ : ∃ A, pickI a 1051898400 = A := ⟨_, rfl⟩
    obtain ⟨B, hB⟩ : ∃ B, pickI b 1051898400 = B := ⟨_, rfl⟩
    have hA0 := pickI_bd a 1051898400 (by omega)
    have hB0 := pickI_bd b 1051898400 (by omega)
    rw [hA] at hA0
    rw [hB] at hB0
    obtain ⟨hA1, hA2⟩ := hA0
    obtain ⟨hB1, hB2⟩ := hB0
    go_wp2_with fail
    refine (pick_any a 1051898400 _ (by omega) (by omega)).mono ?_
    rintro e w' ⟨rfl, rfl⟩
    rw [hA]
    clear hA
    go_wp2_with fail
    refine (pick_any b 1051898400 _ (by omega) (by omega)).mono ?_
    rintro e w' ⟨rfl, rfl⟩
    rw [hB]
    clear hB
    obtain ⟨P, Q, hPQ, hcase⟩ : ∃ P Q : Int, P ≤ Q ∧ ((A > B ∧ P = B ∧ Q = A) ∨ (¬ A > B ∧ P = A ∧ Q = B)) := by
      by_cases e : A > B
      · exact ⟨B, A, by omega, .inl ⟨e, rfl, rfl⟩⟩
      · exact ⟨A, B, by omega, .inr ⟨e, rfl, rfl⟩⟩
    rcases hcase with ⟨hgt, rfl, rfl⟩ | ⟨hgt, rfl, rfl⟩
    all_goals
      go_wp2_with fail
      refine (next_any i f t d m c g y _ _ hy0 hy1).mono ?_
      rintro e w3 ⟨r, hr, rfl, hb⟩
      have s0 : LegAt w3 w.heap.size i f t d m c g y := BlockAt.below (t := 23) t0 hb
      have sB := tB.trans (hb.mono (by omega))
      clear l0 l1 l2 l3 l4 l5 l6 l7 v0 t0 tB hb
      obtain ⟨l0, l1, l2, l3, l4, l5, l6, l7⟩ := LegAt.cells s0
      have v0 := s0.lt
      have Hr := Lib.hid hr
      clear hr
      go_wp2_with fail
      refine (next_any i f t d m c g y _ _ hy0 hy1).mono ?_
      rintro e w4 ⟨s, hs, rfl, hb⟩
      have x0 : LegAt w4 w.heap.size i f t d m c g y := BlockAt.below (t := 23) (BlockAt.alloc (t := 23) s0 _) hb
      have x1 : BlockAt w4 w3.heap.size #[.int .i64 (rA d r), .int .i64 (rB d m r)] 28 := (BlockAt.new w3 _ 28).below hb
      have xB := (sB.alloc sB.size _).trans (hb.mono (by simp; have := sB.size; omega))
      clear l0 l1 l2 l3 l4 l5 l6 l7 v0 s0 sB hb
      cases r with
      | none =>
        obtain rfl := next_unique hs (next_mono_none Hr.out hPQ)
        clear hs
        simp only [rA, rB, rP] at x1 ⊢
        go_wp2
        go_ret
        exact ⟨rfl, xB.alloc xB.size _⟩
      | some k =>
        have hk := Hr.out.1
        have hk0 := HL.out.day0 k hk
        have hk1 := HL.out.day1 k hk
        have hk2 := HL.out.lo k hk
        have hk3 := HL.out.hi k hk
        have Hk := Lib.hid hk
        clear hk
        have hlater : s = none ∨ ∃ k2, s = some k2 ∧ k ≤ k2 ∧ k2 ≤ 730484 := by
          cases s with
          | none => exact .inl rfl
          | some k2 => exact .inr ⟨k2, rfl, next_mono_some Hr.out hs hPQ, HL.out.day1 k2 hs.1⟩
        clear hs Hr
        simp only [rA, rB, rP] at x1 ⊢
        obtain ⟨l0, l1, l2, l3, l4, l5, l6, l7⟩ := LegAt.cells x0
        obtain ⟨p0, p1, _, _⟩ := x1.two
        have v0 := x0.lt
        have v1 := x1.lt
        rcases hlater with rfl | ⟨k2, rfl, hk4, hk5⟩
        all_goals
          simp only [rA, rB, rP]
          go_wp2_with fail
          refine (next_any i f t d m c g y _ _ hy0 hy1).mono ?_
          rintro e w5 ⟨r5, hr5, rfl, hb⟩
          obtain rfl := next_unique hr5 (next_self Hk.out)
          simp only [rA, rB, rP]
          have a0 : LegAt w5 w.heap.size i f t d m c g y := BlockAt.below (t := 23) (BlockAt.alloc (t := 23) x0 _) hb
          have a1 : BlockAt w5 w3.heap.size #[.int .i64 (1440 * k + d), .int .i64 (1440 * k + d + m)] 28 := (x1.alloc _).below hb
          have aB := (xB.alloc xB.size _).trans (hb.mono (by simp; have := xB.size; omega))
          clear l0 l1 l2 l3 l4 l5 l6 l7 p0 p1 v0 v1 x0 x1 xB hb hr5
          obtain ⟨l0, l1, l2, l3, l4, l5, l6, l7⟩ := LegAt.cells a0
          obtain ⟨p0, p1, _, _⟩ := a1.two
          have v0 := a0.lt
          have v1 := a1.lt
          go_wp2_with fail
          refine (last_any i f t d m c g y _ _ hy0 hy1).mono ?_
          rintro e w6 ⟨r6, hr6, rfl, hb⟩
          obtain rfl := last_unique hr6 (last_self Hk.out)
          simp only [rA, rB, rP]
          have c0 : LegAt w6 w.heap.size i f t d m c g y := BlockAt.below (t := 23) (BlockAt.alloc (t := 23) a0 _) hb
          have c1 : BlockAt w6 w3.heap.size #[.int .i64 (1440 * k + d), .int .i64 (1440 * k + d + m)] 28 := (a1.alloc _).below hb
          have c2 : BlockAt w6 w5.heap.size #[.int .i64 (1440 * k + d), .int .i64 (1440 * k + d + m)] 28 := (BlockAt.new w5 _ 28).below hb
          have cB := (aB.alloc aB.size _).trans (hb.mono (by simp; have := aB.size; omega))
          clear l0 l1 l2 l3 l4 l5 l6 l7 p0 p1 v0 v1 a0 a1 aB hb hr6
          obtain ⟨l0, l1, l2, l3, l4, l5, l6, l7⟩ := LegAt.cells c0
          obtain ⟨p0, p1, _, _⟩ := c1.two
          have v0 := c0.lt
          have v1 := c1.lt
          go_wp2_with fail
          refine (next_any i f t d m c g y _ _ hy0 hy1).mono ?_
          rintro e w7 ⟨r7, hr7, rfl, hb⟩
          have e0 : LegAt w7 w.heap.size i f t d m c g y := BlockAt.below (t := 23) (BlockAt.alloc (t := 23) c0 _) hb
          have e1 : BlockAt w7 w3.heap.size #[.int .i64 (1440 * k + d), .int .i64 (1440 * k + d + m)] 28 := (c1.alloc _).below hb
          have e2 : BlockAt w7 w5.heap.size #[.int .i64 (1440 * k + d), .int .i64 (1440 * k + d + m)] 28 := (c2.alloc _).below hb
          have e3 : BlockAt w7 w6.heap.size #[.int .i64 (1440 * k + d), .int .i64 (1440 * k + d + m)] 28 := (BlockAt.new w6 _ 28).below hb
          have eB := (cB.alloc cB.size _).trans (hb.mono (by simp; have := cB.size; omega))
          clear l0 l1 l2 l3 l4 l5 l6 l7 p0 p1 v0 v1 c0 c1 c2 cB hb
          obtain ⟨l0, l1, l2, l3, l4, l5, l6, l7⟩ := LegAt.cells e0
          obtain ⟨p0, p1, _, _⟩ := e1.two
          have v0 := e0.lt
          have v1 := e1.lt
          have h7 : r7 = none ∨ ∃ k7, r7 = some k7 ∧ k < k7 := by
            cases r7 with
            | none => exact .inl rfl
            | some k7 => exact .inr ⟨k7, rfl, by have := hr7.2.1; omega⟩
          clear hr7
          go_wp2_with fail
          refine (last_any i f t d m c g y _ _ hy0 hy1).mono ?_
          rintro e w8 ⟨r8, hr8, rfl, hb⟩
          have g1 : BlockAt w8 w3.heap.size #[.int .i64 (1440 * k + d), .int .i64 (1440 * k + d + m)] 28 := (e1.alloc _).below hb
          have g2 : BlockAt w8 w5.heap.size #[.int .i64 (1440 * k + d), .int .i64 (1440 * k + d + m)] 28 := (e2.alloc _).below hb
          have g3 : BlockAt w8 w6.heap.size #[.int .i64 (1440 * k + d), .int .i64 (1440 * k + d + m)] 28 := (e3.alloc _).below hb
          have g4 : BlockAt w8 w7.heap.size #[.int .i64 (rA d r7), .int .i64 (rB d m r7)] 28 := (BlockAt.new w7 _ 28).below hb
          have gB := (eB.alloc eB.size _).trans (hb.mono (by simp; have := eB.size; omega))
          clear l0 l1 l2 l3 l4 l5 l6 l7 p0 p1 v0 v1 e0 e1 e2 e3 eB hb
          have h8 : r8 = none ∨ ∃ k8, r8 = some k8 ∧ k8 < k := by
            cases r8 with
            | none => exact .inl rfl
            | some k8 => exact .inr ⟨k8, rfl, by have := hr8.2.1; omega⟩
          clear hr8
          obtain ⟨p0, p1, _, _⟩ := g1.two
          obtain ⟨p2, p3, _, _⟩ := g2.two
          obtain ⟨p4, p5, _, _⟩ := g3.two
          obtain ⟨p6, p7, _, _⟩ := g4.two
          have v1 := g1.lt
          have v2 := g2.lt
          have v3 := g3.lt
          have v4 := g4.lt
          rcases h7 with rfl | ⟨k7, rfl, h7⟩ <;> rcases h8 with rfl | ⟨k8, rfl, h8⟩
          all_goals
            simp only [rA, rB, rP] at p6 p7 ⊢
            go_wp2
            go_ret
            exact ⟨rfl, gB.alloc gB.size _⟩
end Go.Proofs.Ytogofbncdggigaa
