/-
  The walk of NetworkSmall.
-/
import Derived.LoopTactic
import Derived.Test.YtogofbncdggigaaNq
import Derived.Test.YtogofbncdggigaaNp
import Derived.Test.YtogofbncdggigaaNfb
namespace Go.Proofs.Ytogofbncdggigaa
open Go.RowKit Net

set_option maxRecDepth 100000 in
set_option maxHeartbeats 20000000 in
theorem networksmall_any (w : World) : Calls Try.prog 8 #[] w fun e w' => e = .returned (.bool true) ∧ Below w.heap.size w w' := by
  go_enter Try.func8, Try.ntmps8
  go_wp2_with fail
  go_loopw [1] (fun dv wr => ∃ q : Nat, dv = .int .i64 q ∧ q ≤ 256 ∧ Below w.heap.size w wr)
    (fun dv _ => 256 - (intOf dv).toNat)
  case atStart => exact ⟨0, rfl, by omega, Below.refl _ _⟩
  case round =>
    obtain ⟨q, rfl, hq, xB⟩ := hrel
    by_cases hlt : q < 256
    · have hlti : (q : Int) < 256 := by omega
      go_wp2_with fail
      go_loopw [2] (fun iv wr => ∃ i : Nat, iv = .int .i64 i ∧ i ≤ 12 ∧ Below w.heap.size w wr)
        (fun iv _ => 12 - (intOf iv).toNat)
      case atStart => exact ⟨0, rfl, by omega, xB⟩
      case round =>
        clear xB
        obtain ⟨i, rfl, hi, xB⟩ := hrel
        by_cases hlt2 : i < 12
        · have hlti2 : (i : Int) < 12 := by omega
          obtain ⟨j, hj⟩ : ∃ j : Nat, (i : Int) % 4 = (j : Int) := ⟨i % 4, by omega⟩
          obtain ⟨j2, hj2⟩ : ∃ j : Nat, (i : Int) % 3 = (j : Int) := ⟨i % 3, by omega⟩
          obtain ⟨j3, hj3⟩ : ∃ j : Nat, ((i : Int) + (q : Int)) % 4 = (j : Int) := ⟨(i + q) % 4, by omega⟩
          obtain ⟨D, hD, hD0, hD1⟩ : ∃ D : Int, ([.int .i64 0, .int .i64 1, .int .i64 600, .int .i64 1439] : List Value)[j]? = some (.int .i64 D) ∧ 0 ≤ D ∧ D ≤ 1439 := by
            rcases (by omega : j = 0 ∨ j = 1 ∨ j = 2 ∨ j = 3) with rfl | rfl | rfl | rfl
            all_goals exact ⟨_, rfl, by omega, by omega⟩
          obtain ⟨M, hM, hM0, hM1⟩ : ∃ D : Int, ([.int .i64 1, .int .i64 1440, .int .i64 20160] : List Value)[j2]? = some (.int .i64 D) ∧ 0 ≤ D ∧ D ≤ 20160 := by
            rcases (by omega : j2 = 0 ∨ j2 = 1 ∨ j2 = 2) with rfl | rfl | rfl
            all_goals exact ⟨_, rfl, by omega, by omega⟩
          obtain ⟨C, hC, hC0, hC1⟩ : ∃ D : Int, ([.int .i64 0, .int .i64 30, .int .i64 1440, .int .i64 10080] : List Value)[j3]? = some (.int .i64 D) ∧ 0 ≤ D ∧ D ≤ 10080 := by
            rcases (by omega : j3 = 0 ∨ j3 = 1 ∨ j3 = 2 ∨ j3 = 3) with rfl | rfl | rfl | rfl
            all_goals exact ⟨_, rfl, by omega, by omega⟩
          go_wp2_with (go_at_call 19; refine (monday_any _).mono ?_; rintro e w1 ⟨rfl, hb⟩)
          have uB := xB.trans (hb.mono (by have := xB.size; omega))
          have hsz := uB.size
          go_loopw [4] (fun kv wr => ∃ k : Nat, kv = .int .i64 k ∧ k ≤ 6 ∧ LegAt wr w1.heap.size 7 1 2 D M C 0 q ∧ Below w.heap.size w wr)
            (fun kv _ => 6 - (intOf kv).toNat)
          case atStart =>
            refine ⟨0, rfl, by omega, ?_, ?_⟩
            · exact BlockAt.alloc (t := 23) (BlockAt.alloc (t := 23) (BlockAt.alloc (t := 23) (BlockAt.new w1 #[.int .i64 7, .int .i64 1, .int .i64 2, .int .i64 D, .int .i64 M, .int .i64 C, .int .i64 0, .int .u8 q] 23) _) _) _
            · exact (((uB.alloc (by omega) _).alloc (by simp; omega) _).alloc (by simp; omega) _).alloc (by simp; omega) _
          case round =>
            clear hb uB xB
            obtain ⟨k, rfl, hk, yL, yB⟩ := hrel
            by_cases hlt3 : k < 6
            · obtain ⟨l0, l1, l2, l3, l4, l5, l6, l7⟩ := LegAt.cells yL
              have v0 := yL.lt
              have hlti3 : (k : Int) < 6 := by omega
              obtain ⟨E, hE, hE0, hE1⟩ : ∃ E : Int, ([.int .i64 0, .int .i64 D, .int .i64 (D - C), .int .i64 (D + M), .int .i64 (D + 1), .int .i64 (D - C + 1)] : List Value)[k]? = some (.int .i64 E) ∧ -10080 ≤ E ∧ E ≤ 21600 := by
                rcases (by omega : k = 0 ∨ k = 1 ∨ k = 2 ∨ k = 3 ∨ k = 4 ∨ k = 5) with rfl | rfl | rfl | rfl | rfl | rfl
                all_goals exact ⟨_, rfl, by omega, by omega⟩
              clear hD hM hC hj hj2 hj3
              have hE2 : ∀ h : k < ([.int .i64 0, .int .i64 D, .int .i64 (D - C), .int .i64 (D + M), .int .i64 (D + 1), .int .i64 (D - C + 1)] : List Value).length, ([.int .i64 0, .int .i64 D, .int .i64 (D - C), .int .i64 (D + M), .int .i64 (D + 1), .int .i64 (D - C + 1)] : List Value)[k]'h = .int .i64 E := fun h => by
                rw [List.getElem?_eq_getElem h] at hE
                exact Option.some.inj hE
              go_wp2_with fail
              refine (tells_any 7 1 2 D M C 0 (q : Int) _ _ _ (by omega) (by omega)).mono ?_
              rintro e w3 ⟨rfl, hb⟩
              have L3 : LegAt w3 w1.heap.size 7 1 2 D M C 0 q := BlockAt.below (t := 23) (BlockAt.alloc (t := 23) yL _) hb
              have B3 := (yB.alloc yB.size _).trans (hb.mono (by simp; have := yB.size; omega))
              clear l0 l1 l2 l3 l4 l5 l6 l7 v0 hb
              clear yL yB
              obtain ⟨l0, l1, l2, l3, l4, l5, l6, l7⟩ := LegAt.cells L3
              have v0 := L3.lt
              go_wp2_with fail
              refine (tells_any 7 1 2 D M C 0 (q : Int) _ _ _ (by omega) (by omega)).mono ?_
              rintro e w4 ⟨rfl, hb⟩
              have L4 : LegAt w4 w1.heap.size 7 1 2 D M C 0 q := BlockAt.below (t := 23) L3 hb
              have B4 := B3.trans (hb.mono (by have := B3.size; omega))
              clear l0 l1 l2 l3 l4 l5 l6 l7 v0 hb
              clear L3 B3
              obtain ⟨l0, l1, l2, l3, l4, l5, l6, l7⟩ := LegAt.cells L4
              have v0 := L4.lt
              go_wp2_with fail
              refine (tells_any 7 1 2 D M C 0 (q : Int) _ _ _ (by omega) (by omega)).mono ?_
              rintro e w5 ⟨rfl, hb⟩
              have L5 : LegAt w5 w1.heap.size 7 1 2 D M C 0 q := BlockAt.below (t := 23) L4 hb
              have B5 := B4.trans (hb.mono (by have := B4.size; omega))
              clear l0 l1 l2 l3 l4 l5 l6 l7 v0 hb
              clear L4 B4
              obtain ⟨l0, l1, l2, l3, l4, l5, l6, l7⟩ := LegAt.cells L5
              have v0 := L5.lt
              go_wp2_with fail
              refine (tells_any 7 1 2 D M C 0 (q : Int) _ _ _ (by omega) (by omega)).mono ?_
              rintro e w6 ⟨rfl, hb⟩
              have L6 : LegAt w6 w1.heap.size 7 1 2 D M C 0 q := BlockAt.below (t := 23) L5 hb
              have B6 := B5.trans (hb.mono (by have := B5.size; omega))
              clear l0 l1 l2 l3 l4 l5 l6 l7 v0 hb
              clear L5 B5
              obtain ⟨l0, l1, l2, l3, l4, l5, l6, l7⟩ := LegAt.cells L6
              have v0 := L6.lt
              go_wp2
              go_roundw
              case rel => exact ⟨k + 1, by go_num, by omega, L6, B6⟩
              case measure => simp [intOf]; omega
            · go_wp2
              go_roundw
              case rel => exact ⟨i + 1, by go_num, by omega, yB⟩
              case measure => simp [intOf]; omega
        · go_wp2
          go_roundw
          case rel => exact ⟨q + 1, by go_num, by omega, xB⟩
          case measure => simp [intOf]; omega
    · go_wp2_with fail
      obtain ⟨w0, hw0⟩ : ∃ w0, w0 = wr := ⟨_, rfl⟩
      subst hw0
      go_loopw [120] (fun av wz => ∃ a : Nat, av = .int .i64 a ∧ a ≤ 12 ∧ BlockAt wz w0.heap.size #[.int .i64 (-9223372036854775808), .int .i64 (-9223372036854775807), .int .i64 (-1), .int .i64 0, .int .i64 1, .int .i64 730484, .int .i64 730485, .int .i64 1051898398, .int .i64 1051898399, .int .i64 1051898400, .int .i64 9223372036854775806, .int .i64 9223372036854775807] 3 ∧ Below w.heap.size w wz)
        (fun av _ => 12 - (intOf av).toNat)
      case atStart => exact ⟨0, rfl, by omega, BlockAt.new w0 _ 3, xB.alloc xB.size _⟩
      case round =>
        clear xB
        obtain ⟨a, rfl, ha, hbk, yB⟩ := hrel
        by_cases hlt4 : a < 12
        · obtain ⟨X, hX⟩ : ∃ X, wr.cell? ⟨w0.heap.size, a, none⟩ = some (.int .i64 X) := by
            unfold BlockAt at hbk
            rcases (by omega : a = 0 ∨ a = 1 ∨ a = 2 ∨ a = 3 ∨ a = 4 ∨ a = 5 ∨ a = 6 ∨ a = 7 ∨ a = 8 ∨ a = 9 ∨ a = 10 ∨ a = 11) with rfl | rfl | rfl | rfl | rfl | rfl | rfl | rfl | rfl | rfl | rfl | rfl
            all_goals exact ⟨_, by simp [World.cell?, hbk]; rfl⟩
          have hlti4 : (a : Int) < 12 := by omega
          have v0 := hbk.lt
          go_wp2_with fail
          have yB2 := yB.alloc yB.size (.cells #[.int .i64 (-9223372036854775808), .int .i64 0, .int .i64 1439, .int .i64 1051898399, .int .i64 9223372036854775807] 3)
          have hbk2 := hbk.alloc (.cells #[.int .i64 (-9223372036854775808), .int .i64 0, .int .i64 1439, .int .i64 1051898399, .int .i64 9223372036854775807] 3)
          obtain ⟨w2, hw2⟩ : ∃ w2, w2 = wr := ⟨_, rfl⟩
          subst hw2
          go_loopw [130] (fun av wz => ∃ b : Nat, av = .int .i64 b ∧ b ≤ 5 ∧ BlockAt wz w0.heap.size #[.int .i64 (-9223372036854775808), .int .i64 (-9223372036854775807), .int .i64 (-1), .int .i64 0, .int .i64 1, .int .i64 730484, .int .i64 730485, .int .i64 1051898398, .int .i64 1051898399, .int .i64 1051898400, .int .i64 9223372036854775806, .int .i64 9223372036854775807] 3 ∧ BlockAt wz w2.heap.size #[.int .i64 (-9223372036854775808), .int .i64 0, .int .i64 1439, .int .i64 1051898399, .int .i64 9223372036854775807] 3 ∧ Below w.heap.size w wz)
            (fun av _ => 5 - (intOf av).toNat)
          case atStart => exact ⟨0, rfl, by omega, hbk2, BlockAt.new w2 _ 3, yB2⟩
          case round =>
            clear yB yB2 hbk hbk2 hX
            obtain ⟨b, rfl, hb5, hbk, hbk5, yB⟩ := hrel
            by_cases hlt5 : b < 5
            · obtain ⟨Y, hY⟩ : ∃ X, wr.cell? ⟨w2.heap.size, b, none⟩ = some (.int .i64 X) := by
                have hh := hbk5
                unfold BlockAt at hh
                rcases (by omega : b = 0 ∨ b = 1 ∨ b = 2 ∨ b = 3 ∨ b = 4) with rfl | rfl | rfl | rfl | rfl
                all_goals exact ⟨_, by simp [World.cell?, hh]; rfl⟩
              have hlti5 : (b : Int) < 5 := by omega
              have v1 := hbk5.lt
              go_wp2_with fail
              refine (monday_any _).mono ?_
              rintro e w3 ⟨rfl, hb3⟩
              have k3 := hbk.below hb3
              have k4 := hbk5.below hb3
              have B3 := yB.trans (hb3.mono (by have := yB.size; omega))
              clear hbk hbk5 yB hb3 hY v1
              go_wp2_with fail
              refine (tells_any 7 1 2 600 120 30 0 1 _ _ _ (by omega) (by omega)).mono ?_
              rintro e w4 ⟨rfl, hb4⟩
              have k5 := k3.below hb4
              have k6 := k4.below hb4
              have B4 := B3.trans (hb4.mono (by have := B3.size; omega))
              clear k3 k4 B3 hb4
              go_wp2
              go_roundw
              case rel => exact ⟨b + 1, by go_num, by omega, k5, k6, B4⟩
              case measure => simp [intOf]; omega
            · go_wp2
              go_roundw
              case rel => exact ⟨a + 1, by go_num, by omega, hbk, yB⟩
              case measure => simp [intOf]; omega
        · go_wp2_with fail
          go_loopw [11] (fun nv wz => ∃ n : Nat, nv = .int .i64 n ∧ 997 ≤ n ∧ n ≤ 1004 ∧ Below w.heap.size w wz)
            (fun nv _ => 1004 - (intOf nv).toNat)
          case atStart => exact ⟨997, rfl, by omega, by omega, yB⟩
          case round =>
            clear yB hbk
            obtain ⟨n, rfl, hn0, hn1, yB⟩ := hrel
            by_cases hlt6 : n < 1004
            · have hlti6 : (n : Int) < 1004 := by omega
              go_wp2_with fail
              refine (monday_any _).mono ?_
              rintro e w3 ⟨rfl, hb3⟩
              have B3 := yB.trans (hb3.mono (by have := yB.size; omega))
              clear yB hb3
              go_wp2_with fail
              refine (tells_any 7 1 2 600 120 30 0 127 _ _ _ (by omega) (by omega)).mono ?_
              rintro e w4 ⟨rfl, hb4⟩
              have B4 := (B3.alloc B3.size _).trans (hb4.mono (by simp; have := B3.size; omega))
              clear B3 hb4
              go_wp2_with fail
              refine (monday_any _).mono ?_
              rintro e w5 ⟨rfl, hb5⟩
              have B5 := B4.trans (hb5.mono (by have := B4.size; omega))
              clear B4 hb5
              go_wp2_with fail
              refine (tells_any 7 1 2 600 120 30 0 1 _ _ _ (by omega) (by omega)).mono ?_
              rintro e w6 ⟨rfl, hb6⟩
              have B6 := B5.trans (hb6.mono (by have := B5.size; omega))
              clear B5 hb6
              go_wp2
              go_roundw
              case rel => exact ⟨n + 1, by go_num, by omega, by omega, B6⟩
              case measure => simp [intOf]; omega
            · go_wp2_with fail
              refine (fields_any _).mono ?_
              rintro e w7 ⟨rfl, hb7⟩
              have B7 := yB.trans (hb7.mono yB.size)
              clear yB hb7
              go_wp2_with fail
              refine (awake_any _).mono ?_
              rintro e w8 ⟨rfl, hb8⟩
              go_wp2
              go_ret
              exact ⟨rfl, B7.trans (hb8.mono B7.size)⟩
end Go.Proofs.Ytogofbncdggigaa
