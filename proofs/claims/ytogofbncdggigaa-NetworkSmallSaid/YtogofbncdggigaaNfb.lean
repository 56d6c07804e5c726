/-
  The walk of fields.
-/
import Derived.LoopTactic
import Derived.Deep.Cut
import Derived.Deep.CutRange
import Derived.Deep.RegionHeld3
import Derived.Test.YtogofbncdggigaaNfc
import Derived.Test.YtogofbncdggigaaNva
import Derived.Test.YtogofbncdggigaaNp
import Derived.Test.YtogofbncdggigaaNgb
import Derived.OneCell
namespace Go.Proofs.Ytogofbncdggigaa
open Go.RowKit Net

theorem setsF {F : Nat} (h : F = 35 ∨ F = 36 ∨ F = 37 ∨ F = 38 ∨ F = 39 ∨ F = 40 ∨ F = 41) : SetsLeg F := by
  rcases h with rfl | rfl | rfl | rfl | rfl | rfl | rfl
  · exact sets0
  · exact sets1
  · exact sets2
  · exact sets3
  · exact sets4
  · exact sets5
  · exact sets6

set_option maxRecDepth 100000 in
set_option maxHeartbeats 20000000 in
theorem fields_any (w : World) : Calls Try.prog 20 #[] w fun e w' => e = .returned (.bool true) ∧ Below w.heap.size w w' := by
  go_enter Try.func20, Try.ntmps20
  go_wp2_with fail
  go_loopw [19] (fun av wz => ∃ a : Nat, av = .int .i64 a ∧ a ≤ 7 ∧ BlockAt wz w.heap.size #[.func (.func 35) #[] #[], .func (.func 36) #[] #[], .func (.func 37) #[] #[], .func (.func 38) #[] #[], .func (.func 39) #[] #[], .func (.func 40) #[] #[], .func (.func 41) #[] #[]] 64 ∧ Below w.heap.size w wz)
    (fun av _ => 7 - (intOf av).toNat)
  case atStart => exact ⟨0, rfl, by omega, BlockAt.new w _ 64, (Below.refl _ w).alloc (Nat.le_refl _) _⟩
  case round =>
    obtain ⟨a, rfl, ha, hbk, yB⟩ := hrel
    by_cases hlt : a < 7
    · obtain ⟨F, hF, HF⟩ : ∃ F : Nat, wr.cell? ⟨w.heap.size, a, none⟩ = some (.func (.func F) #[] #[]) ∧ (F = 35 ∨ F = 36 ∨ F = 37 ∨ F = 38 ∨ F = 39 ∨ F = 40 ∨ F = 41) := by
        have hh := hbk
        unfold BlockAt at hh
        rcases (by omega : a = 0 ∨ a = 1 ∨ a = 2 ∨ a = 3 ∨ a = 4 ∨ a = 5 ∨ a = 6) with rfl | rfl | rfl | rfl | rfl | rfl | rfl
        · exact ⟨35, by simp [World.cell?, hh], by decide⟩
        · exact ⟨36, by simp [World.cell?, hh], by decide⟩
        · exact ⟨37, by simp [World.cell?, hh], by decide⟩
        · exact ⟨38, by simp [World.cell?, hh], by decide⟩
        · exact ⟨39, by simp [World.cell?, hh], by decide⟩
        · exact ⟨40, by simp [World.cell?, hh], by decide⟩
        · exact ⟨41, by simp [World.cell?, hh], by decide⟩
      have hlti : (a : Int) < 7 := by omega
      have v0 := hbk.lt
      go_wp2_with fail
      have hbk2 := hbk.alloc (.cells #[.int .i64 (-1), .int .i64 0, .int .i64 1, .int .i64 2, .int .i64 3, .int .i64 1438, .int .i64 1439, .int .i64 1440, .int .i64 10079, .int .i64 10080, .int .i64 10081, .int .i64 20159, .int .i64 20160, .int .i64 20161, .int .i64 999998, .int .i64 999999, .int .i64 1000000, .int .i64 999999999, .int .i64 1000000000, .int .i64 1000000001] 3)
      have yB2 := yB.alloc yB.size (.cells #[.int .i64 (-1), .int .i64 0, .int .i64 1, .int .i64 2, .int .i64 3, .int .i64 1438, .int .i64 1439, .int .i64 1440, .int .i64 10079, .int .i64 10080, .int .i64 10081, .int .i64 20159, .int .i64 20160, .int .i64 20161, .int .i64 999998, .int .i64 999999, .int .i64 1000000, .int .i64 999999999, .int .i64 1000000000, .int .i64 1000000001] 3)
      obtain ⟨w0, hw0⟩ : ∃ w0, w0 = wr := ⟨_, rfl⟩
      subst hw0
      go_loopw [25] (fun bv wz => ∃ b : Nat, bv = .int .i64 b ∧ b ≤ 20 ∧ BlockAt wz w.heap.size #[.func (.func 35) #[] #[], .func (.func 36) #[] #[], .func (.func 37) #[] #[], .func (.func 38) #[] #[], .func (.func 39) #[] #[], .func (.func 40) #[] #[], .func (.func 41) #[] #[]] 64 ∧ BlockAt wz w0.heap.size #[.int .i64 (-1), .int .i64 0, .int .i64 1, .int .i64 2, .int .i64 3, .int .i64 1438, .int .i64 1439, .int .i64 1440, .int .i64 10079, .int .i64 10080, .int .i64 10081, .int .i64 20159, .int .i64 20160, .int .i64 20161, .int .i64 999998, .int .i64 999999, .int .i64 1000000, .int .i64 999999999, .int .i64 1000000000, .int .i64 1000000001] 3 ∧ Below w.heap.size w wz)
        (fun bv _ => 20 - (intOf bv).toNat)
      case atStart => exact ⟨0, rfl, by omega, hbk2, BlockAt.new w0 _ 3, yB2⟩
      case round =>
        clear hbk hbk2 yB yB2 hF v0
        obtain ⟨b, rfl, hb, k7, k20, yB⟩ := hrel
        by_cases hlt2 : b < 20
        · obtain ⟨n, hn, hn0, hn1⟩ : ∃ n : Int, wr.cell? ⟨w0.heap.size, b, none⟩ = some (.int .i64 n) ∧ -1 ≤ n ∧ n ≤ 1000000001 := by
            have hh := k20
            unfold BlockAt at hh
            rcases (by omega : b = 0 ∨ b = 1 ∨ b = 2 ∨ b = 3 ∨ b = 4 ∨ b = 5 ∨ b = 6 ∨ b = 7 ∨ b = 8 ∨ b = 9 ∨ b = 10 ∨ b = 11 ∨ b = 12 ∨ b = 13 ∨ b = 14 ∨ b = 15 ∨ b = 16 ∨ b = 17 ∨ b = 18 ∨ b = 19) with rfl | rfl | rfl | rfl | rfl | rfl | rfl | rfl | rfl | rfl | rfl | rfl | rfl | rfl | rfl | rfl | rfl | rfl | rfl | rfl
            all_goals exact ⟨_, by simp [World.cell?, hh]; rfl, by omega, by omega⟩
          have hlti2 : (b : Int) < 20 := by omega
          have v0 := k20.lt
          go_wp2_with fail
          refine (monday_any _).mono ?_
          rintro e w3 ⟨rfl, hb3⟩
          have k7b := k7.below hb3
          have k20b := k20.below hb3
          have B3 := yB.trans (hb3.mono (by have := yB.size; omega))
          have v3 := k20b.lt
          clear k7 k20 yB hb3 hn v0
          go_upto_region 9 with fail
          have sl : SomeLeg (w3.alloc (.cells #[.int .i64 7, .int .i64 1, .int .i64 2, .int .i64 600, .int .i64 120, .int .i64 30, .int .i64 0, .int .u8 1] 23)) w3.heap.size 1 := ⟨7, 1, 2, 600, 120, 30, 0, BlockAt.new w3 _ 23, by omega, by omega, by omega⟩
          have k7c := k7b.alloc (.cells #[.int .i64 7, .int .i64 1, .int .i64 2, .int .i64 600, .int .i64 120, .int .i64 30, .int .i64 0, .int .u8 1] 23)
          have k20c := k20b.alloc (.cells #[.int .i64 7, .int .i64 1, .int .i64 2, .int .i64 600, .int .i64 120, .int .i64 30, .int .i64 0, .int .u8 1] 23)
          have B4 := B3.alloc B3.size (.cells #[.int .i64 7, .int .i64 1, .int .i64 2, .int .i64 600, .int .i64 120, .int .i64 30, .int .i64 0, .int .u8 1] 23)
          have hsz3 := B3.size
          have hne : w0.heap.size < w3.heap.size := v3
          have hne2 : w.heap.size < w3.heap.size := k7b.lt
          clear k7b k20b B3
          go_cut [25] from 25 to 53 (fun cv wx => cv = .int .i64 b ∧ SomeLeg wx w3.heap.size 1 ∧ BlockAt wx w.heap.size #[.func (.func 35) #[] #[], .func (.func 36) #[] #[], .func (.func 37) #[] #[], .func (.func 38) #[] #[], .func (.func 39) #[] #[], .func (.func 40) #[] #[], .func (.func 41) #[] #[]] 64 ∧ BlockAt wx w0.heap.size #[.int .i64 (-1), .int .i64 0, .int .i64 1, .int .i64 2, .int .i64 3, .int .i64 1438, .int .i64 1439, .int .i64 1440, .int .i64 10079, .int .i64 10080, .int .i64 10081, .int .i64 20159, .int .i64 20160, .int .i64 20161, .int .i64 999998, .int .i64 999999, .int .i64 1000000, .int .i64 999999999, .int .i64 1000000000, .int .i64 1000000001] 3 ∧ Below w.heap.size w wx)
          case first =>
            rcases HF with rfl | rfl | rfl | rfl | rfl | rfl | rfl
            all_goals
              go_wp2_with fail
              refine (setsF (by decide) n _ _ _ (by omega) sl).mono ?_
              rintro e w5 ⟨rfl, sl5, hg5⟩
              go_wp2_with fail
              go_meet
              case rel => exact ⟨rfl, sl5, k7c.kept hg5 (by simp; omega), k20c.kept hg5 (by simp; omega), B4.grown hg5 (by simp; omega) (fun j hj => by cases hj; omega)⟩
          case rest =>
            clear sl k7c k20c B4
            obtain ⟨w4, hw4⟩ : ∃ w4, w4 = wc := ⟨_, rfl⟩
            subst hw4
            obtain ⟨rfl, ⟨li, lf, lt, ld, lm, lc, lg, sL, hi, hf, ht⟩, k7, k20, yB⟩ := hcut
            obtain ⟨l0, l1, l2, l3, l4, l5, l6, l7⟩ := sL.cells
            have v0 := sL.lt
            have hpf1 : ∀ p ∈ ([1, 2, 3, 999999] : List Int), -9223372036854775808 ≤ p ∧ p ≤ 9223372036854775807 := by decide
            have hpf2 : ∀ p ∈ ([1, 2, 3] : List Int), -9223372036854775808 ≤ p ∧ p ≤ 9223372036854775807 := by decide
            have hlf0 : Leg8.fits (⟨li, lf, lt, ld, lm, lc, lg, 1⟩ : Leg8) := ⟨by show _ ≤ li ∧ li ≤ _; omega, by show _ ≤ lf ∧ lf ≤ _; omega, by show _ ≤ lt ∧ lt ≤ _; omega, by show (0:Int) ≤ 1; omega, by show (1:Int) ≤ 255; omega⟩
            have hlf1 : ∀ l ∈ [(⟨li, lf, lt, ld, lm, lc, lg, 1⟩ : Leg8)], l.fits := fun l hl => by rw [List.mem_singleton.1 hl]; exact hlf0
            have hlf2 : ∀ l ∈ [(⟨7, 1, 2, 600, 120, 30, 0, 1⟩ : Leg8), (⟨li, lf, lt, ld, lm, lc, lg, 1⟩ : Leg8)], l.fits := fun l hl => by
              rcases List.mem_cons.1 hl with rfl | hl
              · unfold Leg8.fits; decide
              · exact hlf1 l hl
            go_upto_region 10 with fail
            go_region_held3 (fun w' => w'.cell? ⟨w3.heap.size, 0, none⟩ = some (.int .i64 li) ∧ w'.cell? ⟨w3.heap.size, 1, none⟩ = some (.int .i64 lf) ∧ w'.cell? ⟨w3.heap.size, 2, none⟩ = some (.int .i64 lt) ∧ w'.cell? ⟨w3.heap.size, 3, none⟩ = some (.int .i64 ld) ∧ w'.cell? ⟨w3.heap.size, 4, none⟩ = some (.int .i64 lm) ∧ w'.cell? ⟨w3.heap.size, 5, none⟩ = some (.int .i64 lc) ∧ w'.cell? ⟨w3.heap.size, 6, none⟩ = some (.int .i64 lg) ∧ w'.cell? ⟨w3.heap.size, 7, none⟩ = some (.int .u8 1)) (go_keep)
              (first
                | (go_at_call 11; refine (tells_any li lf lt ld lm lc lg 1 _ _ _ (by omega) (by omega)).mono ?_; rintro e w5 ⟨rfl, hb5⟩; have sL5 : BlockAt w5 w3.heap.size #[.int .i64 li, .int .i64 lf, .int .i64 lt, .int .i64 ld, .int .i64 lm, .int .i64 lc, .int .i64 lg, .int .u8 1] 23 := BlockAt.below (by repeat (first | exact sL | (with_reducible refine BlockAt.drew ?_) | (with_reducible refine BlockAt.alloc ?_ _))) hb5; obtain ⟨a50, a51, a52, a53, a54, a55, a56, a57⟩ := LegAt.cells sL5; have t5 := sL5.lt)
                | (go_at_call 19; refine (monday_any _).mono ?_; rintro e w7 ⟨rfl, hb7⟩; have sL7 : BlockAt w7 w3.heap.size #[.int .i64 li, .int .i64 lf, .int .i64 lt, .int .i64 ld, .int .i64 lm, .int .i64 lc, .int .i64 lg, .int .u8 1] 23 := BlockAt.below (by repeat (first | exact sL6 | (with_reducible refine BlockAt.drew ?_) | (with_reducible refine BlockAt.alloc ?_ _))) hb7; obtain ⟨a70, a71, a72, a73, a74, a75, a76, a77⟩ := LegAt.cells sL7; have t7 := sL7.lt)
                | (go_at_call 42; (with_reducible refine (valid_blocks [1, 2, 3, 999999] [⟨li, lf, lt, ld, lm, lc, lg, 1⟩] #[.int .i64 1, .int .i64 2, .int .i64 3, .int .i64 999999] #[.int .i64 li, .int .i64 lf, .int .i64 lt, .int .i64 ld, .int .i64 lm, .int .i64 lc, .int .i64 lg, .int .u8 1] _ _ _ _ _ _ _ ?_ ?_ ?_ ?_ ?_ ?_ hpf1 hlf1).mono ?_); (· (repeat (first | (with_reducible refine BlockAt.drew ?_) | (with_reducible refine BlockAt.new_at (by simp <;> omega)) | (with_reducible refine BlockAt.alloc ?_ _)))); (· (repeat (first | (with_reducible refine BlockAt.drew ?_) | (with_reducible refine BlockAt.new_at (by simp <;> omega)) | (with_reducible refine BlockAt.alloc ?_ _)))); (· rfl); (· rfl); (· rfl); (· rfl); rintro e w6 ⟨rfl, hb6⟩; have sL6 : BlockAt w6 w3.heap.size #[.int .i64 li, .int .i64 lf, .int .i64 lt, .int .i64 ld, .int .i64 lm, .int .i64 lc, .int .i64 lg, .int .u8 1] 23 := BlockAt.below (by repeat (first | exact sL5 | (with_reducible refine BlockAt.drew ?_) | (with_reducible refine BlockAt.alloc ?_ _))) hb6; obtain ⟨a60, a61, a62, a63, a64, a65, a66, a67⟩ := LegAt.cells sL6; have t6 := sL6.lt)
                | (go_at_call 42; (with_reducible refine (valid_blocks [1, 2, 3] [⟨7, 1, 2, 600, 120, 30, 0, 1⟩, ⟨li, lf, lt, ld, lm, lc, lg, 1⟩] #[.int .i64 1, .int .i64 2, .int .i64 3] #[.int .i64 7, .int .i64 1, .int .i64 2, .int .i64 600, .int .i64 120, .int .i64 30, .int .i64 0, .int .u8 1, .int .i64 li, .int .i64 lf, .int .i64 lt, .int .i64 ld, .int .i64 lm, .int .i64 lc, .int .i64 lg, .int .u8 1] _ _ _ _ _ _ _ ?_ ?_ ?_ ?_ ?_ ?_ hpf2 hlf2).mono ?_); (· (repeat (first | (with_reducible refine BlockAt.drew ?_) | (with_reducible refine BlockAt.new_at (by simp <;> omega)) | (with_reducible refine BlockAt.alloc ?_ _) | (with_reducible refine BlockAt.below ?_ hb7)))); (· (repeat (first | (with_reducible refine BlockAt.drew ?_) | (with_reducible refine BlockAt.new_at (by simp <;> omega)) | (with_reducible refine BlockAt.alloc ?_ _) | (with_reducible refine BlockAt.below ?_ hb7)))); (· rfl); (· rfl); (· rfl); (· rfl); rintro e w8 ⟨rfl, hb8⟩; have sL8 : BlockAt w8 w3.heap.size #[.int .i64 li, .int .i64 lf, .int .i64 lt, .int .i64 ld, .int .i64 lm, .int .i64 lc, .int .i64 lg, .int .u8 1] 23 := BlockAt.below (by repeat (first | exact sL7 | (with_reducible refine BlockAt.drew ?_) | (with_reducible refine BlockAt.alloc ?_ _))) hb8; obtain ⟨a80, a81, a82, a83, a84, a85, a86, a87⟩ := LegAt.cells sL8; have t8 := sL8.lt))
            all_goals
              go_wp2
              go_roundw
              case rel => exact ⟨b + 1, by go_num, by omega, (by repeat (first | exact k7 | (with_reducible refine BlockAt.drew ?_) | (with_reducible refine BlockAt.alloc ?_ _) | (with_reducible refine BlockAt.below ?_ hb8) | (with_reducible refine BlockAt.below ?_ hb7) | (with_reducible refine BlockAt.below ?_ hb6) | (with_reducible refine BlockAt.below ?_ hb5))), (by repeat (first | exact k20 | (with_reducible refine BlockAt.drew ?_) | (with_reducible refine BlockAt.alloc ?_ _) | (with_reducible refine BlockAt.below ?_ hb8) | (with_reducible refine BlockAt.below ?_ hb7) | (with_reducible refine BlockAt.below ?_ hb6) | (with_reducible refine BlockAt.below ?_ hb5))), (by repeat (first | exact yB | (with_reducible refine Below.drew ?_) | (with_reducible refine Below.trans ?_ (hb8.mono (by first | omega | (simp; omega)))) | (with_reducible refine Below.trans ?_ (hb7.mono (by first | omega | (simp; omega)))) | (with_reducible refine Below.trans ?_ (hb6.mono (by first | omega | (simp; omega)))) | (with_reducible refine Below.trans ?_ (hb5.mono (by first | omega | (simp; omega)))) | (with_reducible refine Below.alloc ?_ (by first | omega | (simp; omega)) _)))⟩
              case measure => simp [intOf]; omega
        · go_wp2
          go_roundw
          case rel => exact ⟨a + 1, by go_num, by omega, k7, yB⟩
          case measure => simp [intOf]; omega
    · clear hbk
      go_wp2_with fail
      go_loopw [7] (fun nv wz => ∃ n : Nat, nv = .int .i64 n ∧ 48 ≤ n ∧ n ≤ 53 ∧ Below w.heap.size w wz)
        (fun nv _ => 53 - (intOf nv).toNat)
      case atStart => exact ⟨48, rfl, by omega, by omega, yB⟩
      case round =>
        clear yB
        obtain ⟨n, rfl, hn0, hn1, yB⟩ := hrel
        by_cases hlt3 : n < 53
        · have hlti3 : (n : Int) < 53 := by omega
          go_wp2_with fail
          obtain ⟨W0, hW0⟩ : ∃ W0, W0 = wr := ⟨_, rfl⟩
          subst hW0
          have hszW := yB.size
          obtain ⟨i0, hi, hi0, hi1, hi2⟩ := info_parts Try.info3
          go_loopw [9] (fun kv wz => ∃ (k : Nat) (v : Value) (ps : List Int), kv = .int .i64 k ∧ k ≤ n ∧ ps.length = k ∧ (∀ p ∈ ps, 0 ≤ p ∧ p ≤ 1000) ∧ BlockAt wz W0.heap.size #[v, .slice none 0 0] 42 ∧ wz.ownsRow W0.heap.size 3 1 v k (intCells ps) ∧ Below w.heap.size w wz)
            (fun kv _ => n - (intOf kv).toNat)
          case atStart => exact ⟨0, _, [], rfl, by omega, rfl, by simp, BlockAt.new W0 _ 42, World.ownsRow_nil _ _ _ _, yB.alloc yB.size _⟩
          case round =>
            clear yB
            obtain ⟨k, v, ps, rfl, hk, hlen, hps, xb, xo, yB⟩ := hrel
            by_cases hlt4 : k < n
            · obtain ⟨p, cp, rfl⟩ := ownsRow_form xo
              obtain ⟨q0, q1, q2, q3⟩ := xb.two
              have v0 := xb.lt
              have hlti4 : (k : Int) < (n : Int) := by omega
              go_wp2_with (at_builtin; refine wpList_append_own _ rfl _ _ 39 rfl W0.heap.size 3 i0 (.int .i64 0) 1 8 Try.underlying39 hi hi0 hi1 hi2 rfl (by decide) _ _ _ rfl (xo.alloc _) ⟨wr.heap.size, 0, none⟩ 1 1 (intCells [(k : Int) + 1]) rfl rfl ((BlockAt.new wr #[.int .i64 ((k : Int) + 1)] 3).newCells rfl) (intCells_one _) (by unfold maxLen; omega) (by omega) (by simp; omega) ?_; intro v' w4 hown' hgrow _; obtain ⟨p', cp', rfl⟩ := ownsRow_form hown'; have xb4 := (xb.alloc (.cells #[.int .i64 ((k : Int) + 1)] 3)).kept hgrow ((xb.alloc (.cells #[.int .i64 ((k : Int) + 1)] 3)).not_row (by decide) (xo.alloc (.cells #[.int .i64 ((k : Int) + 1)] 3))); obtain ⟨r0, r1, r2, r3⟩ := xb4.two; have v4 := xb4.lt)
              go_roundw
              case rel => exact ⟨k + 1, _, ps ++ [(k : Int) + 1], by go_num, by omega, by simp [hlen], fun p hp => (List.mem_append.1 hp).elim (hps p) (fun h => by rw [List.mem_singleton.1 h]; omega), xb4.set20 _, by rw [intCells_append]; exact ownsRow_setCell_other hown' (by intro e; exact (xb4.not_row (by decide) hown') e.symm) _, ((yB.alloc yB.size _).grown hgrow (by simp; omega) (fun j hj => Nat.le_trans hszW (ownsRow_base xo j hj))).setCell hszW _⟩
              case measure => simp [intOf]; omega
            · obtain ⟨g, cp, rfl, hg⟩ := ownsRow_pos xo (by omega)
              obtain ⟨q0, q1, q2, q3⟩ := xb.two
              have v0 := xb.lt
              obtain rfl : n = k := by omega
              go_upto_region 23 with (at_builtin; refine wpList_append_own _ rfl _ _ 39 rfl wr.heap.size 3 i0 (.int .i64 0) 1 8 Try.underlying39 hi hi0 hi1 hi2 rfl (by decide) _ 0 [] rfl (World.ownsRow_lit wr #[] 0 (Nat.le_refl _) (by unfold maxLen; omega) rfl) ⟨g, 0, none⟩ n cp (intCells ps) rfl (by simp [intCells, hlen]) ((xo.alloc (.cells #[] 3)).cells rfl) (intCells_one _) (by unfold maxLen; omega) (by omega) (by simp) ?_; intro v' w4 hown' hgrow _; obtain ⟨g', cp', rfl, hg'⟩ := ownsRow_pos hown' (by omega))
              have hgW := (xo.lt g rfl).2
              have hWl := xb.lt
              have g0 : BlockAt w4 W0.heap.size #[.slice (some ⟨g, 0, none⟩) n cp, .slice none 0 0] 42 := (xb.alloc (.cells #[] 3)).kept hgrow (fun e => by have := Option.some.inj (show some W0.heap.size = some wr.heap.size from e); omega)
              have g1 : w4.ownsRow W0.heap.size 3 1 (.slice (some ⟨g, 0, none⟩) n cp) n (intCells ps) := (xo.alloc (.cells #[] 3)).kept hgrow (.inr fun e => by have := Option.some.inj (show some g = some wr.heap.size from e); omega)
              have hsz4 : wr.heap.size < w4.heap.size := by have := hgrow.size; simp at this; omega
              have B4 : Below w.heap.size w w4 := (yB.alloc yB.size _).grown hgrow (by simp; have := yB.size; omega) (fun j hj => by have := Option.some.inj (show some wr.heap.size = some j from hj); have := yB.size; omega)
              have hg2 := (hown'.lt g' rfl).2
              clear hgrow yB xb xo q0 q1 q2 q3 v0
              obtain ⟨W, hW⟩ : ∃ W, w4.alloc (.cells #[.slice (some ⟨g', 0, none⟩) n cp', .slice none 0 0] 42) = W := ⟨_, rfl⟩
              have x0 : BlockAt W W0.heap.size #[.slice (some ⟨g, 0, none⟩) n cp, .slice none 0 0] 42 := by rw [← hW]; exact g0.alloc _
              have x1 : W.ownsRow W0.heap.size 3 1 (.slice (some ⟨g, 0, none⟩) n cp) n (intCells ps) := by rw [← hW]; exact g1.alloc _
              have y0 : BlockAt W w4.heap.size #[.slice (some ⟨g', 0, none⟩) n cp', .slice none 0 0] 42 := by rw [← hW]; exact BlockAt.new w4 _ 42
              have y1 : W.ownsRow wr.heap.size 3 1 (.slice (some ⟨g', 0, none⟩) n cp') n (intCells ps) := by rw [← hW]; have := hown'.alloc (.cells #[.slice (some ⟨g', 0, none⟩) n cp', .slice none 0 0] 42); simpa using this
              have B5 : Below w.heap.size w W := by rw [← hW]; exact B4.alloc B4.size _
              rw [hW]
              clear hW g0 g1 hown' B4
              obtain ⟨m, hm⟩ : ∃ m : Nat, (n : Int) - 1 = (m : Int) := ⟨n - 1, by omega⟩
              have hmn : m < n := by omega
              have hml : (m : Int) < (n : Int) := by omega
              obtain ⟨z, hz⟩ : ∃ z, ps[m]? = some z := ⟨_, List.getElem?_eq_getElem (by omega)⟩
              have c0 : W.cell? ⟨g', m, none⟩ = some (.int .i64 z) := by rw [y1.cellAt m (by omega)]; simp [intCells, hz]
              have c1 : W.frozen? ⟨g', m, none⟩ = false := y1.frozenAt m
              obtain ⟨q0, q1, q2, q3⟩ := y0.two
              have v0 := y0.lt
              go_upto_region 24 with fail
              clear q0 q1 q2 q3 v0 c0 c1
              have hps2 := set_mem (j := m) (x := 1) hps ⟨by omega, by omega⟩
              obtain ⟨s1, sg⟩ := y1.stored m (.int .i64 1)
              rw [intCells_set] at s1
              have x0' := x0.kept sg (fun e => by have := Option.some.inj (show some W0.heap.size = some g' from e); omega)
              have x1' := x1.kept sg (.inr fun e => by have := Option.some.inj (show some g = some g' from e); omega)
              have y0' := y0.kept sg (fun e => by have := Option.some.inj (show some w4.heap.size = some g' from e); omega)
              have B6 := B5.grown sg B5.size (fun j hj => by have := Option.some.inj (show some g' = some j from hj); omega)
              have hszw := hszW
              clear x0 x1 y0 y1 B5
              obtain ⟨W2, hW2⟩ : ∃ W2, W.setCell ⟨g', m, none⟩ (.int .i64 1) = W2 := ⟨_, rfl⟩
              rw [hW2] at s1 x0' x1' y0' B6 ⊢
              clear sg hW2
              obtain ⟨q0, q1, q2, q3⟩ := x0'.two
              have v0 := x0'.lt
              have hlenp : ps.length = n := hlen
              have hlenq : (ps.set m 1).length = n := by rw [List.length_set]; exact hlen
              go_wp2_with fail
              refine (valid_true ps [] _ _ _ (by have := IntRow.of_owns x1'; exact this) (LegRow.nil _) (fits_mem (by omega) (by omega) hps) (by simp)).mono ?_
              rintro e w6 ⟨rfl, hb6⟩
              have y6 := y0'.below hb6
              have s6 := ownsRow_none s1 hb6
              have B7 := B6.trans (hb6.mono B6.size)
              clear x0' x1' y0' s1 B6 hb6 q0 q1 q2 q3 v0
              obtain ⟨q0, q1, q2, q3⟩ := y6.two
              have v0 := y6.lt
              go_wp2_with fail
              refine (valid_true (ps.set m 1) [] _ _ _ (by have := IntRow.of_owns s6; exact this) (LegRow.nil _) (fits_mem (by omega) (by omega) hps2) (by simp)).mono ?_
              rintro e w7 ⟨rfl, hb7⟩
              have B8 := B7.trans (hb7.mono B7.size)
              clear y6 s6 B7 hb7 q0 q1 q2 q3 v0
              go_wp2_with fail
              refine (valid_true [(n : Int) - 50] [] _ _ _ (IntRow.of_block (ps := [(n : Int) - 50]) (BlockAt.new w7 #[.int .i64 ((n : Int) - 50)] 3) rfl) (LegRow.nil _) (fun p hp => by rw [List.mem_singleton.1 hp]; omega) (by simp)).mono ?_
              rintro e w8 ⟨rfl, hb8⟩
              have B9 := (B8.alloc B8.size _).trans (hb8.mono (by simp; have := B8.size; omega))
              clear B8 hb8
              go_wp2_with fail
              refine (valid_true [(n : Int) + 999949] [] _ _ _ (IntRow.of_block (ps := [(n : Int) + 999949]) (BlockAt.new w8 #[.int .i64 ((n : Int) + 999949)] 3) rfl) (LegRow.nil _) (fun p hp => by rw [List.mem_singleton.1 hp]; omega) (by simp)).mono ?_
              rintro e w9 ⟨rfl, hb9⟩
              have B10 := (B9.alloc B9.size _).trans (hb9.mono (by simp; have := B9.size; omega))
              clear B9 hb9
              go_wp2
              go_roundw
              case rel => exact ⟨n + 1, by go_num, by omega, by omega, B10⟩
              case measure => simp [intOf]; omega
        · go_wp2_with fail
          go_loopw [11] (fun nv wz => ∃ n : Nat, nv = .int .i64 n ∧ 198 ≤ n ∧ n ≤ 203 ∧ Below w.heap.size w wz)
            (fun nv _ => 203 - (intOf nv).toNat)
          case atStart => exact ⟨198, rfl, by omega, by omega, yB⟩
          case round =>
            clear yB hlt3 hn0 hn1
            obtain ⟨n, rfl, hn0, hn1, yB⟩ := hrel
            by_cases hlt5 : n < 203
            · have hlti5 : (n : Int) < 203 := by omega
              go_wp2_with fail
              obtain ⟨W0, hW0⟩ : ∃ W0, W0 = wr := ⟨_, rfl⟩
              subst hW0
              have hszW := yB.size
              obtain ⟨i0, hi, hi0, hi1, hi2⟩ := info_parts Try.info23
              go_loopw [13] (fun kv wz => ∃ (k : Nat) (v : Value) (ls : List Leg8), kv = .int .i64 k ∧ k ≤ n ∧ ls.length = k ∧ (∀ l ∈ ls, l.fits) ∧ BlockAt wz W0.heap.size #[.int .i64 1, .int .i64 2] 3 ∧ BlockAt wz (W0.heap.size + 1) #[.slice (some ⟨W0.heap.size, 0, none⟩) 2 2, v] 42 ∧ wz.ownsRow W0.heap.size 23 8 v k (legCells ls) ∧ Below w.heap.size w wz)
                (fun kv _ => n - (intOf kv).toNat)
              case atStart =>
                refine ⟨0, _, [], rfl, by omega, rfl, by simp, (BlockAt.new W0 _ 3).alloc _, ?_, World.ownsRow_nil _ _ _ _, (yB.alloc yB.size _).alloc (by simp; omega) _⟩
                have := BlockAt.new (W0.alloc (.cells #[.int .i64 1, .int .i64 2] 3)) #[.slice (some ⟨W0.heap.size, 0, none⟩) 2 2, .slice none 0 0] 42
                simpa using this
              case round =>
                clear yB
                obtain ⟨k, v, ls, rfl, hk, hlen, hls, xp, xb, xo, yB⟩ := hrel
                by_cases hlt6 : k < n
                · have hlti6 : (k : Int) < (n : Int) := by omega
                  go_wp2_with fail
                  refine (monday_any _).mono ?_
                  rintro e w3 ⟨rfl, hb3⟩
                  have xp3 := xp.below hb3
                  have xb3 := xb.below hb3
                  have xo3 := ownsRow_none xo hb3
                  have B3 := yB.trans (hb3.mono yB.size)
                  have hWl : W0.heap.size + 1 < w3.heap.size := xb3.lt
                  have hvlt : ∀ g, v.ownBlock = some g → g < w3.heap.size := fun g hg => (xo3.lt g hg).2
                  clear xp xb xo yB hb3
                  go_upto_region 34 with fail
                  have l4 : BlockAt (w3.alloc (.cells #[.int .i64 7, .int .i64 1, .int .i64 2, .int .i64 600, .int .i64 120, .int .i64 30, .int .i64 0, .int .u8 1] 23)) w3.heap.size #[.int .i64 7, .int .i64 1, .int .i64 2, .int .i64 600, .int .i64 120, .int .i64 30, .int .i64 0, .int .u8 1] 23 := BlockAt.new w3 _ 23
                  have xp4 := xp3.alloc (.cells #[.int .i64 7, .int .i64 1, .int .i64 2, .int .i64 600, .int .i64 120, .int .i64 30, .int .i64 0, .int .u8 1] 23)
                  have xb4 := xb3.alloc (.cells #[.int .i64 7, .int .i64 1, .int .i64 2, .int .i64 600, .int .i64 120, .int .i64 30, .int .i64 0, .int .u8 1] 23)
                  have xo4 := xo3.alloc (.cells #[.int .i64 7, .int .i64 1, .int .i64 2, .int .i64 600, .int .i64 120, .int .i64 30, .int .i64 0, .int .u8 1] 23)
                  have B4 := B3.alloc B3.size (.cells #[.int .i64 7, .int .i64 1, .int .i64 2, .int .i64 600, .int .i64 120, .int .i64 30, .int .i64 0, .int .u8 1] 23)
                  have hsz4 : w3.heap.size < (w3.alloc (.cells #[.int .i64 7, .int .i64 1, .int .i64 2, .int .i64 600, .int .i64 120, .int .i64 30, .int .i64 0, .int .u8 1] 23)).heap.size := by simp
                  obtain ⟨w4, hw4⟩ : ∃ w4, w3.alloc (.cells #[.int .i64 7, .int .i64 1, .int .i64 2, .int .i64 600, .int .i64 120, .int .i64 30, .int .i64 0, .int .u8 1] 23) = w4 := ⟨_, rfl⟩
                  rw [hw4] at l4 xp4 xb4 xo4 B4 hsz4 ⊢
                  clear hw4 xp3 xb3 xo3
                  have v0 := l4.lt
                  obtain ⟨l0, _, _, _, _, _, _, _⟩ := LegAt.cells l4
                  have hfz : w4.frozen? ⟨w3.heap.size, 0, none⟩ = false := by have hh := l4; unfold BlockAt at hh; simp [World.frozen?, hh]
                  go_upto_region 35 with fail
                  have l5 : BlockAt (w4.setCell ⟨w3.heap.size, 0, none⟩ (.int .i64 ((k : Int) + 1))) w3.heap.size #[.int .i64 ((k : Int) + 1), .int .i64 1, .int .i64 2, .int .i64 600, .int .i64 120, .int .i64 30, .int .i64 0, .int .u8 1] 23 := LegAt.set l4 (j := 0) _
                  have xp5 := xp4.other (B' := w3.heap.size) (j := 0) (by omega) (.int .i64 ((k : Int) + 1))
                  have xb5 := xb4.other (B' := w3.heap.size) (j := 0) (by omega) (.int .i64 ((k : Int) + 1))
                  have xo5 := xo4.kept (grownBy_setCell2 w4 w3.heap.size 0 (.int .i64 ((k : Int) + 1))) (.inr fun e => by have := hvlt _ e; omega)
                  have B5 := B4.setCell (p := ⟨w3.heap.size, 0, none⟩) (by show w.heap.size ≤ w3.heap.size; omega) (.int .i64 ((k : Int) + 1))
                  obtain ⟨w5, hw5⟩ : ∃ w5, w4.setCell ⟨w3.heap.size, 0, none⟩ (.int .i64 ((k : Int) + 1)) = w5 := ⟨_, rfl⟩
                  rw [hw5] at l5 xp5 xb5 xo5 B5 ⊢
                  clear hw5 l4 xp4 xb4 xo4 B4 v0 l0 hfz
                  obtain ⟨p, cp, rfl⟩ := ownsRow_form xo5
                  obtain ⟨q0, q1, q2, q3⟩ := xb5.two
                  have v0 := xb5.lt
                  have v1 := l5.lt
                  obtain ⟨l0, l1, l2, l3, l4, l5', l6, l7⟩ := LegAt.cells l5
                  go_wp2_with (at_builtin; refine wpList_append_own _ rfl _ _ 40 rfl W0.heap.size 23 i0 (.agg #[.int .i64 0, .int .i64 0, .int .i64 0, .int .i64 0, .int .i64 0, .int .i64 0, .int .i64 0, .int .u8 0]) 8 64 Try.underlying40 hi hi0 hi1 hi2 rfl (by decide) _ _ _ rfl (xo5.alloc _) ⟨w5.heap.size, 0, none⟩ 1 1 (legCells [⟨(k : Int) + 1, 1, 2, 600, 120, 30, 0, 1⟩]) rfl rfl ((BlockAt.new w5 #[.int .i64 ((k : Int) + 1), .int .i64 1, .int .i64 2, .int .i64 600, .int .i64 120, .int .i64 30, .int .i64 0, .int .u8 1] 23).newCells rfl) (legCells_one _) (by unfold maxLen; omega) (by omega) (by simp; omega) ?_; intro v' w6 hown' hgrow _; obtain ⟨p', cp', rfl⟩ := ownsRow_form hown'; have xb6 := (xb5.alloc (.cells #[.int .i64 ((k : Int) + 1), .int .i64 1, .int .i64 2, .int .i64 600, .int .i64 120, .int .i64 30, .int .i64 0, .int .u8 1] 23)).kept hgrow ((xb5.alloc (.cells #[.int .i64 ((k : Int) + 1), .int .i64 1, .int .i64 2, .int .i64 600, .int .i64 120, .int .i64 30, .int .i64 0, .int .u8 1] 23)).not_row (by decide) (xo5.alloc (.cells #[.int .i64 ((k : Int) + 1), .int .i64 1, .int .i64 2, .int .i64 600, .int .i64 120, .int .i64 30, .int .i64 0, .int .u8 1] 23))); have xp6 := (xp5.alloc (.cells #[.int .i64 ((k : Int) + 1), .int .i64 1, .int .i64 2, .int .i64 600, .int .i64 120, .int .i64 30, .int .i64 0, .int .u8 1] 23)).kept hgrow ((xp5.alloc (.cells #[.int .i64 ((k : Int) + 1), .int .i64 1, .int .i64 2, .int .i64 600, .int .i64 120, .int .i64 30, .int .i64 0, .int .u8 1] 23)).not_row (by decide) (xo5.alloc (.cells #[.int .i64 ((k : Int) + 1), .int .i64 1, .int .i64 2, .int .i64 600, .int .i64 120, .int .i64 30, .int .i64 0, .int .u8 1] 23))); obtain ⟨r0, r1, r2, r3⟩ := xb6.two; have v6 := xb6.lt)
                  go_roundw
                  case rel => exact ⟨k + 1, _, ls ++ [⟨(k : Int) + 1, 1, 2, 600, 120, 30, 0, 1⟩], by go_num, by omega, by simp [hlen], fun l hl => (List.mem_append.1 hl).elim (hls l) (fun h => by rw [List.mem_singleton.1 h]; unfold Leg8.fits; refine ⟨?_, ?_, ?_, ?_, ?_⟩ <;> dsimp only <;> omega), xp6.other (by omega) _, xb6.set21 _, by rw [legCells_append]; exact ownsRow_setCell_other hown' (by intro e; exact (xb6.not_row (by decide) hown') e.symm) _, ((B5.alloc B5.size _).grown hgrow (by simp; have := B5.size; omega) (fun j hj => Nat.le_trans hszW (ownsRow_base xo5 j hj))).setCell (by show w.heap.size ≤ W0.heap.size + 1; omega) _⟩
                  case measure => simp [intOf]; omega
                · obtain ⟨g, cp, rfl, hg⟩ := ownsRow_pos xo (by omega)
                  obtain ⟨q0, q1, q2, q3⟩ := xb.two
                  have v0 := xb.lt
                  obtain rfl : n = k := by omega
                  have hpn : ([1, 2] : List Int).length ≤ 100000 := by decide
                  go_wp2_with fail
                  refine (copynetwork_any [1, 2] ls _ _ _ (IntSrc.of_block (ps := [1, 2]) xp rfl) (by have := LegSrc.of_owns xo; exact this) hpn (by omega)).mono ?_
                  rintro e w4 ⟨pv', lv', rfl, yp4, yl4, hb4⟩
                  have xp4 := xp.below hb4
                  have xb4 := xb.below hb4
                  have xo4 := ownsRow_none xo hb4
                  have B4 := yB.trans (hb4.mono yB.size)
                  obtain ⟨gp, cpp, rfl, hgp⟩ := ownsRow_pos yp4 (by decide)
                  obtain ⟨gl, cpl, rfl, hgl⟩ := ownsRow_pos yl4 (by omega)
                  rw [hlen] at yl4 ⊢
                  have hgW := (xo.lt g rfl).2
                  have hWl := xb.lt
                  clear xp xb xo yB hb4 q0 q1 q2 q3 v0
                  go_upto_region 37 with fail
                  obtain ⟨W, hW⟩ : ∃ W, w4.alloc (.cells #[.slice (some ⟨gp, 0, none⟩) 2 cpp, .slice (some ⟨gl, 0, none⟩) n cpl] 42) = W := ⟨_, rfl⟩
                  have xp5 := xp4.alloc (.cells #[.slice (some ⟨gp, 0, none⟩) 2 cpp, .slice (some ⟨gl, 0, none⟩) n cpl] 42)
                  have xb5 := xb4.alloc (.cells #[.slice (some ⟨gp, 0, none⟩) 2 cpp, .slice (some ⟨gl, 0, none⟩) n cpl] 42)
                  have xo5 := xo4.alloc (.cells #[.slice (some ⟨gp, 0, none⟩) 2 cpp, .slice (some ⟨gl, 0, none⟩) n cpl] 42)
                  have yp5 := yp4.alloc (.cells #[.slice (some ⟨gp, 0, none⟩) 2 cpp, .slice (some ⟨gl, 0, none⟩) n cpl] 42)
                  have yl5 := yl4.alloc (.cells #[.slice (some ⟨gp, 0, none⟩) 2 cpp, .slice (some ⟨gl, 0, none⟩) n cpl] 42)
                  have y0 : BlockAt (w4.alloc (.cells #[.slice (some ⟨gp, 0, none⟩) 2 cpp, .slice (some ⟨gl, 0, none⟩) n cpl] 42)) w4.heap.size #[.slice (some ⟨gp, 0, none⟩) 2 cpp, .slice (some ⟨gl, 0, none⟩) n cpl] 42 := BlockAt.new w4 _ 42
                  have B5 := B4.alloc B4.size (.cells #[.slice (some ⟨gp, 0, none⟩) 2 cpp, .slice (some ⟨gl, 0, none⟩) n cpl] 42)
                  have hl4 := (yl4.lt gl rfl).2
                  have hp4 := (yp4.lt gp rfl).2
                  have hxb4 := xb4.lt
                  rw [hW] at xp5 xb5 xo5 yp5 yl5 y0 B5
                  rw [hW]
                  clear hW xp4 xb4 xo4 yp4 yl4 B4
                  obtain ⟨m, hm⟩ : ∃ m : Nat, (n : Int) - 1 = (m : Int) := ⟨n - 1, by omega⟩
                  have hmn : m < n := by omega
                  have hml : (m : Int) < (n : Int) := by omega
                  obtain ⟨z, hz⟩ : ∃ z, ls[m]? = some z := ⟨_, List.getElem?_eq_getElem (by omega)⟩
                  have c0 : W.cell? ⟨gl, m * 8, none⟩ = some (.int .i64 z.i) := by rw [yl5.cellAt (m * 8) (by omega)]; exact legCells_at ls m z hz 0 (by decide)
                  have c1 : W.frozen? ⟨gl, m * 8, none⟩ = false := yl5.frozenAt (m * 8)
                  obtain ⟨q0, q1, q2, q3⟩ := y0.two
                  have v0 := y0.lt
                  go_upto_region 38 with fail
                  clear q0 q1 q2 q3 v0 c0 c1
                  obtain ⟨s1, sg⟩ := yl5.stored (m * 8) (.int .i64 1)
                  rw [legCells_set ls m z 1 hz] at s1
                  have hls2 := fits_set (v := 1) hls hz ⟨by omega, by omega⟩
                  have hgne := owns_ne yp5 yl5 (by decide)
                  have xp6 := xp5.kept sg (fun e => by have := Option.some.inj (show some W0.heap.size = some gl from e); omega)
                  have xb6 := xb5.kept sg (fun e => by have := Option.some.inj (show some (W0.heap.size + 1) = some gl from e); omega)
                  have xo6 := xo5.kept sg (.inr fun e => by have := Option.some.inj (show some g = some gl from e); omega)
                  have yp6 := yp5.kept sg (.inr fun e => hgne (Option.some.inj (show some gp = some gl from e)))
                  have y6 := y0.kept sg (fun e => by have := Option.some.inj (show some w4.heap.size = some gl from e); omega)
                  have B6 := B5.grown sg B5.size (fun j hj => by have := Option.some.inj (show some gl = some j from hj); omega)
                  clear xp5 xb5 xo5 yp5 yl5 y0 B5
                  obtain ⟨W2, hW2⟩ : ∃ W2, W.setCell ⟨gl, m * 8, none⟩ (.int .i64 1) = W2 := ⟨_, rfl⟩
                  rw [hW2] at s1 xp6 xb6 xo6 yp6 y6 B6 ⊢
                  clear sg hW2
                  obtain ⟨q0, q1, q2, q3⟩ := xb6.two
                  have v0 := xb6.lt
                  have hlenq : (ls.set m ⟨1, z.f, z.t, z.d, z.m, z.c, z.g, z.y⟩).length = n := by rw [List.length_set]; exact hlen
                  have hp12 : ∀ p ∈ ([1, 2] : List Int), -9223372036854775808 ≤ p ∧ p ≤ 9223372036854775807 := by decide
                  go_wp2_with fail
                  refine (valid_true [1, 2] ls _ _ _ (IntRow.of_block (ps := [1, 2]) xp6 rfl) (by have := LegRow.of_owns xo6; exact this) hp12 hls).mono ?_
                  rintro e w7 ⟨rfl, hb7⟩
                  have y7 := y6.below hb7
                  have yp7 := ownsRow_none yp6 hb7
                  have s7 := ownsRow_none s1 hb7
                  have B7 := B6.trans (hb7.mono B6.size)
                  clear xp6 xb6 xo6 yp6 y6 s1 B6 hb7 q0 q1 q2 q3 v0
                  obtain ⟨q0, q1, q2, q3⟩ := y7.two
                  have v0 := y7.lt
                  go_wp2_with fail
                  refine (valid_true [1, 2] (ls.set m ⟨1, z.f, z.t, z.d, z.m, z.c, z.g, z.y⟩) _ _ _ (by have := IntRow.of_owns yp7; exact this) (by have := LegRow.of_owns s7; exact this) hp12 hls2).mono ?_
                  rintro e w8 ⟨rfl, hb8⟩
                  have B8 := B7.trans (hb8.mono B7.size)
                  clear y7 yp7 s7 B7 hb8 q0 q1 q2 q3 v0
                  go_wp2
                  go_roundw
                  case rel => exact ⟨n + 1, by go_num, by omega, by omega, B8⟩
                  case measure => simp [intOf]; omega
            · go_wp2_with fail
              refine (valid_true [] [] _ _ _ (IntRow.nil _) (LegRow.nil _) (by simp) (by simp)).mono ?_
              rintro e w3 ⟨rfl, hb3⟩
              have B3 := yB.trans (hb3.mono yB.size)
              clear yB hb3
              go_wp2_with fail
              refine (monday_any _).mono ?_
              rintro e w4 ⟨rfl, hb4⟩
              have B4 := B3.trans (hb4.mono B3.size)
              clear B3 hb4
              go_wp2_with fail
              refine (valid_true [] [⟨7, 1, 2, 600, 120, 30, 0, 1⟩] _ _ _ (IntRow.nil _) (LegRow.of_block (ls := [⟨7, 1, 2, 600, 120, 30, 0, 1⟩]) (BlockAt.new w4 #[.int .i64 7, .int .i64 1, .int .i64 2, .int .i64 600, .int .i64 120, .int .i64 30, .int .i64 0, .int .u8 1] 23) rfl) (by simp) (fun l hl => by rw [List.mem_singleton.1 hl]; unfold Leg8.fits; decide)).mono ?_
              rintro e w5 ⟨rfl, hb5⟩
              go_wp2
              go_ret
              exact ⟨rfl, (B4.alloc B4.size _).trans (hb5.mono (by simp; have := B4.size; omega))⟩
end Go.Proofs.Ytogofbncdggigaa
