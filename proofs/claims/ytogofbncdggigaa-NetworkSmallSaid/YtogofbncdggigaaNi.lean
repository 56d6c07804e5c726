/-
  The walk of network.Last.
-/
import Derived.Test.YtogofbncdggigaaNv
import Derived.Test.YtogofbncdggigaaNf
import Derived.Deep.QuietTactic
import Derived.BigQuiet
import Derived.LoopTactic
import Derived.Lib.Hide
namespace Go.Proofs.Ytogofbncdggigaa
open Go.RowKit Net

set_option maxRecDepth 100000 in
set_option maxHeartbeats 4000000 in
theorem last_right (i f t d m c g y b : Int) (w : World) (hy0 : 0 ≤ y) (hy1 : y ≤ 255) (hr : rightB i f t d m c g y = true) (hb : 0 ≤ b) :
    Calls Try.prog 17 #[.agg #[.int .i64 i, .int .i64 f, .int .i64 t, .int .i64 d, .int .i64 m, .int .i64 c, .int .i64 g, .int .u8 y], .int .i64 b] w (LastPost (onB i f t d m c g y) d m b w) := by
  have hlaw := onLaw hr
  have Hlaw := Lib.hid hlaw
  clear hlaw
  obtain ⟨_, _, _, _, _, _, _, _, _, _, _, _, _, _, _, _, _⟩ := rightB_iff.1 hr
  have hn0 := near_nonneg hb
  have hn1 := (near_bd b).2
  go_enter Try.func17, Try.ntmps17
  go_wp2_with (go_at_call 13; refine (right_any i f t d m c g y _ hy0 hy1).mono ?_; rintro e w1 ⟨rfl, hb1⟩; obtain ⟨hc1, hf1⟩ := bcell hb1; have hz : w.heap.size + 1 < w1.heap.size := (by have := hb1.size; simp at this; omega); have hz0 : w.heap.size < w1.heap.size := (by omega))
  go_quiet ((go_at_call 33; exact Calls.quiet_of_same (near_same _ _)))
  have e1 : BlockAt w1 (w.heap.size + 1) #[.int .i64 0, .int .i64 0] 28 := by
    refine BlockAt.below ?_ hb1
    have := BlockAt.new (w.alloc (.cells #[.int .i64 i, .int .i64 f, .int .i64 t, .int .i64 d, .int .i64 m, .int .i64 c, .int .i64 g, .int .u8 y] 23)) #[.int .i64 0, .int .i64 0] 28
    simpa using this
  have e0 : LegAt w1 w.heap.size i f t d m c g y := by
    refine BlockAt.below (t := 23) ?_ hb1
    exact (BlockAt.new w #[.int .i64 i, .int .i64 f, .int .i64 t, .int .i64 d, .int .i64 m, .int .i64 c, .int .i64 g, .int .u8 y] 23).alloc _
  have hB1 : Below w.heap.size w w1 := by
    have h0 : Below w.heap.size w ((w.alloc (.cells #[.int .i64 i, .int .i64 f, .int .i64 t, .int .i64 d, .int .i64 m, .int .i64 c, .int .i64 g, .int .u8 y] 23)).alloc (.cells #[.int .i64 0, .int .i64 0] 28)) := ((Below.refl _ w).alloc (Nat.le_refl _) _).alloc (by simp) _
    exact h0.trans (hb1.mono (by simp; omega))
  clear hb1 hc1 hf1
  obtain ⟨W, hW⟩ : ∃ W, w1.drewN nq = W := ⟨_, rfl⟩
  have b0 : LegAt W w.heap.size i f t d m c g y := by rw [← hW]; exact e0
  have b1 : BlockAt W (w.heap.size + 1) #[.int .i64 0, .int .i64 0] 28 := by rw [← hW]; exact e1
  have hB : Below w.heap.size w W := by rw [← hW]; exact below_drewN hB1 nq
  rw [hW]
  clear hW e0 e1 hB1 hz hz0
  have hcase : (nearI b - m < 0 ∧ -15 ≤ (nearI b - m).tdiv 1440 ∧ (nearI b - m).tdiv 1440 ≤ 0) ∨ (0 ≤ nearI b - m ∧ 730484 < (nearI b - m) / 1440) ∨ (0 ≤ nearI b - m ∧ (nearI b - m) / 1440 ≤ 730484) := by
    by_cases e : nearI b - m < 0
    · exact .inl ⟨e, tdiv_bd _ e (by omega)⟩
    · omega
  rcases hcase with ⟨hl0, hl1, hl2⟩ | ⟨hl0, hl1⟩ | ⟨hl0, hl1⟩
  all_goals
    go_wp2
    go_loopw [7] (fun dv wr => ∃ k : Int, dv = .int .i64 k ∧ -20 ≤ k ∧ k ≤ 730484 ∧ NoneBehind (onB i f t d m c g y) d (nearI b - m) k ∧ LegAt wr w.heap.size i f t d m c g y ∧ BlockAt wr (w.heap.size + 1) #[.int .i64 0, .int .i64 0] 28 ∧ Below w.heap.size w wr)
      (fun dv _ => (intOf dv + 20).toNat)
    case atStart => exact ⟨_, rfl, by omega, by omega, none_start Hlaw.out (by omega), b0, b1, hB⟩
    case round =>
      obtain ⟨k, rfl, hk0, hk1, hnone, x0, x1, hX⟩ := hrel
      obtain ⟨q1, q2, q3, q4⟩ := x1.two
      obtain ⟨l0, l1, l2, l3, l4, l5, l6, l7⟩ := x0.cells
      have z0 := x0.lt
      have z1 := x1.lt
      by_cases hk : 0 ≤ k
      · cases hon : onB i f t d m c g y k with
        | true =>
          have hlo := Hlaw.out.lo k hon
          have Hon := Lib.hid hon
          clear hon
          by_cases hin : 1440 * k + d ≤ nearI b - m
          · first
              | (exfalso; omega)
              | (go_wp2_with (go_at_call 16; refine (on_yes i f t d m c g y k wr hy0 hy1 Hon.out).mono ?_; rintro e w2 ⟨rfl, hb1⟩; obtain ⟨hc1, hf1⟩ := bcell hb1; have hs1 := hb1.size; have z2 : w.heap.size < w2.heap.size := (by omega); have z3 : w.heap.size + 1 < w2.heap.size := (by omega))
                 obtain ⟨p1, p2, _, _⟩ := ((((x1.below hb1).set20 (.int .i64 (1440 * k + d))).set21 (.int .i64 (1440 * k + d + m))).alloc (.cells #[.int .i64 (1440 * k + d), .int .i64 (1440 * k + d + m)] 28)).two
                 refine bodyPost_ret (v := encR d m (some k)) (by simp [results, Try.results17, go_sem, encR, p1, p2]) rfl ⟨some k, last_some Hlaw.out hb hnone Hon.out hin, rfl, ?_⟩
                 repeat (first | exact hX | exact Below.refl _ _ | (with_reducible refine Below.setCell ?_ (by simp) _) | (with_reducible refine Below.trans ?_ (hb1.mono (by have := hX.size; omega))) | (with_reducible refine Below.alloc ?_ (by simp <;> omega) _)))
          · first
              | (exfalso; omega)
              | (go_wp2_with (go_at_call 16; refine (on_yes i f t d m c g y k wr hy0 hy1 Hon.out).mono ?_; rintro e w2 ⟨rfl, hb1⟩; obtain ⟨hc1, hf1⟩ := bcell hb1; have hs1 := hb1.size; have z2 : w.heap.size < w2.heap.size := (by omega); have z3 : w.heap.size + 1 < w2.heap.size := (by omega))
                 go_roundw
                 case rel => exact ⟨k - 1, rfl, by omega, by omega, none_step hnone (fun _ => by omega), BlockAt.alloc (t := 23) (BlockAt.below (t := 23) x0 hb1) _, (x1.below hb1).alloc _, ((hX.trans (hb1.mono (by have := hX.size; omega))).alloc (by omega) _)⟩
                 case measure => simp [intOf]; omega)
        | false =>
          have Hon := Lib.hid hon
          clear hon
          by_cases hin : 1440 * k + d < c
          · go_wp2_with (go_at_call 16; refine (on_no i f t d m c g y k wr hy0 hy1 Hon.out).mono ?_; rintro e w2 ⟨rfl, hb1⟩; obtain ⟨hc1, hf1⟩ := bcell hb1; have hs1 := hb1.size; have z2 : w.heap.size < w2.heap.size := (by omega); have z3 : w.heap.size + 1 < w2.heap.size := (by omega))
            obtain ⟨p1, p2, _, _⟩ := ((((x1.below hb1).set20 (.int .i64 0)).set21 (.int .i64 0)).alloc (.cells #[.int .i64 0, .int .i64 0] 28)).two
            refine bodyPost_ret (v := encR d m none) (by simp [results, Try.results17, go_sem, encR, p1, p2]) rfl ⟨none, last_none Hlaw.out hnone (.inr ⟨hin, fun h => by rw [Hon.out] at h; cases h⟩), rfl, ?_⟩
            repeat (first | exact hX | exact Below.refl _ _ | (with_reducible refine Below.setCell ?_ (by simp) _) | (with_reducible refine Below.trans ?_ (hb1.mono (by have := hX.size; omega))) | (with_reducible refine Below.alloc ?_ (by simp <;> omega) _))
          · go_wp2_with (go_at_call 16; refine (on_no i f t d m c g y k wr hy0 hy1 Hon.out).mono ?_; rintro e w2 ⟨rfl, hb1⟩; obtain ⟨hc1, hf1⟩ := bcell hb1; have hs1 := hb1.size; have z2 : w.heap.size < w2.heap.size := (by omega); have z3 : w.heap.size + 1 < w2.heap.size := (by omega))
            go_roundw
            case rel => exact ⟨k - 1, rfl, by omega, by omega, none_step hnone (fun h => by rw [Hon.out] at h; cases h), BlockAt.alloc (t := 23) (BlockAt.below (t := 23) x0 hb1) _, (x1.below hb1).alloc _, ((hX.trans (hb1.mono (by have := hX.size; omega))).alloc (by omega) _)⟩
            case measure => simp [intOf]; omega
      · go_wp2
        refine bodyPost_ret (v := encR d m none) (by simp [results, Try.results17, go_sem, q1, q2, encR]) rfl ⟨none, last_none Hlaw.out hnone (.inl (by omega)), rfl, ?_⟩
        repeat (first | exact hX | exact Below.refl _ _ | (with_reducible refine Below.setCell ?_ (by simp) _) | (with_reducible refine Below.trans ?_ (hb1.mono (by have := hX.size; omega))) | (with_reducible refine Below.alloc ?_ (by simp <;> omega) _))
end Go.Proofs.Ytogofbncdggigaa
