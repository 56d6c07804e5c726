/-
  The walks of the reference's Next and Last.
-/
import Derived.Test.YtogofbncdggigaaNe
import Derived.Test.YtogofbncdggigaaNf
import Derived.Test.YtogofbncdggigaaNv
import Derived.Test.YtogofbncdggigaaNr
import Derived.LoopTactic
import Derived.Lib.Hide
namespace Go.Proofs.Ytogofbncdggigaa
open Go.RowKit Net

set_option maxRecDepth 100000 in
set_option maxHeartbeats 4000000 in
theorem refnext_any (i f t d m c g y b : Int) (w : World) (hy0 : 0 ≤ y) (hy1 : y ≤ 255) :
    Calls Try.prog 30 #[.agg #[.int .i64 i, .int .i64 f, .int .i64 t, .int .i64 d, .int .i64 m, .int .i64 c, .int .i64 g, .int .u8 y], .int .i64 b] w (NextPost (onB i f t d m c g y) d m c b w) := by
  obtain ⟨hF0, hF1⟩ := firstI_bd b
  go_enter Try.func30, Try.ntmps30
  go_wp2_with (go_at_call 52; refine (first_any _ _).mono ?_; rintro e w1 ⟨rfl, rfl⟩)
  go_loopw [7] (fun dv wr => ∃ k : Int, dv = .int .i64 k ∧ firstI b ≤ k ∧ k ≤ firstI b + 30 ∧ NoneIn (onB i f t d m c g y) d c b (firstI b) k ∧ LegAt wr w.heap.size i f t d m c g y ∧ BlockAt wr (w.heap.size + 1) #[.int .i64 0, .int .i64 0] 50 ∧ Below w.heap.size w wr)
    (fun dv _ => (firstI b + 30 - intOf dv).toNat)
  case atStart =>
    exact ⟨_, rfl, by omega, by omega, noneIn_start, (BlockAt.new w #[.int .i64 i, .int .i64 f, .int .i64 t, .int .i64 d, .int .i64 m, .int .i64 c, .int .i64 g, .int .u8 y] 23).alloc _, by have := BlockAt.new (w.alloc (.cells #[.int .i64 i, .int .i64 f, .int .i64 t, .int .i64 d, .int .i64 m, .int .i64 c, .int .i64 g, .int .u8 y] 23)) #[.int .i64 0, .int .i64 0] 50; simpa using this, ((Below.refl _ w).alloc (Nat.le_refl _) _).alloc (by simp) _⟩
  case round =>
    obtain ⟨k, rfl, hk0, hk1, hnone, x0, x1, hX⟩ := hrel
    obtain ⟨q1, q2, q3, q4⟩ := x1.two
    obtain ⟨l0, l1, l2, l3, l4, l5, l6, l7⟩ := x0.cells
    have z0 := x0.lt
    have z1 := x1.lt
    by_cases hk : k < firstI b + 30
    · cases hon : onB i f t d m c g y k with
      | true =>
        have hlaw := onLaw (onB_iff.1 hon).1
        have hlo := hlaw.lo k hon
        have hhi := hlaw.hi k hon
        have hda0 := hlaw.day0 k hon
        have hd0 := hlaw.d0
        have hd1 := hlaw.d1
        have hm0 := hlaw.m0
        have hm1 := hlaw.m1
        have hcu0 := hlaw.c0
        have hcu1 := hlaw.c1
        clear hlaw
        have Hon := Lib.hid hon
        clear hon
        by_cases hin : b ≤ 1440 * k + d - c
        · by_cases hneg : b < 0 <;> go_wp2_with (go_at_call 27; refine (refon_yes i f t d m c g y k wr hy0 hy1 Hon.out).mono ?_; rintro e w2 ⟨rfl, hb1⟩; obtain ⟨hc1, hf1⟩ := bcell hb1; have hs1 := hb1.size; have z2 : w.heap.size < w2.heap.size := (by omega); have z3 : w.heap.size + 1 < w2.heap.size := (by omega))
          all_goals
            obtain ⟨p1, p2, _, _⟩ := ((((x1.below hb1).set20 (.int .i64 (1440 * k + d))).set21 (.int .i64 (1440 * k + d + m))).alloc (.cells #[.int .i64 (1440 * k + d), .int .i64 (1440 * k + d + m)] 50)).two
            refine bodyPost_ret (v := encR d m (some k)) (by simp [results, Try.results30, go_sem, encR, p1, p2]) rfl ⟨some k, refnext_some Hon.out hnone hin, rfl, ?_⟩
            repeat (first | exact hX | exact Below.refl _ _ | (with_reducible refine Below.setCell ?_ (by simp) _) | (with_reducible refine Below.trans ?_ (hb1.mono (by have := hX.size; omega))) | (with_reducible refine Below.alloc ?_ (by simp <;> omega) _))
        · go_wp2_with (go_at_call 27; refine (refon_yes i f t d m c g y k wr hy0 hy1 Hon.out).mono ?_; rintro e w2 ⟨rfl, hb1⟩; obtain ⟨hc1, hf1⟩ := bcell hb1; have hs1 := hb1.size; have z2 : w.heap.size < w2.heap.size := (by omega); have z3 : w.heap.size + 1 < w2.heap.size := (by omega))
          go_roundw
          case rel => exact ⟨k + 1, by go_num, by omega, by omega, noneIn_step hnone (fun _ => by omega), BlockAt.alloc (t := 23) (BlockAt.below (t := 23) x0 hb1) _, (x1.below hb1).alloc _, ((hX.trans (hb1.mono (by have := hX.size; omega))).alloc (by omega) _)⟩
          case measure => simp [intOf]; omega
      | false =>
        have Hon := Lib.hid hon
        clear hon
        go_wp2_with (go_at_call 27; refine (refon_no i f t d m c g y k wr hy0 hy1 Hon.out).mono ?_; rintro e w2 ⟨rfl, hb1⟩; obtain ⟨hc1, hf1⟩ := bcell hb1; have hs1 := hb1.size; have z2 : w.heap.size < w2.heap.size := (by omega); have z3 : w.heap.size + 1 < w2.heap.size := (by omega))
        go_roundw
        case rel => exact ⟨k + 1, by go_num, by omega, by omega, noneIn_step hnone (fun h => by rw [Hon.out] at h; cases h), BlockAt.alloc (t := 23) (BlockAt.below (t := 23) x0 hb1) _, (x1.below hb1).alloc _, ((hX.trans (hb1.mono (by have := hX.size; omega))).alloc (by omega) _)⟩
        case measure => simp [intOf]; omega
    · go_wp2
      obtain ⟨p1, p2, _, _⟩ := (((x1.set20 (.int .i64 0)).set21 (.int .i64 0))).two
      refine bodyPost_ret (v := encR d m none) (by simp [results, Try.results30, go_sem, encR, p1, p2]) rfl ⟨none, refnext_none (by have e : k = firstI b + 30 := (by omega); rw [← e]; exact hnone), rfl, ?_⟩
      repeat (first | exact hX | exact Below.refl _ _ | (with_reducible refine Below.setCell ?_ (by simp) _) | (with_reducible refine Below.trans ?_ (hb1.mono (by have := hX.size; omega))) | (with_reducible refine Below.alloc ?_ (by simp <;> omega) _))

set_option maxRecDepth 100000 in
set_option maxHeartbeats 4000000 in
theorem reflast_any (i f t d m c g y b : Int) (w : World) (hy0 : 0 ≤ y) (hy1 : y ≤ 255) :
    Calls Try.prog 31 #[.agg #[.int .i64 i, .int .i64 f, .int .i64 t, .int .i64 d, .int .i64 m, .int .i64 c, .int .i64 g, .int .u8 y], .int .i64 b] w (LastPost (onB i f t d m c g y) d m b w) := by
  obtain ⟨hF0, hF1⟩ := firstI_bd b
  go_enter Try.func31, Try.ntmps31
  go_wp2_with (go_at_call 52; refine (first_any _ _).mono ?_; rintro e w1 ⟨rfl, rfl⟩)
  go_loopw [7] (fun dv wr => ∃ k : Int, dv = .int .i64 k ∧ firstI b - 40 ≤ k ∧ k ≤ firstI b ∧ NoneTo (onB i f t d m c g y) d m b k (firstI b) ∧ LegAt wr w.heap.size i f t d m c g y ∧ BlockAt wr (w.heap.size + 1) #[.int .i64 0, .int .i64 0] 50 ∧ Below w.heap.size w wr)
    (fun dv _ => (intOf dv - firstI b + 40).toNat)
  case atStart =>
    exact ⟨_, rfl, by omega, by omega, noneTo_start, (BlockAt.new w #[.int .i64 i, .int .i64 f, .int .i64 t, .int .i64 d, .int .i64 m, .int .i64 c, .int .i64 g, .int .u8 y] 23).alloc _, by have := BlockAt.new (w.alloc (.cells #[.int .i64 i, .int .i64 f, .int .i64 t, .int .i64 d, .int .i64 m, .int .i64 c, .int .i64 g, .int .u8 y] 23)) #[.int .i64 0, .int .i64 0] 50; simpa using this, ((Below.refl _ w).alloc (Nat.le_refl _) _).alloc (by simp) _⟩
  case round =>
    obtain ⟨k, rfl, hk0, hk1, hnone, x0, x1, hX⟩ := hrel
    obtain ⟨q1, q2, q3, q4⟩ := x1.two
    obtain ⟨l0, l1, l2, l3, l4, l5, l6, l7⟩ := x0.cells
    have z0 := x0.lt
    have z1 := x1.lt
    by_cases hk : firstI b - 40 < k
    · cases hon : onB i f t d m c g y k with
      | true =>
        have hlaw := onLaw (onB_iff.1 hon).1
        have hlo := hlaw.lo k hon
        have hhi := hlaw.hi k hon
        have hda0 := hlaw.day0 k hon
        have hd0 := hlaw.d0
        have hd1 := hlaw.d1
        have hm0 := hlaw.m0
        have hm1 := hlaw.m1
        have hcu0 := hlaw.c0
        have hcu1 := hlaw.c1
        clear hlaw
        have Hon := Lib.hid hon
        clear hon
        by_cases hin : 1440 * k + d + m ≤ b
        · go_wp2_with (go_at_call 27; refine (refon_yes i f t d m c g y k wr hy0 hy1 Hon.out).mono ?_; rintro e w2 ⟨rfl, hb1⟩; obtain ⟨hc1, hf1⟩ := bcell hb1; have hs1 := hb1.size; have z2 : w.heap.size < w2.heap.size := (by omega); have z3 : w.heap.size + 1 < w2.heap.size := (by omega))
          all_goals
            obtain ⟨p1, p2, _, _⟩ := ((((x1.below hb1).set20 (.int .i64 (1440 * k + d))).set21 (.int .i64 (1440 * k + d + m))).alloc (.cells #[.int .i64 (1440 * k + d), .int .i64 (1440 * k + d + m)] 50)).two
            refine bodyPost_ret (v := encR d m (some k)) (by simp [results, Try.results31, go_sem, encR, p1, p2]) rfl ⟨some k, reflast_some Hon.out hnone hin, rfl, ?_⟩
            repeat (first | exact hX | exact Below.refl _ _ | (with_reducible refine Below.setCell ?_ (by simp) _) | (with_reducible refine Below.trans ?_ (hb1.mono (by have := hX.size; omega))) | (with_reducible refine Below.alloc ?_ (by simp <;> omega) _))
        · go_wp2_with (go_at_call 27; refine (refon_yes i f t d m c g y k wr hy0 hy1 Hon.out).mono ?_; rintro e w2 ⟨rfl, hb1⟩; obtain ⟨hc1, hf1⟩ := bcell hb1; have hs1 := hb1.size; have z2 : w.heap.size < w2.heap.size := (by omega); have z3 : w.heap.size + 1 < w2.heap.size := (by omega))
          go_roundw
          case rel => exact ⟨k - 1, by go_num, by omega, by omega, noneTo_step hnone (fun _ => by omega), BlockAt.alloc (t := 23) (BlockAt.below (t := 23) x0 hb1) _, (x1.below hb1).alloc _, ((hX.trans (hb1.mono (by have := hX.size; omega))).alloc (by omega) _)⟩
          case measure => simp [intOf]; omega
      | false =>
        have Hon := Lib.hid hon
        clear hon
        go_wp2_with (go_at_call 27; refine (refon_no i f t d m c g y k wr hy0 hy1 Hon.out).mono ?_; rintro e w2 ⟨rfl, hb1⟩; obtain ⟨hc1, hf1⟩ := bcell hb1; have hs1 := hb1.size; have z2 : w.heap.size < w2.heap.size := (by omega); have z3 : w.heap.size + 1 < w2.heap.size := (by omega))
        go_roundw
        case rel => exact ⟨k - 1, by go_num, by omega, by omega, noneTo_step hnone (fun h => by rw [Hon.out] at h; cases h), BlockAt.alloc (t := 23) (BlockAt.below (t := 23) x0 hb1) _, (x1.below hb1).alloc _, ((hX.trans (hb1.mono (by have := hX.size; omega))).alloc (by omega) _)⟩
        case measure => simp [intOf]; omega
    · go_wp2
      obtain ⟨p1, p2, _, _⟩ := (((x1.set20 (.int .i64 0)).set21 (.int .i64 0))).two
      refine bodyPost_ret (v := encR d m none) (by simp [results, Try.results31, go_sem, encR, p1, p2]) rfl ⟨none, reflast_none (by have e : k = firstI b - 40 := (by omega); rw [← e]; exact hnone), rfl, ?_⟩
      repeat (first | exact hX | exact Below.refl _ _ | (with_reducible refine Below.setCell ?_ (by simp) _) | (with_reducible refine Below.trans ?_ (hb1.mono (by have := hX.size; omega))) | (with_reducible refine Below.alloc ?_ (by simp <;> omega) _))
end Go.Proofs.Ytogofbncdggigaa
