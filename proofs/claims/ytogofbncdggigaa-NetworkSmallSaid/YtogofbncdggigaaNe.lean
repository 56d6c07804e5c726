/-
  The walks of the reference's Right and On.
-/
import Derived.Test.YtogofbncdggigaaNd
namespace Go.Proofs.Ytogofbncdggigaa
open Go.RowKit Net

set_option maxHeartbeats 4000000 in
theorem refright_any (i f t d m c g y : Int) (w : World) (hy0 : 0 ≤ y) (hy1 : y ≤ 255) :
    Calls Try.prog 28 #[.agg #[.int .i64 i, .int .i64 f, .int .i64 t, .int .i64 d, .int .i64 m, .int .i64 c, .int .i64 g, .int .u8 y]] w fun e w' => e = .returned (.bool (rightB i f t d m c g y)) ∧ Below w.heap.size w w' := by
  go_enter Try.func28, Try.ntmps28
  go_wp2_with (go_at_call 46; refine (in_any _ _ _ _).mono ?_; rintro e w1 ⟨rfl, rfl⟩)
  all_goals go_ret
  all_goals exact ⟨ret_bool (by rw [Bool.eq_iff_iff, rightB_iff]; simp only [inB, decide_eq_true_eq, Bool.and_eq_true, bne_iff_ne, ne_eq, Bool.false_eq_true, false_iff] at *; omega), by repeat (first | exact Below.refl _ _ | (with_reducible refine Below.alloc ?_ (by simp <;> omega) _))⟩

set_option maxHeartbeats 1000000 in
theorem refon_yes (i f t d m c g y day : Int) (w : World) (hy0 : 0 ≤ y) (hy1 : y ≤ 255) (h : onB i f t d m c g y day = true) :
    Calls Try.prog 27 #[.agg #[.int .i64 i, .int .i64 f, .int .i64 t, .int .i64 d, .int .i64 m, .int .i64 c, .int .i64 g, .int .u8 y], .int .i64 day] w fun e w' => e = .returned (.tuple #[.agg #[.int .i64 (1440 * day + d), .int .i64 (1440 * day + d + m)], .bool true]) ∧ Below w.heap.size w w' := by
  unfold onB at h
  simp only [Bool.and_eq_true, decide_eq_true_eq] at h
  obtain ⟨⟨⟨hr, hd0, hd1⟩, hrun⟩, hc, hm⟩ := h
  obtain ⟨_, _, _, _, _, _, _, _, _, _, _, _, _, _, _, _, _⟩ := rightB_iff.1 hr
  rw [runsB_dayB] at hrun
  have hin : inB day 0 730484 = true := decide_eq_true ⟨hd0, hd1⟩
  have hm0 : 0 ≤ day % 7 := by omega
  have hm1 : day % 7 ≤ 6 := by omega
  go_enter Try.func27, Try.ntmps27
  go_wp2_with (first
    | (go_at_call 28; refine (refright_any _ _ _ _ _ _ _ _ _ (by omega) (by omega)).mono ?_; rintro e w1 ⟨rfl, hb1⟩; obtain ⟨hc1, hf1⟩ := bcell hb1; have hz : w.heap.size + 1 < w1.heap.size := (by have := hb1.size; simp at this; omega); have hz0 : w.heap.size < w1.heap.size := (by omega))
    | (go_at_call 46; refine (in_any _ _ _ _).mono ?_; rintro e w1 ⟨rfl, rfl⟩)
    | (go_at_call 51; refine (runs_any _ _ _ _ _ _ _ _ _ _ (by omega) (by omega) (by omega) (by omega)).mono ?_; rintro e w2 ⟨rfl, hb2⟩; obtain ⟨hc2, hf2⟩ := bcell hb2; have hz2 : w.heap.size + 1 < w2.heap.size := (by have := hb2.size; omega)))
  refine bodyPost_ret (v := .tuple #[.agg #[.int .i64 (day * 1440 + d), .int .i64 (day * 1440 + d + m)], .bool true]) (by simp [results, Try.results27, go_sem, hc1, hc2, hz]) rfl ⟨by rw [Int.mul_comm day 1440], ?_⟩
  repeat (first | exact Below.refl _ _ | (with_reducible refine Below.setCell ?_ (by simp) _) | (with_reducible refine Below.trans ?_ (hb2.mono (by omega))) | (with_reducible refine Below.trans ?_ (hb1.mono (by simp <;> omega))) | (with_reducible refine Below.alloc ?_ (by simp <;> omega) _))

set_option maxHeartbeats 2000000 in
theorem refon_no (i f t d m c g y day : Int) (w : World) (hy0 : 0 ≤ y) (hy1 : y ≤ 255) (h : onB i f t d m c g y day = false) :
    Calls Try.prog 27 #[.agg #[.int .i64 i, .int .i64 f, .int .i64 t, .int .i64 d, .int .i64 m, .int .i64 c, .int .i64 g, .int .u8 y], .int .i64 day] w fun e w' => e = .returned (.tuple #[.agg #[.int .i64 0, .int .i64 0], .bool false]) ∧ Below w.heap.size w w' := by
  rcases onB_no h with hr | ⟨hr, h1 | h1 | ⟨h0, h1, hrun | ⟨hrun, h2 | ⟨h2, h3⟩⟩⟩⟩
  all_goals
    clear h
    try obtain ⟨_, _, _, _, _, _, _, _, _, _, _, _, _, _, _, _, _⟩ := rightB_iff.1 hr
    try rw [runsB_dayB] at hrun
    have hm0 : 0 ≤ day % 7 := by omega
    have hm1 : day % 7 ≤ 6 := by omega
    try first
      | have hin : inB day 0 730484 = true := decide_eq_true (by omega)
      | have hin : inB day 0 730484 = false := decide_eq_false (by omega)
    go_enter Try.func27, Try.ntmps27
    go_wp2_with (first
      | (go_at_call 28; refine (refright_any _ _ _ _ _ _ _ _ _ (by omega) (by omega)).mono ?_; rintro e w1 ⟨rfl, hb1⟩; obtain ⟨hc1, hf1⟩ := bcell hb1; have hz : w.heap.size + 1 < w1.heap.size := (by have := hb1.size; simp at this; omega); have hz0 : w.heap.size < w1.heap.size := (by omega))
      | (go_at_call 46; refine (in_any _ _ _ _).mono ?_; rintro e w1 ⟨rfl, rfl⟩)
      | (go_at_call 51; refine (runs_any _ _ _ _ _ _ _ _ _ _ (by omega) (by omega) (by omega) (by omega)).mono ?_; rintro e w2 ⟨rfl, hb2⟩; obtain ⟨hc2, hf2⟩ := bcell hb2; have hz2 : w.heap.size + 1 < w2.heap.size := (by have := hb2.size; omega)))
    all_goals
      refine bodyPost_ret (v := .tuple #[.agg #[.int .i64 0, .int .i64 0], .bool false]) ?_ rfl ⟨rfl, ?_⟩
      · first
          | (simp [results, Try.results27, go_sem, hc1, hc2, hz]; done)
          | simp [results, Try.results27, go_sem, hc1]
      · repeat (first | exact Below.refl _ _ | (with_reducible refine Below.setCell ?_ (by simp) _) | (with_reducible refine Below.trans ?_ (hb2.mono (by omega))) | (with_reducible refine Below.trans ?_ (hb1.mono (by simp <;> omega))) | (with_reducible refine Below.alloc ?_ (by simp <;> omega) _))
end Go.Proofs.Ytogofbncdggigaa
