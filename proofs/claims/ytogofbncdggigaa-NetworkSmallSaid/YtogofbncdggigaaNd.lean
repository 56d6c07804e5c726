/-
  The walks of the small functions: near, Pick, monday, same, and the reference's in, first, runs.
-/
import Derived.Test.YtogofbncdggigaaNc
import Derived.LoopTactic
namespace Go.Proofs.Ytogofbncdggigaa
open Go.RowKit Net

set_option maxHeartbeats 400000 in
theorem near_any (t : Int) (w : World) :
    Calls Try.prog 33 #[.int .i64 t] w fun e w' => e = .returned (.int .i64 (nearI t)) ∧ w = w' := by
  by_cases h1 : t < -1440
  · go_enter Try.func33, Try.ntmps33
    go_wp2
    go_ret
    exact ⟨ret_int (by unfold nearI; rw [if_pos (by omega)]), rfl⟩
  · by_cases h2 : 1051899839 < t
    · go_enter Try.func33, Try.ntmps33
      go_wp2
      go_ret
      exact ⟨ret_int (by unfold nearI; rw [if_neg (by omega), if_pos (by omega)]), rfl⟩
    · go_enter Try.func33, Try.ntmps33
      go_wp2
      go_ret
      exact ⟨ret_int (by unfold nearI; rw [if_neg (by omega), if_neg (by omega)]), rfl⟩

set_option maxHeartbeats 400000 in
theorem pick_any (x n : Int) (w : World) (hn : 1 ≤ n) (hn1 : n ≤ 4611686018427387904) :
    Calls Try.prog 15 #[.int .i64 x, .int .i64 n] w fun e w' => e = .returned (.int .i64 (pickI x n)) ∧ w = w' := by
  by_cases hx : 0 ≤ x
  · have h0 := Int.emod_nonneg x (b := n) (by omega)
    go_enter Try.func15, Try.ntmps15
    go_wp2
    go_ret
    exact ⟨rfl, rfl⟩
  · obtain ⟨h1, h2⟩ := tmod_neg_bd x n (by omega) hn
    go_enter Try.func15, Try.ntmps15
    go_wp2
    · go_ret
      exact ⟨ret_int (pickI_neg x n (by omega) hn (by omega)), rfl⟩
    · go_ret
      exact ⟨ret_int (pickI_zero x n (by omega) hn (by omega)), rfl⟩

set_option maxHeartbeats 400000 in
theorem monday_any (w : World) :
    Calls Try.prog 19 #[] w fun e w' => e = .returned (.agg #[.int .i64 7, .int .i64 1, .int .i64 2, .int .i64 600, .int .i64 120, .int .i64 30, .int .i64 0, .int .u8 1]) ∧ Below w.heap.size w w' := by
  go_enter Try.func19, Try.ntmps19
  go_wp2
  refine bodyPost_ret (v := .agg #[.int .i64 7, .int .i64 1, .int .i64 2, .int .i64 600, .int .i64 120, .int .i64 30, .int .i64 0, .int .u8 1]) (by simp [results, Try.results19, go_sem]) rfl ⟨rfl, ?_⟩
  repeat (first | exact Below.refl _ _ | (with_reducible refine Below.setCell ?_ (by simp) _) | (with_reducible refine Below.alloc ?_ (by simp <;> omega) _))

set_option maxHeartbeats 400000 in
theorem same_any (a b a' b' : Int) (p q : Bool) (w : World) :
    Calls Try.prog 29 #[.agg #[.int .i64 a, .int .i64 b], .bool p, .agg #[.int .i64 a', .int .i64 b'], .bool q] w fun e w' => e = .returned (.bool (sameB a b p a' b' q)) ∧ Below w.heap.size w w' := by
  go_enter Try.func29, Try.ntmps29
  go_wp2
  all_goals go_ret
  all_goals exact ⟨ret_bool (by unfold sameB; rw [Bool.eq_iff_iff]; simp [*]), by repeat (first | exact Below.refl _ _ | (with_reducible refine Below.alloc ?_ (by simp <;> omega) _))⟩

set_option maxHeartbeats 400000 in
theorem in_any (n a b : Int) (w : World) :
    Calls Try.prog 46 #[.int .i64 n, .int .i64 a, .int .i64 b] w fun e w' => e = .returned (.bool (inB n a b)) ∧ w = w' := by
  go_enter Try.func46, Try.ntmps46
  go_wp2
  all_goals go_ret
  · exact ⟨ret_bool (by unfold inB; rw [decide_eq_decide]; omega), rfl⟩
  · exact ⟨ret_bool (by unfold inB; symm; rw [decide_eq_false_iff_not]; omega), rfl⟩

set_option maxHeartbeats 400000 in
theorem first_any (t : Int) (w : World) :
    Calls Try.prog 52 #[.int .i64 t] w fun e w' => e = .returned (.int .i64 (firstI t)) ∧ w = w' := by
  go_enter Try.func52, Try.ntmps52
  go_wp2
  all_goals go_ret
  · exact ⟨ret_int (by unfold firstI; rw [if_pos (by omega)]), rfl⟩
  · exact ⟨ret_int (by unfold firstI; rw [if_neg (by omega), if_pos (by omega)]), rfl⟩
  · exact ⟨ret_int (by unfold firstI; rw [if_neg (by omega), if_neg (by omega)]), rfl⟩

theorem pow_step (y : Int) (k : Nat) : y / 2 ^ k / 2 = y / 2 ^ (k + 1) := by
  rw [Int.pow_succ]
  exact Int.ediv_ediv_of_nonneg (Int.le_of_lt (Int.pow_pos (by omega)))

set_option maxHeartbeats 400000 in
theorem runs_any (i f t d m c g y wd : Int) (w : World) (hy0 : 0 ≤ y) (hy1 : y ≤ 255) (h0 : 0 ≤ wd) (h1 : wd ≤ 6) :
    Calls Try.prog 51 #[.agg #[.int .i64 i, .int .i64 f, .int .i64 t, .int .i64 d, .int .i64 m, .int .i64 c, .int .i64 g, .int .u8 y], .int .i64 wd] w fun e w' => e = .returned (.bool (dayB y wd.toNat)) ∧ Below w.heap.size w w' := by
  go_enter Try.func51, Try.ntmps51
  go_wp2
  go_loop [5, 6] (fun n i => ∃ k : Nat, (k : Int) ≤ wd ∧ i = .int .i64 k ∧ n = .int .i64 (y / 2 ^ k)) (fun _ i => wd.toNat - (intOf i).toNat)
  case atStart => exact ⟨0, h0, rfl, by simp⟩
  case round =>
    obtain ⟨k, hk, rfl, rfl⟩ := hrel
    have hp := div_pow_bd y k hy0 hy1
    obtain ⟨hp0, hp1⟩ := hp
    by_cases hlt : (k : Int) < wd
    · go_wp2
      go_round
      case rel => exact ⟨k + 1, by omega, by go_num, by rw [← pow_step]⟩
      case measure => simp [intOf]; omega
    · go_wp2
      go_ret
      refine ⟨ret_bool ?_, (Below.refl _ _).alloc (Nat.le_refl _) _⟩
      obtain rfl : k = wd.toNat := by omega
      unfold dayB; rw [Bool.eq_iff_iff]; simp
end Go.Proofs.Ytogofbncdggigaa
