/-
  The walks of network.Right and network.On.
-/
import Derived.Test.YtogofbncdggigaaProg
import Derived.Test.YtogofbncdggigaaNa
import Derived.WalkKit
import Derived.WalkSpells
import Derived.WalkLawsBesides
import Derived.KernelRfl
namespace Go.Proofs.Ytogofbncdggigaa
open Go.RowKit Net

theorem ret_bool {a b : Bool} (h : a = b) : Ending.returned (.bool a) = .returned (.bool b) := by rw [h]
theorem ret_int {k : IntKind} {a b : Int} (h : a = b) : Ending.returned (.int k a) = .returned (.int k b) := by rw [h]

set_option maxHeartbeats 4000000 in
theorem right_any (i f t d m c g y : Int) (w : World) (hy0 : 0 ≤ y) (hy1 : y ≤ 255) :
    Calls Try.prog 13 #[.agg #[.int .i64 i, .int .i64 f, .int .i64 t, .int .i64 d, .int .i64 m, .int .i64 c, .int .i64 g, .int .u8 y]] w fun e w' => e = .returned (.bool (rightB i f t d m c g y)) ∧ Below w.heap.size w w' := by
  have i0 : ∀ w, (Instr.index 58 (.agg #[.int .i64 i, .int .i64 1, .int .i64 999999, .int .i64 f, .int .i64 1, .int .i64 999999, .int .i64 t, .int .i64 1, .int .i64 999999, .int .i64 d, .int .i64 0, .int .i64 1439, .int .i64 m, .int .i64 1, .int .i64 20160, .int .i64 c, .int .i64 0, .int .i64 10080, .int .i64 g, .int .i64 0, .int .i64 1000000000, .int .i64 y, .int .i64 1, .int .i64 127]) (.int .i64 0)).run Try.prog w = .ok (.agg #[.int .i64 i, .int .i64 1, .int .i64 999999]) w := fun _ => by kernel_rfl
  have i1 : ∀ w, (Instr.index 58 (.agg #[.int .i64 i, .int .i64 1, .int .i64 999999, .int .i64 f, .int .i64 1, .int .i64 999999, .int .i64 t, .int .i64 1, .int .i64 999999, .int .i64 d, .int .i64 0, .int .i64 1439, .int .i64 m, .int .i64 1, .int .i64 20160, .int .i64 c, .int .i64 0, .int .i64 10080, .int .i64 g, .int .i64 0, .int .i64 1000000000, .int .i64 y, .int .i64 1, .int .i64 127]) (.int .i64 1)).run Try.prog w = .ok (.agg #[.int .i64 f, .int .i64 1, .int .i64 999999]) w := fun _ => by kernel_rfl
  have i2 : ∀ w, (Instr.index 58 (.agg #[.int .i64 i, .int .i64 1, .int .i64 999999, .int .i64 f, .int .i64 1, .int .i64 999999, .int .i64 t, .int .i64 1, .int .i64 999999, .int .i64 d, .int .i64 0, .int .i64 1439, .int .i64 m, .int .i64 1, .int .i64 20160, .int .i64 c, .int .i64 0, .int .i64 10080, .int .i64 g, .int .i64 0, .int .i64 1000000000, .int .i64 y, .int .i64 1, .int .i64 127]) (.int .i64 2)).run Try.prog w = .ok (.agg #[.int .i64 t, .int .i64 1, .int .i64 999999]) w := fun _ => by kernel_rfl
  have i3 : ∀ w, (Instr.index 58 (.agg #[.int .i64 i, .int .i64 1, .int .i64 999999, .int .i64 f, .int .i64 1, .int .i64 999999, .int .i64 t, .int .i64 1, .int .i64 999999, .int .i64 d, .int .i64 0, .int .i64 1439, .int .i64 m, .int .i64 1, .int .i64 20160, .int .i64 c, .int .i64 0, .int .i64 10080, .int .i64 g, .int .i64 0, .int .i64 1000000000, .int .i64 y, .int .i64 1, .int .i64 127]) (.int .i64 3)).run Try.prog w = .ok (.agg #[.int .i64 d, .int .i64 0, .int .i64 1439]) w := fun _ => by kernel_rfl
  have i4 : ∀ w, (Instr.index 58 (.agg #[.int .i64 i, .int .i64 1, .int .i64 999999, .int .i64 f, .int .i64 1, .int .i64 999999, .int .i64 t, .int .i64 1, .int .i64 999999, .int .i64 d, .int .i64 0, .int .i64 1439, .int .i64 m, .int .i64 1, .int .i64 20160, .int .i64 c, .int .i64 0, .int .i64 10080, .int .i64 g, .int .i64 0, .int .i64 1000000000, .int .i64 y, .int .i64 1, .int .i64 127]) (.int .i64 4)).run Try.prog w = .ok (.agg #[.int .i64 m, .int .i64 1, .int .i64 20160]) w := fun _ => by kernel_rfl
  have i5 : ∀ w, (Instr.index 58 (.agg #[.int .i64 i, .int .i64 1, .int .i64 999999, .int .i64 f, .int .i64 1, .int .i64 999999, .int .i64 t, .int .i64 1, .int .i64 999999, .int .i64 d, .int .i64 0, .int .i64 1439, .int .i64 m, .int .i64 1, .int .i64 20160, .int .i64 c, .int .i64 0, .int .i64 10080, .int .i64 g, .int .i64 0, .int .i64 1000000000, .int .i64 y, .int .i64 1, .int .i64 127]) (.int .i64 5)).run Try.prog w = .ok (.agg #[.int .i64 c, .int .i64 0, .int .i64 10080]) w := fun _ => by kernel_rfl
  have i6 : ∀ w, (Instr.index 58 (.agg #[.int .i64 i, .int .i64 1, .int .i64 999999, .int .i64 f, .int .i64 1, .int .i64 999999, .int .i64 t, .int .i64 1, .int .i64 999999, .int .i64 d, .int .i64 0, .int .i64 1439, .int .i64 m, .int .i64 1, .int .i64 20160, .int .i64 c, .int .i64 0, .int .i64 10080, .int .i64 g, .int .i64 0, .int .i64 1000000000, .int .i64 y, .int .i64 1, .int .i64 127]) (.int .i64 6)).run Try.prog w = .ok (.agg #[.int .i64 g, .int .i64 0, .int .i64 1000000000]) w := fun _ => by kernel_rfl
  have i7 : ∀ w, (Instr.index 58 (.agg #[.int .i64 i, .int .i64 1, .int .i64 999999, .int .i64 f, .int .i64 1, .int .i64 999999, .int .i64 t, .int .i64 1, .int .i64 999999, .int .i64 d, .int .i64 0, .int .i64 1439, .int .i64 m, .int .i64 1, .int .i64 20160, .int .i64 c, .int .i64 0, .int .i64 10080, .int .i64 g, .int .i64 0, .int .i64 1000000000, .int .i64 y, .int .i64 1, .int .i64 127]) (.int .i64 7)).run Try.prog w = .ok (.agg #[.int .i64 y, .int .i64 1, .int .i64 127]) w := fun _ => by kernel_rfl
  go_enter Try.func13, Try.ntmps13
  go_wp2
  refine wp_loop_rounds 9 ?_
  rw [rounds_succ]
  go_wp2
  all_goals first
    | (go_ret; exact ⟨ret_bool (rightB_no (by omega)).symm, by repeat (first | exact Below.refl _ _ | refine Below.alloc ?_ (by simp <;> omega) _)⟩)
    | skip
  clear i0
  rw [rounds_succ]
  go_wp2
  all_goals first
    | (go_ret; exact ⟨ret_bool (rightB_no (by omega)).symm, by repeat (first | exact Below.refl _ _ | refine Below.alloc ?_ (by simp <;> omega) _)⟩)
    | skip
  clear i1
  rw [rounds_succ]
  go_wp2
  all_goals first
    | (go_ret; exact ⟨ret_bool (rightB_no (by omega)).symm, by repeat (first | exact Below.refl _ _ | refine Below.alloc ?_ (by simp <;> omega) _)⟩)
    | skip
  clear i2
  rw [rounds_succ]
  go_wp2
  all_goals first
    | (go_ret; exact ⟨ret_bool (rightB_no (by omega)).symm, by repeat (first | exact Below.refl _ _ | refine Below.alloc ?_ (by simp <;> omega) _)⟩)
    | skip
  clear i3
  rw [rounds_succ]
  go_wp2
  all_goals first
    | (go_ret; exact ⟨ret_bool (rightB_no (by omega)).symm, by repeat (first | exact Below.refl _ _ | refine Below.alloc ?_ (by simp <;> omega) _)⟩)
    | skip
  clear i4
  rw [rounds_succ]
  go_wp2
  all_goals first
    | (go_ret; exact ⟨ret_bool (rightB_no (by omega)).symm, by repeat (first | exact Below.refl _ _ | refine Below.alloc ?_ (by simp <;> omega) _)⟩)
    | skip
  clear i5
  rw [rounds_succ]
  go_wp2
  all_goals first
    | (go_ret; exact ⟨ret_bool (rightB_no (by omega)).symm, by repeat (first | exact Below.refl _ _ | refine Below.alloc ?_ (by simp <;> omega) _)⟩)
    | skip
  clear i6
  rw [rounds_succ]
  go_wp2
  all_goals first
    | (go_ret; exact ⟨ret_bool (rightB_no (by omega)).symm, by repeat (first | exact Below.refl _ _ | refine Below.alloc ?_ (by simp <;> omega) _)⟩)
    | skip
  clear i7
  rw [rounds_succ]
  go_wp2
  go_ret
  exact ⟨ret_bool (by rw [Bool.eq_iff_iff, rightB_iff, bne_iff_ne]; omega), by repeat (first | exact Below.refl _ _ | refine Below.alloc ?_ (by simp <;> omega) _)⟩
end Go.Proofs.Ytogofbncdggigaa
