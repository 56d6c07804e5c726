/-
  The walk of NetworkTells.
-/
import Derived.Test.YtogofbncdggigaaNp
import Derived.Test.YtogofbncdggigaaNq
namespace Go.Proofs.Ytogofbncdggigaa
open Go.RowKit Net

set_option maxHeartbeats 1000000 in
theorem networktells_any (i f t d m c g y a b : Int) (w : World) (hy0 : 0 ≤ y) (hy1 : y ≤ 255) :
    Calls Try.prog 3 #[.agg #[.int .i64 i, .int .i64 f, .int .i64 t, .int .i64 d, .int .i64 m, .int .i64 c, .int .i64 g, .int .u8 y], .int .i64 a, .int .i64 b] w fun e w' => e = .returned (.bool true) ∧ Below w.heap.size w w' := by
  go_enter Try.func3, Try.ntmps3
  go_wp2_with (first
    | (go_at_call 11; refine (tells_any i f t d m c g y a b _ hy0 hy1).mono ?_; rintro e w1 ⟨rfl, hb1⟩)
    | (go_at_call 12; refine (awake_any _).mono ?_; rintro e w2 ⟨rfl, hb2⟩))
  go_ret
  exact ⟨rfl, (((Below.refl _ w).alloc (Nat.le_refl _) _).trans (hb1.mono (by simp))).trans (hb2.mono (by have := hb1.size; simp at this; omega))⟩
end Go.Proofs.Ytogofbncdggigaa
