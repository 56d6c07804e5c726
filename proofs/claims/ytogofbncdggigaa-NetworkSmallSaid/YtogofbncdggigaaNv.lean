/-
  What Next and Last hand back, as values; blocks of cells as they lie.
-/
import Derived.Test.YtogofbncdggigaaNd
import Derived.Test.YtogofbncdggigaaNn
namespace Go.Proofs.Ytogofbncdggigaa
open Go.RowKit Net

/-- What Next and Last hand back. -/
def encR (d m : Int) : Option Int → Value
  | some k => .tuple #[.agg #[.int .i64 (1440 * k + d), .int .i64 (1440 * k + d + m)], .bool true]
  | none => .tuple #[.agg #[.int .i64 0, .int .i64 0], .bool false]
def NextPost (on : Int → Bool) (d m c ready : Int) (w : World) (e : Ending) (w' : World) : Prop :=
  ∃ r, IsNext on d c ready r ∧ e = .returned (encR d m r) ∧ Below w.heap.size w w'
def LastPost (on : Int → Bool) (d m b : Int) (w : World) (e : Ending) (w' : World) : Prop :=
  ∃ r, IsLast on d m b r ∧ e = .returned (encR d m r) ∧ Below w.heap.size w w'
theorem near_same (t : Int) (w : World) :
    Calls Try.prog 33 #[.int .i64 t] w fun e w' => e = .returned (.int .i64 (nearI t)) ∧ w' = w := (near_any t w).mono fun _ _ h => ⟨h.1, h.2.symm⟩
theorem tdiv_bd (x : Int) (h : x < 0) (h1 : -20160 ≤ x) : -15 ≤ x.tdiv 1440 ∧ x.tdiv 1440 ≤ 0 := by
  have h0 := Int.tmod_add_mul_tdiv x 1440
  have h1 := tmod_neg_bd x 1440 h (by omega)
  omega
end Go.Proofs.Ytogofbncdggigaa
