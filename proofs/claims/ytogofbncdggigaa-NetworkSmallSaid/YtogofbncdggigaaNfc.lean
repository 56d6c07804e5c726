/-
  What the seven functions that set a field have in common.
-/
import Derived.Test.YtogofbncdggigaaNfa
namespace Go.Proofs.Ytogofbncdggigaa
open Go.RowKit Net

/-- A leg in block B whose numbers are not great, with given days. -/
def SomeLeg (W : World) (B : Nat) (y : Int) : Prop := ∃ i f t d m c g : Int, LegAt W B i f t d m c g y ∧ (-1000000001 ≤ i ∧ i ≤ 1000000001) ∧ (-1000000001 ≤ f ∧ f ≤ 1000000001) ∧ (-1000000001 ≤ t ∧ t ≤ 1000000001)
/-- A function that sets a field of a leg. -/
def SetsLeg (F : FuncId) : Prop := ∀ (n : Int) (B : Nat) (y : Int) (w : World), (-1000000001 ≤ n ∧ n ≤ 1000000001) → SomeLeg w B y →
  Calls Try.prog F #[.pointer (some ⟨B, 0, none⟩), .int .i64 n] w fun e w' => e = .returned (.tuple #[]) ∧ SomeLeg w' B y ∧ w.grownBy w' (some B)
theorem LegAt.set {W : World} {B j : Nat} {i f t d m c g y : Int} (h : LegAt W B i f t d m c g y) (v : Value) :
    (W.setCell ⟨B, j, none⟩ v).heap[B]? = some (.cells (#[.int .i64 i, .int .i64 f, .int .i64 t, .int .i64 d, .int .i64 m, .int .i64 c, .int .i64 g, .int .u8 y].modify j fun _ => v) 23 (0, 0)) := by
  obtain ⟨hlt, hk⟩ := Array.getElem?_eq_some_iff.1 h
  show (W.heap.modify B _)[B]? = _
  rw [Array.getElem?_eq_getElem (by rw [Array.size_modify]; exact hlt), Array.getElem_modify_self, hk]
  rfl
theorem sets0 : SetsLeg 35 := fun n B y w hn ⟨i, f, t, d, m, c, g, h, hi, hf, ht⟩ => (set0_any n B i f t d m c g y w h).mono fun _ _ ⟨he, hw⟩ => ⟨he, ⟨n, f, t, d, m, c, g, by rw [hw]; exact h.set (j := 0) _, hn, hf, ht⟩, by rw [hw]; exact grownBy_setCell2 w B 0 _⟩
theorem sets1 : SetsLeg 36 := fun n B y w hn ⟨i, f, t, d, m, c, g, h, hi, hf, ht⟩ => (set1_any n B i f t d m c g y w h).mono fun _ _ ⟨he, hw⟩ => ⟨he, ⟨i, n, t, d, m, c, g, by rw [hw]; exact h.set (j := 1) _, hi, hn, ht⟩, by rw [hw]; exact grownBy_setCell2 w B 1 _⟩
theorem sets2 : SetsLeg 37 := fun n B y w hn ⟨i, f, t, d, m, c, g, h, hi, hf, ht⟩ => (set2_any n B i f t d m c g y w h).mono fun _ _ ⟨he, hw⟩ => ⟨he, ⟨i, f, n, d, m, c, g, by rw [hw]; exact h.set (j := 2) _, hi, hf, hn⟩, by rw [hw]; exact grownBy_setCell2 w B 2 _⟩
theorem sets3 : SetsLeg 38 := fun n B y w _ ⟨i, f, t, d, m, c, g, h, hi, hf, ht⟩ => (set3_any n B i f t d m c g y w h).mono fun _ _ ⟨he, hw⟩ => ⟨he, ⟨i, f, t, n, m, c, g, by rw [hw]; exact h.set (j := 3) _, hi, hf, ht⟩, by rw [hw]; exact grownBy_setCell2 w B 3 _⟩
theorem sets4 : SetsLeg 39 := fun n B y w _ ⟨i, f, t, d, m, c, g, h, hi, hf, ht⟩ => (set4_any n B i f t d m c g y w h).mono fun _ _ ⟨he, hw⟩ => ⟨he, ⟨i, f, t, d, n, c, g, by rw [hw]; exact h.set (j := 4) _, hi, hf, ht⟩, by rw [hw]; exact grownBy_setCell2 w B 4 _⟩
theorem sets5 : SetsLeg 40 := fun n B y w _ ⟨i, f, t, d, m, c, g, h, hi, hf, ht⟩ => (set5_any n B i f t d m c g y w h).mono fun _ _ ⟨he, hw⟩ => ⟨he, ⟨i, f, t, d, m, n, g, by rw [hw]; exact h.set (j := 5) _, hi, hf, ht⟩, by rw [hw]; exact grownBy_setCell2 w B 5 _⟩
theorem sets6 : SetsLeg 41 := fun n B y w _ ⟨i, f, t, d, m, c, g, h, hi, hf, ht⟩ => (set6_any n B i f t d m c g y w h).mono fun _ _ ⟨he, hw⟩ => ⟨he, ⟨i, f, t, d, m, c, n, by rw [hw]; exact h.set (j := 6) _, hi, hf, ht⟩, by rw [hw]; exact grownBy_setCell2 w B 6 _⟩
end Go.Proofs.Ytogofbncdggigaa
