/-
  Small laws for the walk of DigitWeights.
-/
import Derived.Test.YtnmnfbibjghjhaaDoorDwc
namespace Go.Proofs.YtnmnfbibjghjhaaDoor
open Go.RowKit Dig

theorem below_then {B : Nat} {w wr w2 : World} (h : Below B w wr) (hs : B ≤ wr.heap.size) (hb : Below wr.drew.heap.size wr.drew w2) : Below B w w2 := h.drew.trans (hb.mono hs)
theorem below_then2 {B : Nat} {w wr w2 : World} (h : Below B w wr) (hs : B ≤ wr.heap.size) (hb : Below wr.heap.size wr w2) : Below B w w2 := h.trans (hb.mono hs)
theorem below_drewN {B : Nat} {w wr : World} (h : Below B w wr) (n : Nat) : Below B w (wr.drewN n) := ⟨h.os, h.tape, h.output, h.size, h.block⟩
theorem MissAt.drewN {W : World} {v : Value} {l : List Miss4} (h : MissAt W v l) (n : Nat) : MissAt (W.drewN n) v l := h.below (Nat.le_refl _) (below_drewN (Below.refl _ W) n)
theorem digit_at {t T : List Nat} {C i d : Nat} (hT : t ++ [C] = T) (hd : ∀ c ∈ t, 48 ≤ c ∧ c ≤ 57) (hi : i < t.length) (h : T[i]? = some d) : 48 ≤ d ∧ d ≤ 57 := by
  rw [← hT, List.getElem?_append_left hi] at h
  exact hd d (List.mem_of_getElem? h)
theorem prod_small {x a b : Nat} (hx : x ≤ 10) (ha : a ≤ 9) (hb : b ≤ 9) : -90 ≤ (x : Int) * ((a : Int) - (b : Int)) ∧ (x : Int) * ((a : Int) - (b : Int)) ≤ 90 := by
  rcases (by omega : x = 0 ∨ x = 1 ∨ x = 2 ∨ x = 3 ∨ x = 4 ∨ x = 5 ∨ x = 6 ∨ x = 7 ∨ x = 8 ∨ x = 9 ∨ x = 10) with rfl | rfl | rfl | rfl | rfl | rfl | rfl | rfl | rfl | rfl | rfl <;> constructor <;> omega
theorem prod_small2 {y : Int} {a b : Nat} (hx : -10 ≤ y) (hx2 : y ≤ 10) (ha : a ≤ 9) (hb : b ≤ 9) : -90 ≤ y * ((a : Int) - (b : Int)) ∧ y * ((a : Int) - (b : Int)) ≤ 90 := by
  by_cases h : 0 ≤ y
  · obtain ⟨x, rfl⟩ : ∃ x : Nat, y = (x : Int) := ⟨y.toNat, by omega⟩
    exact prod_small (by omega) ha hb
  · obtain ⟨x, hx⟩ : ∃ x : Nat, -y = (x : Int) := ⟨(-y).toNat, by omega⟩
    have := prod_small (x := x) (by omega) ha hb
    have e : y * ((a : Int) - (b : Int)) = -((x : Int) * ((a : Int) - (b : Int))) := by rw [← hx, Int.neg_mul, Int.neg_neg]
    rw [e]
    omega
theorem tmod_small {P : Int} (h1 : -90 ≤ P) (h2 : P ≤ 90) (M : Int) : IntKind.i64.wrap (P.tmod M) = P.tmod M := by
  have h : (P.tmod M).natAbs ≤ 90 := by
    rw [Int.natAbs_tmod]
    exact Nat.le_trans (Nat.mod_le _ _) (by omega)
  rw [IntKind.wrap_i64]; omega

end Go.Proofs.YtnmnfbibjghjhaaDoor
