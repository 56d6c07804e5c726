/-
  The walk of network.On.
-/
import Derived.Test.YtogofbncdggigaaNb
import Derived.Laws.BitsLemmas
namespace Go.Proofs.Ytogofbncdggigaa
open Go.RowKit Net

theorem bcell {W w1 : World} (hb : Below W.heap.size W w1) : (∀ b o, b < W.heap.size → w1.cell? ⟨b, o, none⟩ = W.cell? ⟨b, o, none⟩) ∧ (∀ b o, b < W.heap.size → w1.frozen? ⟨b, o, none⟩ = W.frozen? ⟨b, o, none⟩) :=
  ⟨fun b o h => hb.cell (p := ⟨b, o, none⟩) h, fun b o h => hb.frozen (p := ⟨b, o, none⟩) h⟩

theorem and_one_u8 (x : Int) (h₀ : 0 ≤ x) (h₁ : x < 256) : bits .and .u8 x 1 = x % 2 := bits_mask .u8 8 (by decide) wraps_u8 1 (by decide) x h₀ h₁
theorem div_pow_bd (y : Int) (k : Nat) (h0 : 0 ≤ y) (h1 : y ≤ 255) : 0 ≤ y / 2 ^ k ∧ y / 2 ^ k < 256 := by
  have hp : (0 : Int) < 2 ^ k := Int.pow_pos (by omega)
  refine ⟨Int.ediv_nonneg h0 (by omega), Int.lt_of_le_of_lt (Int.ediv_le_self _ h0) (by omega)⟩
theorem bit_yes {y day : Int} (h0 : 0 ≤ y) (h1 : y ≤ 255) (h : runsB y day = true) : (bits BinOp.and IntKind.u8 (y / 2 ^ (day % 7).toNat) 1 == 0) = false := by
  have := div_pow_bd y (day % 7).toNat h0 h1
  rw [and_one_u8 _ this.1 this.2, beq_eq_false_iff_ne]
  unfold runsB at h; have := of_decide_eq_true h; omega
theorem bit_no {y day : Int} (h0 : 0 ≤ y) (h1 : y ≤ 255) (h : runsB y day = false) : (bits BinOp.and IntKind.u8 (y / 2 ^ (day % 7).toNat) 1 == 0) = true := by
  have := div_pow_bd y (day % 7).toNat h0 h1
  rw [and_one_u8 _ this.1 this.2, beq_iff_eq]
  unfold runsB at h; have := of_decide_eq_false h; omega

set_option maxHeartbeats 1000000 in
theorem on_yes (i f t d m c g y day : Int) (w : World) (hy0 : 0 ≤ y) (hy1 : y ≤ 255) (h : onB i f t d m c g y day = true) :
    Calls Try.prog 16 #[.agg #[.int .i64 i, .int .i64 f, .int .i64 t, .int .i64 d, .int .i64 m, .int .i64 c, .int .i64 g, .int .u8 y], .int .i64 day] w fun e w' => e = .returned (.tuple #[.agg #[.int .i64 (1440 * day + d), .int .i64 (1440 * day + d + m)], .bool true]) ∧ Below w.heap.size w w' := by
  unfold onB at h
  simp only [Bool.and_eq_true, decide_eq_true_eq] at h
  obtain ⟨⟨⟨hr, hd0, hd1⟩, hrun⟩, hc, hm⟩ := h
  obtain ⟨_, _, _, _, _, _, _, _, _, _, _, _, _, _, _, _, _⟩ := rightB_iff.1 hr
  have hbit := bit_yes hy0 hy1 hrun
  clear hrun
  go_enter Try.func16, Try.ntmps16
  go_wp2_with (go_at_call 13; refine (right_any _ _ _ _ _ _ _ _ _ (by omega) (by omega)).mono ?_; rintro e w1 ⟨rfl, hb1⟩; obtain ⟨hc1, hf1⟩ := bcell hb1; have hz : w.heap.size + 1 < w1.heap.size := by have := hb1.size; simp at this; omega)
  refine bodyPost_ret (v := .tuple #[.agg #[.int .i64 (1440 * day + d), .int .i64 (1440 * day + d + m)], .bool true]) (by simp [results, Try.results16, go_sem, hc1]) rfl ⟨rfl, ?_⟩
  repeat (first | exact Below.refl _ _ | (with_reducible refine Below.setCell ?_ (by simp) _) | (with_reducible refine Below.trans ?_ (hb1.mono (by simp <;> omega))) | (with_reducible refine Below.alloc ?_ (by simp <;> omega) _))

theorem onB_no {i f t d m c g y day : Int} (h : onB i f t d m c g y day = false) : rightB i f t d m c g y = false ∨ (rightB i f t d m c g y = true ∧ (day < 0 ∨ 730484 < day ∨ (0 ≤ day ∧ day ≤ 730484 ∧ (runsB y day = false ∨ runsB y day = true ∧ (1440 * day + d < c ∨ c ≤ 1440 * day + d ∧ 1051898399 < 1440 * day + d + m))))) := by
  cases hr : rightB i f t d m c g y with
  | false => exact .inl rfl
  | true =>
    refine .inr ⟨rfl, ?_⟩
    unfold onB at h
    rw [hr] at h
    cases hb : runsB y day with
    | false => by_cases h0 : 0 ≤ day <;> by_cases h1 : day ≤ 730484 <;> simp <;> omega
    | true =>
      rw [hb] at h
      simp only [Bool.true_and, Bool.and_true, Bool.and_eq_false_iff, decide_eq_false_iff_not] at h
      simp
      omega

set_option maxHeartbeats 2000000 in
theorem on_no (i f t d m c g y day : Int) (w : World) (hy0 : 0 ≤ y) (hy1 : y ≤ 255) (h : onB i f t d m c g y day = false) :
    Calls Try.prog 16 #[.agg #[.int .i64 i, .int .i64 f, .int .i64 t, .int .i64 d, .int .i64 m, .int .i64 c, .int .i64 g, .int .u8 y], .int .i64 day] w fun e w' => e = .returned (.tuple #[.agg #[.int .i64 0, .int .i64 0], .bool false]) ∧ Below w.heap.size w w' := by
  rcases onB_no h with hr | ⟨hr, h1 | h1 | ⟨h0, h1, hrun | ⟨hrun, h2 | ⟨h2, h3⟩⟩⟩⟩
  all_goals
    clear h
    try obtain ⟨_, _, _, _, _, _, _, _, _, _, _, _, _, _, _, _, _⟩ := rightB_iff.1 hr
    first
      | have hbit := bit_yes hy0 hy1 hrun; clear hrun
      | have hbit := bit_no hy0 hy1 hrun; clear hrun
      | skip
    go_enter Try.func16, Try.ntmps16
    go_wp2_with (go_at_call 13; refine (right_any _ _ _ _ _ _ _ _ _ (by omega) (by omega)).mono ?_; rintro e w1 ⟨rfl, hb1⟩; obtain ⟨hc1, hf1⟩ := bcell hb1; have hz : w.heap.size + 1 < w1.heap.size := by have := hb1.size; simp at this; omega)
    refine bodyPost_ret (v := .tuple #[.agg #[.int .i64 0, .int .i64 0], .bool false]) (by simp [results, Try.results16, go_sem, hc1]) rfl ⟨rfl, ?_⟩
    repeat (first | exact Below.refl _ _ | (with_reducible refine Below.setCell ?_ (by simp) _) | (with_reducible refine Below.trans ?_ (hb1.mono (by simp <;> omega))) | (with_reducible refine Below.alloc ?_ (by simp <;> omega) _))
end Go.Proofs.Ytogofbncdggigaa
