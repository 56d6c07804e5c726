/-
  Plain laws of systems of sums: a product that the modulus divides; what Misses lists.
-/
import Derived.Test.YtnmnfbibjghjhaaDoorDv
namespace Go.Proofs.YtnmnfbibjghjhaaDoor
open Go.RowKit Dig

theorem worth_wt {k : Nat} (hk : k ≠ 3) (ws : List Nat) (p x : Nat) : worth k ws p x = wt ws p * x := by unfold worth; rw [if_neg hk]
theorem dvd_neg10 {x y : Int} (h : x = -y) : x % 10 = 0 ↔ y % 10 = 0 := by omega
theorem dvd_neg11 {x y : Int} (h : x = -y) : x % 11 = 0 ↔ y % 11 = 0 := by omega
theorem dvd_negM (k : Nat) {x y : Int} (h : x = -y) : x % (modOf k : Int) = 0 ↔ y % (modOf k : Int) = 0 := by
  rcases modOf_two k with hm | hm
  · rw [hm]; exact dvd_neg10 h
  · rw [hm]; exact dvd_neg11 h
/-- An error in one digit. -/
theorem code_one {k : Nat} (hk : k ≠ 3) (ws : List Nat) (p a b : Nat) : (((wt ws p : Nat) : Int) * ((a : Int) - (b : Int))).tmod (modOf k : Int) = 0 ↔ missB k ws false p a b = true := by
  rw [← Int.dvd_iff_tmod_eq_zero, Int.dvd_iff_emod_eq_zero]
  unfold missB missD
  rw [worth_wt hk, worth_wt hk, if_neg (by decide), decide_eq_true_iff]
  refine dvd_negM k ?_
  rw [Int.mul_sub, Int.natCast_mul, Int.natCast_mul]
  omega
/-- Neighbours exchanged. -/
theorem code_two {k : Nat} (hk : k ≠ 3) (ws : List Nat) (p a b : Nat) : ((((wt ws p : Nat) : Int) - ((wt ws (p + 1) : Nat) : Int)) * ((a : Int) - (b : Int))).tmod (modOf k : Int) = 0 ↔ missB k ws true p a b = true := by
  rw [← Int.dvd_iff_tmod_eq_zero, Int.dvd_iff_emod_eq_zero]
  unfold missB missD
  rw [worth_wt hk, worth_wt hk, worth_wt hk, worth_wt hk, if_pos rfl, decide_eq_true_iff]
  refine dvd_negM k ?_
  rw [Int.mul_sub, Int.sub_mul, Int.sub_mul, Int.natCast_mul, Int.natCast_mul, Int.natCast_mul, Int.natCast_mul]
  omega
theorem missB_swap (k : Nat) (ws : List Nat) (sw : Bool) (p a b : Nat) : missB k ws sw p a b = missB k ws sw p b a := by
  unfold missB
  refine decide_eq_decide.2 (dvd_negM k ?_)
  unfold missD
  cases sw
  · rw [if_neg (by decide), if_neg (by decide)]; omega
  · rw [if_pos rfl, if_pos rfl]; omega
theorem mem_miss {k : Nat} {ws : List Nat} {n : Nat} {sw : Bool} {p a b : Nat} (hk : k ≠ 4) (hab : a < b) (hb : b < 10) (h1 : 1 ≤ p) (hn : if sw = true then p < n else p ≤ n) : (sw, p, a, b) ∈ missList k ws n ↔ missB k ws sw p a b = true := by
  unfold missList
  rw [if_neg hk]
  unfold missTo missSq missRow
  rw [List.mem_flatMap]
  constructor
  · rintro ⟨i, _, hx⟩
    by_cases h0 : i = 0
    · rw [if_pos h0] at hx; cases hx
    · rw [if_neg h0, List.mem_flatMap] at hx
      obtain ⟨a', _, hx⟩ := hx
      rw [List.mem_map] at hx
      obtain ⟨b', hb', he⟩ := hx
      have h2 := (List.mem_filter.1 hb').2
      simp only [Prod.mk.injEq] at he
      obtain ⟨e1, e2, e3, e4⟩ := he
      rw [e1, e2, e3, e4, Bool.and_eq_true] at h2
      exact h2.2
  · intro h
    have key : ∀ i, i ≠ 0 → i < 2 * n → swOf n i = sw → atOf n i = p → ∃ i', i' ∈ List.range (2 * n) ∧ (sw, p, a, b) ∈ (if i' = 0 then [] else (List.range 10).flatMap fun a => ((List.range 10).filter fun b => decide (a < b) && missB k ws (swOf n i') (atOf n i') a b).map fun b => (swOf n i', atOf n i', a, b)) := fun i h0 hi hs hp => by
      refine ⟨i, List.mem_range.2 hi, ?_⟩
      rw [if_neg h0, List.mem_flatMap]
      refine ⟨a, List.mem_range.2 (by omega), ?_⟩
      rw [List.mem_map]
      refine ⟨b, List.mem_filter.2 ⟨List.mem_range.2 hb, ?_⟩, ?_⟩
      · rw [hs, hp, decide_eq_true hab, h]; rfl
      · rw [hs, hp]
    cases sw with
    | true =>
      rw [if_pos rfl] at hn
      exact key (n + p) (by omega) (by omega) (decide_eq_true (by omega)) (by unfold atOf; rw [if_pos (by omega)]; omega)
    | false =>
      rw [if_neg (by decide)] at hn
      exact key p (by omega) (by omega) (decide_eq_false (by omega)) (by unfold atOf; rw [if_neg (by omega)])
/-- What 'has' answers for two different digits. -/
theorem mem_minmax {k : Nat} {ws : List Nat} {n : Nat} {sw : Bool} {p a b : Nat} (hk : k ≠ 4) (hne : a ≠ b) (ha : a < 10) (hb : b < 10) (h1 : 1 ≤ p) (hn : if sw = true then p < n else p ≤ n) : decide ((sw, p, min a b, max a b) ∈ missList k ws n) = missB k ws sw p a b := by
  rw [Bool.eq_iff_iff, decide_eq_true_iff]
  by_cases h : a < b
  · rw [Nat.min_eq_left (by omega), Nat.max_eq_right (by omega)]
    exact mem_miss hk h hb h1 hn
  · rw [Nat.min_eq_right (by omega), Nat.max_eq_left (by omega), missB_swap]
    exact mem_miss hk (by omega) ha h1 hn
/-- A checked text with two digits of its payload exchanged. -/
theorem wt_at (ws : List Nat) (B : Nat) : wt ws (B + 1) = ws.getD (B % ws.length) 0 := by unfold wt; rw [if_neg (by omega), Nat.add_sub_cancel]
end Go.Proofs.YtnmnfbibjghjhaaDoor
