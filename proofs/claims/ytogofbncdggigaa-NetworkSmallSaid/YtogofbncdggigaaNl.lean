/-
  Plain laws on lists of departures. No Go, no memory.
-/
import Derived.Test.YtogofbncdggigaaNn
namespace Go.Proofs.Ytogofbncdggigaa.Net

/-- The days of the departures that leave from a on, and at b or earlier, in their order. -/
def IsList (on : Int → Bool) (d a b : Int) (ds : List Int) : Prop :=
  ds.Pairwise (· < ·) ∧ ∀ k, k ∈ ds ↔ on k = true ∧ a ≤ 1440 * k + d ∧ 1440 * k + d ≤ b

theorem sorted_ext : ∀ {l r : List Int}, l.Pairwise (· < ·) → r.Pairwise (· < ·) → (∀ x, x ∈ l ↔ x ∈ r) → l = r
  | [], [], _, _, _ => rfl
  | [], b :: r, _, _, h => by have := (h b).2 (by simp); cases this
  | a :: l, [], _, _, h => by have := (h a).1 (by simp); cases this
  | a :: l, b :: r, hl, hr, h => by
    rw [List.pairwise_cons] at hl hr
    have e : a = b := by
      have h1 := (h a).1 (by simp)
      have h2 := (h b).2 (by simp)
      rw [List.mem_cons] at h1 h2
      rcases h1 with h1 | h1
      · exact h1
      · rcases h2 with h2 | h2
        · exact h2.symm
        · have := hl.1 b h2; have := hr.1 a h1; omega
    subst e
    rw [sorted_ext hl.2 hr.2 (fun x => ?_)]
    have hx := h x
    rw [List.mem_cons, List.mem_cons] at hx
    constructor
    · intro hm
      have := hl.1 x hm
      rcases hx.1 (.inr hm) with e | e
      · omega
      · exact e
    · intro hm
      have := hr.1 x hm
      rcases hx.2 (.inr hm) with e | e
      · omega
      · exact e

theorem isList_unique {on : Int → Bool} {d a b : Int} {l r : List Int} (h : IsList on d a b l) (k : IsList on d a b r) : l = r :=
  sorted_ext h.1 k.1 (fun x => (h.2 x).trans (k.2 x).symm)

/-- What is kept of the departures that have come. -/
def keptOf (d F : Int) (pre : List Int) : List Int := pre.filter fun k => decide (F ≤ 1440 * k + d)
theorem keptOf_hit {d F : Int} (pre : List Int) {k : Int} (h : F ≤ 1440 * k + d) : keptOf d F (pre ++ [k]) = keptOf d F pre ++ [k] := by simp [keptOf, h]
theorem keptOf_miss {d F : Int} (pre : List Int) {k : Int} (h : 1440 * k + d < F) : keptOf d F (pre ++ [k]) = keptOf d F pre := by
  have : ¬ F ≤ 1440 * k + d := by omega
  simp [keptOf, this]

theorem near_test {on : Int → Bool} {d m c a b k : Int} (h : OnLaw on d m c) (hk : on k = true) : (a ≤ 1440 * k + d ↔ nearI a ≤ 1440 * k + d) ∧ (1440 * k + d ≤ b ↔ 1440 * k + d ≤ nearI b) := by
  have h1 := h.day0 k hk; have h2 := h.hi k hk; have h3 := h.d0; have h4 := h.m0
  unfold nearI
  constructor
  · split <;> (try split) <;> omega
  · split <;> (try split) <;> omega

theorem list_done {on : Int → Bool} {d m c a b s : Int} (h : OnLaw on d m c) (hs : s = 0 ∨ 1440 * s ≤ nearI a) (hL : ∀ x ∈ depDays on s, 1440 * x + d ≤ nearI b) : IsList on d a b (keptOf d (nearI a) (depDays on s)) := by
  refine ⟨(sorted_depDays _ s rfl).filter _, fun k => ?_⟩
  unfold keptOf
  rw [List.mem_filter, decide_eq_true_eq, mem_depDays k _ s rfl]
  constructor
  · rintro ⟨⟨h1, h2, h3⟩, h4⟩
    have := near_test (a := a) (b := b) h h3
    exact ⟨h3, this.1.2 h4, this.2.2 (hL k ((mem_depDays k _ s rfl).2 ⟨h1, h2, h3⟩))⟩
  · rintro ⟨h1, h2, h3⟩
    have ht := near_test (a := a) (b := b) h h1
    have h4 := ht.1.1 h2
    have h5 := h.day0 k h1; have h6 := h.d1
    refine ⟨⟨?_, h.day1 k h1, h1⟩, h4⟩
    omega

theorem list_break {on : Int → Bool} {d m c a b s k : Int} {q : List Int} (h : OnLaw on d m c) (hs : s = 0 ∨ 1440 * s ≤ nearI a) (hp : q ++ [k] <+: depDays on s) (hk : nearI b < 1440 * k + d) (hL : ∀ x ∈ q, 1440 * x + d ≤ nearI b) :
    IsList on d a b (keptOf d (nearI a) q) := by
  obtain ⟨h1, h2, h3, h4⟩ := prefix_days hp
  have hsort := sorted_depDays (on := on) _ s rfl
  obtain ⟨r, hr⟩ := hp
  have hsub : q.Pairwise (· < ·) := by
    rw [← hr, List.append_assoc] at hsort
    exact (List.pairwise_append.1 hsort).1
  have hmem : ∀ j, j ∈ q → s ≤ j ∧ j ≤ 730484 ∧ on j = true := fun j hj => (mem_depDays j _ s rfl).1 (by rw [← hr]; simp [hj])
  refine ⟨hsub.filter _, fun j => ?_⟩
  unfold keptOf
  rw [List.mem_filter, decide_eq_true_eq]
  constructor
  · rintro ⟨h5, h6⟩
    obtain ⟨_, _, h9⟩ := hmem j h5
    have := near_test (a := a) (b := b) h h9
    exact ⟨h9, this.1.2 h6, this.2.2 (hL j h5)⟩
  · rintro ⟨h5, h6, h7⟩
    have ht := near_test (a := a) (b := b) h h5
    have h8 := ht.1.1 h6
    have h9 := ht.2.1 h7
    have h10 := h.day0 j h5; have h11 := h.d1; have h12 := h.d0
    refine ⟨h4 j ?_ ?_ h5, h8⟩
    · omega
    · omega

theorem list_many {on : Int → Bool} {d m c a b s k : Int} {q : List Int} (h : OnLaw on d m c) (hs : s = 0 ∨ 1440 * s ≤ nearI a) (hp : q ++ [k] <+: depDays on s) (hk : 1440 * k + d ≤ nearI b) (hk2 : nearI a ≤ 1440 * k + d) (hL : ∀ x ∈ q, 1440 * x + d ≤ nearI b)
    (hlen : (keptOf d (nearI a) q).length = 1000) : ∃ ds, IsList on d a b ds ∧ 1000 < ds.length := by
  refine ⟨(depDays on s).filter (fun k => decide (nearI a ≤ 1440 * k + d ∧ 1440 * k + d ≤ nearI b)), ⟨(sorted_depDays _ s rfl).filter _, fun j => ?_⟩, ?_⟩
  · rw [List.mem_filter, decide_eq_true_eq, mem_depDays j _ s rfl]
    constructor
    · rintro ⟨⟨_, _, h3⟩, h4, h5⟩
      have := near_test (a := a) (b := b) h h3
      exact ⟨h3, this.1.2 h4, this.2.2 h5⟩
    · rintro ⟨h1, h2, h3⟩
      have ht := near_test (a := a) (b := b) h h1
      have h4 := ht.1.1 h2
      have h5 := h.day0 j h1; have h6 := h.d1
      refine ⟨⟨?_, h.day1 j h1, h1⟩, h4, ht.2.1 h3⟩
      omega
  · obtain ⟨r, hr⟩ := hp
    rw [← hr, List.filter_append, List.filter_append]
    have e : q.filter (fun k => decide (nearI a ≤ 1440 * k + d ∧ 1440 * k + d ≤ nearI b)) = keptOf d (nearI a) q := by
      unfold keptOf
      refine List.filter_congr fun x hx => ?_
      have := hL x hx
      rw [decide_eq_decide]; omega
    rw [e, List.length_append, List.length_append, hlen]
    simp [hk, hk2]
    omega

end Go.Proofs.Ytogofbncdggigaa.Net
