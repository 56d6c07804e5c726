/-
  Plain laws on lists of departures in a window of days. No Go, no memory.
-/
import Derived.Test.YtogofbncdggigaaNo
import Derived.Test.YtogofbncdggigaaNr
namespace Go.Proofs.Ytogofbncdggigaa.Net

theorem sorted_length : ∀ (l : List Int) (lo hi : Int), l.Pairwise (· < ·) → (∀ x ∈ l, lo ≤ x ∧ x ≤ hi) → lo ≤ hi + 1 → (l.length : Int) ≤ hi + 1 - lo
  | [], lo, hi, _, _, h => by simp; omega
  | a :: l, lo, hi, hs, hb, h => by
    rw [List.pairwise_cons] at hs
    have ha := hb a (by simp)
    have := sorted_length l (a + 1) hi hs.2 (fun x hx => ⟨by have := hs.1 x hx; omega, (hb x (by simp [hx])).2⟩) (by omega)
    simp only [List.length_cons]
    omega

theorem isList_length {on : Int → Bool} {d m c A T : Int} {l : List Int} (h : OnLaw on d m c) (hl : IsList on d A T l) (hA : 0 ≤ A) (hT : T ≤ A + 86400) (hAT : A ≤ T + 1) : l.length ≤ 1000 := by
  have h1 := h.d0; have h2 := h.d1
  have := sorted_length l (A / 1440 - 1) (T / 1440) hl.1 (fun x hx => by
    have := (hl.2 x).1 hx
    omega) (by omega)
  omega

theorem isList_parts {on : Int → Bool} {d A M T : Int} {xs us vs : List Int} (hx : IsList on d A T xs) (ha : IsList on d A (min M T) us) (hb : IsList on d (M + 1) T vs) (hAM : A ≤ M) : xs = us ++ vs := by
  refine isList_unique hx ⟨?_, fun k => ?_⟩
  · rw [List.pairwise_append]
    refine ⟨ha.1, hb.1, fun p hp q hq => ?_⟩
    have := (ha.2 p).1 hp; have := (hb.2 q).1 hq; omega
  · rw [List.mem_append, ha.2, hb.2]
    constructor
    · rintro (⟨h1, h2, h3⟩ | ⟨h1, h2, h3⟩)
      · exact ⟨h1, h2, by omega⟩
      · exact ⟨h1, by omega, h3⟩
    · rintro ⟨h1, h2, h3⟩
      by_cases e : 1440 * k + d ≤ M
      · exact .inl ⟨h1, h2, by omega⟩
      · exact .inr ⟨h1, by omega, h3⟩

theorem isList_gap {i f t d m c g y A T x x' : Int} {xs : List Int} (h : IsList (onB i f t d m c g y) d A T xs) {k : Nat} (h0 : xs[k]? = some x') (h1 : xs[k + 1]? = some x) : 1 ≤ x - x' ∧ x - x' ≤ 7 := by
  obtain ⟨hk, rfl⟩ := List.getElem?_eq_some_iff.1 h0
  obtain ⟨hk1, rfl⟩ := List.getElem?_eq_some_iff.1 h1
  have hlt : ∀ (p q : Nat) (hp : p < xs.length) (hq : q < xs.length), p < q → xs[p] < xs[q] := fun p q hp hq hpq => List.pairwise_iff_getElem.1 h.1 p q hp hq hpq
  have h2 := hlt k (k + 1) hk hk1 (by omega)
  refine ⟨by omega, ?_⟩
  by_cases e : xs[k + 1] - xs[k] ≤ 7
  · exact e
  · exfalso
    have m0 := (h.2 _).1 (List.getElem_mem hk)
    have m1 := (h.2 _).1 (List.getElem_mem hk1)
    have b0 := onB_iff.1 m0.1
    have b1 := onB_iff.1 m1.1
    have hs := onB_shift (k := xs[k] + 7) m0.1 (by omega) (by omega) (by omega) (by omega) (by omega)
    have hm := (h.2 (xs[k] + 7)).2 ⟨hs, by omega, by omega⟩
    obtain ⟨j, hj, e2⟩ := List.getElem_of_mem hm
    by_cases c1 : j ≤ k
    · by_cases c2 : j = k
      · subst c2; omega
      · have := hlt j k hj hk (by omega); omega
    · by_cases c2 : j = k + 1
      · subst c2; omega
      · have := hlt (k + 1) j hk1 hj (by omega); omega

/-- The days ahead of k. -/
def upTo (xs : List Int) (k : Int) : List Int := xs.filter fun x => decide (x < k)
theorem upTo_start {on : Int → Bool} {d A T : Int} {xs : List Int} (h : IsList on d A T xs) (hd0 : 0 ≤ d) (hd : d ≤ 1439) (_ : 0 ≤ A) : upTo xs (A / 1440) = [] := by
  unfold upTo
  rw [List.filter_eq_nil_iff]
  intro x hx
  have := (h.2 x).1 hx
  simp; omega
theorem upTo_end {on : Int → Bool} {d A T k : Int} {xs : List Int} (h : IsList on d A T xs) (hd0 : 0 ≤ d) (hd : d ≤ 1439) (hk : T / 1440 < k) : upTo xs k = xs := by
  unfold upTo
  rw [List.filter_eq_self]
  intro x hx
  have := (h.2 x).1 hx
  simp; omega
theorem upTo_len_no : ∀ {xs : List Int} {k : Int}, k ∉ xs → (upTo xs (k + 1)).length = (upTo xs k).length
  | [], _, _ => rfl
  | a :: l, k, h => by
    simp only [List.mem_cons, not_or] at h
    have := upTo_len_no (xs := l) h.2
    unfold upTo at this ⊢
    have e : decide (a < k + 1) = decide (a < k) := by rw [decide_eq_decide]; omega
    rw [List.filter_cons, List.filter_cons, e]
    split
    · simp [this]
    · exact this
theorem upTo_len_yes : ∀ {xs : List Int} {k : Int}, xs.Pairwise (· < ·) → k ∈ xs → (upTo xs (k + 1)).length = (upTo xs k).length + 1
  | [], _, _, h => by cases h
  | a :: l, k, hs, h => by
    rw [List.pairwise_cons] at hs
    by_cases e : a = k
    · subst e
      have hn : a ∉ l := fun hm => by have := hs.1 a hm; omega
      have := upTo_len_no hn
      unfold upTo at this ⊢
      have e1 : decide (a < a + 1) = true := by simp; omega
      have e2 : decide (a < a) = false := by simp
      rw [List.filter_cons, List.filter_cons, e1, e2]
      simp [this]
    · have hm : k ∈ l := by
        rcases List.mem_cons.1 h with h | h
        · exact absurd h.symm e
        · exact h
      have hlt := hs.1 k hm
      have := upTo_len_yes hs.2 hm
      unfold upTo at this ⊢
      have e1 : decide (a < k + 1) = true := by simp; omega
      have e2 : decide (a < k) = true := by simp; omega
      rw [List.filter_cons, List.filter_cons, e1, e2]
      simp [this]
theorem upTo_le (xs : List Int) (k : Int) : (upTo xs k).length ≤ xs.length := List.length_filter_le _ _

theorem depCells_get (d m : Int) : ∀ (ds : List Int) (k : Nat) (x : Int), ds[k]? = some x → (depCells d m ds)[k * 2]? = some (.int .i64 (1440 * x + d)) ∧ (depCells d m ds)[k * 2 + 1]? = some (.int .i64 (1440 * x + d + m))
  | [], k, x, h => by simp at h
  | z :: ds, 0, x, h => by
    simp at h
    subst h
    exact ⟨by simp [depCells], by simp [depCells]⟩
  | z :: ds, k + 1, x, h => by
    obtain ⟨h1, h2⟩ := depCells_get d m ds k x (by simpa using h)
    refine ⟨?_, ?_⟩
    · rw [show (k + 1) * 2 = k * 2 + 2 from by omega]
      show ([Value.int .i64 (1440 * z + d), .int .i64 (1440 * z + d + m)] ++ depCells d m ds)[k * 2 + 2]? = _
      rw [List.getElem?_append_right (by simp)]; simpa using h1
    · rw [show (k + 1) * 2 + 1 = k * 2 + 1 + 2 from by omega]
      show ([Value.int .i64 (1440 * z + d), .int .i64 (1440 * z + d + m)] ++ depCells d m ds)[k * 2 + 1 + 2]? = _
      rw [List.getElem?_append_right (by simp)]; simpa using h2
end Go.Proofs.Ytogofbncdggigaa.Net
