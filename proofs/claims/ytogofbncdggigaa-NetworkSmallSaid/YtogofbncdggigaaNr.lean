/-
  Plain laws on the reference's windows of days: who looks at a window of weeks sees the first, the last and all departures. No Go, no memory.
-/
import Derived.Test.YtogofbncdggigaaNl
namespace Go.Proofs.Ytogofbncdggigaa.Net

theorem onB_shift {i f t d m c g y j k : Int} (h : onB i f t d m c g y j = true) (hm : k % 7 = j % 7) (h0 : 0 ≤ k) (h1 : k ≤ 730484) (hc : c ≤ 1440 * k + d) (hi : 1440 * k + d + m ≤ 1051898399) : onB i f t d m c g y k = true := by
  obtain ⟨hr, _, hrun, _⟩ := onB_iff.1 h
  refine onB_iff.2 ⟨hr, ⟨h0, h1⟩, ?_, hc, hi⟩
  unfold runsB at hrun ⊢; rw [hm]; exact hrun

theorem firstI_bd (x : Int) : 0 ≤ firstI x ∧ firstI x ≤ 730485 := by unfold firstI; split <;> (try split) <;> omega
theorem firstI_cases (x : Int) : (x < 0 ∧ firstI x = 0) ∨ (0 ≤ x ∧ x ≤ 1051898399 ∧ firstI x = x / 1440) ∨ (1051898399 < x ∧ firstI x = 730485) := by
  unfold firstI; split <;> (try split) <;> omega

/-- No day of a window takes what is there at a time. -/
def NoneIn (on : Int → Bool) (d c ready s k : Int) : Prop := ∀ j, s ≤ j → j < k → on j = true → 1440 * j + d - c < ready
theorem noneIn_start {on : Int → Bool} {d c ready s : Int} : NoneIn on d c ready s s := fun j h1 h2 => by omega
theorem noneIn_step {on : Int → Bool} {d c ready s k : Int} (h : NoneIn on d c ready s k) (hk : on k = true → 1440 * k + d - c < ready) : NoneIn on d c ready s (k + 1) := by
  intro j h1 h2 hon
  by_cases e : j = k
  · subst e; exact hk hon
  · exact h j h1 (by omega) hon

theorem refnext_some {i f t d m c g y ready k : Int} (hk : onB i f t d m c g y k = true) (hn : NoneIn (onB i f t d m c g y) d c ready (firstI ready) k) (ht : ready ≤ 1440 * k + d - c) : IsNext (onB i f t d m c g y) d c ready (some k) := by
  have hl := onLaw (onB_iff.1 hk).1
  refine ⟨hk, ht, fun j hj hon => ?_⟩
  by_cases e : firstI ready ≤ j
  · exact hn j e hj hon
  · have h1 := hl.hi j hon; have h2 := hl.d1; have h3 := hl.m0; have h4 := hl.c0; have h5 := hl.day0 j hon
    rcases firstI_cases ready with h | h | h <;> omega

theorem refnext_none {i f t d m c g y ready : Int} (hn : NoneIn (onB i f t d m c g y) d c ready (firstI ready) (firstI ready + 30)) : IsNext (onB i f t d m c g y) d c ready none := by
  intro j hon
  have hl := onLaw (onB_iff.1 hon).1
  have h1 := hl.hi j hon; have h2 := hl.d1; have h3 := hl.m0; have h4 := hl.c0; have h5 := hl.day0 j hon; have h6 := hl.day1 j hon; have h7 := hl.c1; have h8 := hl.d0
  by_cases e : firstI ready ≤ j
  · by_cases e2 : j < firstI ready + 30
    · exact hn j e e2 hon
    · -- a day of the same weekday in the second week of the window
      have hk := onB_shift (k := firstI ready + 8 + (j - (firstI ready + 8)) % 7) hon (by omega) (by have := firstI_bd ready; omega) (by omega)
        (by have := firstI_bd ready; omega) (by omega)
      have := hn _ (by omega) (by omega) hk
      rcases firstI_cases ready with h | h | h <;> omega
  · rcases firstI_cases ready with h | h | h <;> omega

/-- No day of a window, looked at from its end, has a departure that arrives in time. -/
def NoneTo (on : Int → Bool) (d m b k s : Int) : Prop := ∀ j, k < j → j ≤ s → on j = true → b < 1440 * j + d + m
theorem noneTo_start {on : Int → Bool} {d m b s : Int} : NoneTo on d m b s s := fun j h1 h2 => by omega
theorem noneTo_step {on : Int → Bool} {d m b k s : Int} (h : NoneTo on d m b k s) (hk : on k = true → b < 1440 * k + d + m) : NoneTo on d m b (k - 1) s := by
  intro j h1 h2 hon
  by_cases e : j = k
  · subst e; exact hk hon
  · exact h j (by omega) h2 hon
theorem reflast_some {i f t d m c g y b k : Int} (hk : onB i f t d m c g y k = true) (hn : NoneTo (onB i f t d m c g y) d m b k (firstI b)) (ht : 1440 * k + d + m ≤ b) : IsLast (onB i f t d m c g y) d m b (some k) := by
  have hl := onLaw (onB_iff.1 hk).1
  refine ⟨hk, ht, fun j hj hon => ?_⟩
  by_cases e : j ≤ firstI b
  · exact hn j hj e hon
  · have h1 := hl.day1 j hon; have h2 := hl.d0; have h3 := hl.m0; have h5 := hl.day0 j hon
    rcases firstI_cases b with h | h | h <;> omega
theorem reflast_none {i f t d m c g y b : Int} (hn : NoneTo (onB i f t d m c g y) d m b (firstI b - 40) (firstI b)) : IsLast (onB i f t d m c g y) d m b none := by
  intro j hon
  have hl := onLaw (onB_iff.1 hon).1
  have h1 := hl.hi j hon; have h2 := hl.d1; have h3 := hl.m0; have h4 := hl.c0; have h5 := hl.day0 j hon; have h6 := hl.day1 j hon; have h7 := hl.m1; have h8 := hl.d0; have h9 := hl.lo j hon
  have hb := firstI_bd b
  by_cases e : j ≤ firstI b
  · by_cases e2 : firstI b - 40 < j
    · exact hn j e2 e hon
    · have hk := onB_shift (k := firstI b - 21 + (j - (firstI b - 21)) % 7) hon (by omega) (by omega) (by omega) (by omega) (by omega)
      have := hn _ (by omega) (by omega) hk
      rcases firstI_cases b with h | h | h <;> omega
  · rcases firstI_cases b with h | h | h <;> omega

/-- The days of a window whose departures leave within two times. -/
def InWin (on : Int → Bool) (d a b s k : Int) (ds : List Int) : Prop :=
  ds.Pairwise (· < ·) ∧ ∀ j, j ∈ ds ↔ (s ≤ j ∧ j < k) ∧ on j = true ∧ a ≤ 1440 * j + d ∧ 1440 * j + d ≤ b
theorem inWin_start {on : Int → Bool} {d a b s : Int} : InWin on d a b s s [] := ⟨List.Pairwise.nil, fun j => by
  constructor
  · intro h; cases h
  · intro h; omega⟩
theorem inWin_hit {on : Int → Bool} {d a b s k : Int} {ds : List Int} (h : InWin on d a b s k ds) (hs : s ≤ k) (hk : on k = true) (ha : a ≤ 1440 * k + d) (hb : 1440 * k + d ≤ b) : InWin on d a b s (k + 1) (ds ++ [k]) := by
  refine ⟨List.pairwise_append.2 ⟨h.1, List.pairwise_singleton _ _, fun x hx y hy => ?_⟩, fun j => ?_⟩
  · obtain rfl := List.mem_singleton.1 hy
    have := (h.2 x).1 hx; omega
  · rw [List.mem_append, List.mem_singleton, h.2 j]
    constructor
    · rintro (⟨h1, h2⟩ | rfl)
      · exact ⟨by omega, h2⟩
      · exact ⟨by omega, hk, ha, hb⟩
    · rintro ⟨h1, h2⟩
      by_cases e : j = k
      · exact .inr e
      · exact .inl ⟨by omega, h2⟩
theorem inWin_miss {on : Int → Bool} {d a b s k : Int} {ds : List Int} (h : InWin on d a b s k ds) (hk : ¬ (on k = true ∧ a ≤ 1440 * k + d ∧ 1440 * k + d ≤ b)) : InWin on d a b s (k + 1) ds := by
  refine ⟨h.1, fun j => ?_⟩
  rw [h.2 j]
  constructor
  · rintro ⟨h1, h2⟩; exact ⟨by omega, h2⟩
  · rintro ⟨h1, h2⟩
    by_cases e : j = k
    · subst e; exact absurd h2 hk
    · exact ⟨by omega, h2⟩
theorem reflist_done {i f t d m c g y a b k : Int} {ds : List Int} (h : InWin (onB i f t d m c g y) d a b (firstI a) k ds) (hk : firstI b < k) : IsList (onB i f t d m c g y) d a b ds := by
  refine ⟨h.1, fun j => ?_⟩
  rw [h.2 j]
  constructor
  · rintro ⟨_, h2⟩; exact h2
  · rintro ⟨h1, h2, h3⟩
    refine ⟨?_, h1, h2, h3⟩
    have hl := onLaw (onB_iff.1 h1).1
    have h4 := hl.hi j h1; have h5 := hl.d1; have h6 := hl.m0; have h7 := hl.day0 j h1; have h8 := hl.day1 j h1; have h9 := hl.d0
    rcases firstI_cases a with e | e | e <;> rcases firstI_cases b with e' | e' | e' <;> omega
theorem reflist_many {i f t d m c g y a b k : Int} {ds : List Int} (h : InWin (onB i f t d m c g y) d a b (firstI a) k ds) (hs : firstI a ≤ k) (hk : onB i f t d m c g y k = true) (ha : a ≤ 1440 * k + d) (hb : 1440 * k + d ≤ b)
    (hlen : ds.length = 1000) : ∃ ls, IsList (onB i f t d m c g y) d a b ls ∧ 1000 < ls.length := by
  have h' := inWin_hit h hs hk ha hb
  refine ⟨(ds ++ [k]) ++ (depDays (onB i f t d m c g y) (k + 1)).filter (fun j => decide (a ≤ 1440 * j + d ∧ 1440 * j + d ≤ b)), ⟨List.pairwise_append.2 ⟨h'.1, (sorted_depDays _ _ rfl).filter _, fun x hx y hy => ?_⟩, fun j => ?_⟩, ?_⟩
  · have h1 := (h'.2 x).1 hx
    have h2 := (mem_depDays _ _ _ rfl).1 (List.mem_filter.1 hy).1
    omega
  · rw [List.mem_append, h'.2 j, List.mem_filter, decide_eq_true_eq, mem_depDays j _ _ rfl]
    constructor
    · rintro (⟨_, h2⟩ | ⟨⟨_, _, h3⟩, h4⟩)
      · exact h2
      · exact ⟨h3, h4⟩
    · rintro ⟨h1, h2, h3⟩
      have hl := onLaw (onB_iff.1 h1).1
      by_cases e : j < k + 1
      · refine .inl ⟨⟨?_, e⟩, h1, h2, h3⟩
        have h4 := hl.hi j h1; have h5 := hl.d1; have h6 := hl.m0; have h7 := hl.day0 j h1
        rcases firstI_cases a with e | e | e <;> omega
      · exact .inr ⟨⟨by omega, hl.day1 j h1, h1⟩, h2, h3⟩
  · rw [List.length_append, List.length_append, hlen]; simp; omega
theorem isList_wrong {on : Int → Bool} {d a b : Int} (h : ∀ j, on j = false) : IsList on d a b [] := ⟨List.Pairwise.nil, fun k => by
  constructor
  · intro h; cases h
  · rintro ⟨h1, _⟩; rw [h k] at h1; cases h1⟩

end Go.Proofs.Ytogofbncdggigaa.Net
