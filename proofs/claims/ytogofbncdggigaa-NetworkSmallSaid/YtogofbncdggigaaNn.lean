/-
  Plain laws on departures: what Next, Last and List find. No Go, no memory.
-/
import Derived.Test.YtogofbncdggigaaNa
namespace Go.Proofs.Ytogofbncdggigaa.Net

/-- What holds of the days of a leg that is right. -/
structure OnLaw (on : Int → Bool) (d m c : Int) : Prop where
  day0 : ∀ j, on j = true → 0 ≤ j
  day1 : ∀ j, on j = true → j ≤ 730484
  lo : ∀ j, on j = true → c ≤ 1440 * j + d
  hi : ∀ j, on j = true → 1440 * j + d + m ≤ 1051898399
  d0 : 0 ≤ d
  d1 : d ≤ 1439
  m0 : 1 ≤ m
  m1 : m ≤ 20160
  c0 : 0 ≤ c
  c1 : c ≤ 10080

theorem onB_iff {i f t d m c g y day : Int} : onB i f t d m c g y day = true ↔ rightB i f t d m c g y = true ∧ (0 ≤ day ∧ day ≤ 730484) ∧ runsB y day = true ∧ c ≤ 1440 * day + d ∧ 1440 * day + d + m ≤ 1051898399 := by
  unfold onB
  simp only [Bool.and_eq_true, decide_eq_true_eq]
  constructor
  · rintro ⟨⟨⟨a, b⟩, e⟩, h⟩; exact ⟨a, b, e, h⟩
  · rintro ⟨a, b, e, h⟩; exact ⟨⟨⟨a, b⟩, e⟩, h⟩

theorem onLaw {i f t d m c g y : Int} (h : rightB i f t d m c g y = true) : OnLaw (onB i f t d m c g y) d m c := by
  have hb := rightB_iff.1 h
  constructor
  · intro j hj; exact (onB_iff.1 hj).2.1.1
  · intro j hj; exact (onB_iff.1 hj).2.1.2
  · intro j hj; exact (onB_iff.1 hj).2.2.2.1
  · intro j hj; exact (onB_iff.1 hj).2.2.2.2
  all_goals omega

theorem onB_wrong {i f t d m c g y : Int} (h : rightB i f t d m c g y = false) (j : Int) : onB i f t d m c g y j = false := by
  unfold onB; rw [h]; rfl

theorem mem_depDays {on : Int → Bool} (j : Int) : ∀ (n : Nat) (s : Int), (730485 - s).toNat = n → (j ∈ depDays on s ↔ s ≤ j ∧ j ≤ 730484 ∧ on j = true) := by
  intro n
  induction n with
  | zero =>
    intro s hs
    rw [depDays_end (by omega)]
    constructor
    · intro h; cases h
    · intro h; omega
  | succ n ih =>
    intro s hs
    have := ih (s + 1) (by omega)
    cases hon : on s with
    | true =>
      rw [depDays_yes (by omega) hon, List.mem_cons, this]
      constructor
      · rintro (rfl | h)
        · exact ⟨by omega, by omega, hon⟩
        · exact ⟨by omega, h.2⟩
      · rintro ⟨h1, h2, h3⟩
        by_cases e : j = s
        · exact .inl e
        · exact .inr ⟨by omega, h2, h3⟩
    | false =>
      rw [depDays_no (by omega) hon, this]
      constructor
      · rintro ⟨h1, h2⟩; exact ⟨by omega, h2⟩
      · rintro ⟨h1, h2, h3⟩
        refine ⟨?_, h2, h3⟩
        by_cases e : j = s
        · subst e; rw [hon] at h3; cases h3
        · omega

theorem sorted_depDays {on : Int → Bool} : ∀ (n : Nat) (s : Int), (730485 - s).toNat = n → (depDays on s).Pairwise (· < ·) := by
  intro n
  induction n with
  | zero => intro s hs; rw [depDays_end (by omega)]; exact List.Pairwise.nil
  | succ n ih =>
    intro s hs
    have h1 := ih (s + 1) (by omega)
    cases hon : on s with
    | true =>
      rw [depDays_yes (by omega) hon, List.pairwise_cons]
      refine ⟨fun a ha => ?_, h1⟩
      have := (mem_depDays a n (s + 1) (by omega)).1 ha
      omega
    | false => rw [depDays_no (by omega) hon]; exact h1

/-- What stands before a member of a sorted list that is no longer than a prefix. -/
theorem prefix_days {on : Int → Bool} {s k : Int} {q : List Int} (h : q ++ [k] <+: depDays on s) : on k = true ∧ s ≤ k ∧ k ≤ 730484 ∧ ∀ j, s ≤ j → j < k → on j = true → j ∈ q := by
  obtain ⟨r, hr⟩ := h
  have hmem := (mem_depDays (on := on) k _ s rfl).1 (by rw [← hr]; simp)
  refine ⟨hmem.2.2, hmem.1, hmem.2.1, fun j h1 h2 h3 => ?_⟩
  have hj := (mem_depDays (on := on) j _ s rfl).2 ⟨h1, by omega, h3⟩
  have hs := sorted_depDays (on := on) _ s rfl
  rw [← hr] at hj hs
  simp only [List.append_assoc, List.mem_append, List.cons_append, List.nil_append, List.mem_cons] at hj
  rcases hj with hj | hj | hj
  · exact hj
  · omega
  · have hs2 := (List.pairwise_append.1 hs).1
    have := (List.pairwise_append.1 hs).2.2 k (by simp) j hj
    omega

/-- The first departure that takes what is there at a time. -/
def IsNext (on : Int → Bool) (d c ready : Int) : Option Int → Prop
  | some k => on k = true ∧ ready ≤ 1440 * k + d - c ∧ ∀ j, j < k → on j = true → 1440 * j + d - c < ready
  | none => ∀ j, on j = true → 1440 * j + d - c < ready

theorem next_stop {on : Int → Bool} {d m c ready want k : Int} {q : List Int} (h : OnLaw on d m c) (hw : want = (if nearI ready < 0 then 0 else nearI ready) + c)
    (hp : q ++ [k] <+: depDays on (want / 1440)) (hk : want ≤ 1440 * k + d) (hq : ∀ x ∈ q, 1440 * x + d < want) : IsNext on d c ready (some k) := by
  obtain ⟨h1, h2, _, h3⟩ := prefix_days hp
  have hd0 := h.d0; have hd1 := h.d1; have hm0 := h.m0; have hc0 := h.c0
  have hkh := h.hi k h1
  have hn : nearI ready = if ready < -1440 then -1440 else if 1051899839 < ready then 1051899839 else ready := rfl
  refine ⟨h1, ?_, fun j hj hon => ?_⟩
  · split at hw <;> split at hn <;> (try split at hn) <;> omega
  · have hlo := h.lo j hon
    have hjd : 1440 * j + d < want := by
      by_cases e : want / 1440 ≤ j
      · exact hq j (h3 j e hj hon)
      · omega
    split at hw <;> split at hn <;> (try split at hn) <;> omega

theorem next_done {on : Int → Bool} {d m c ready want : Int} (h : OnLaw on d m c) (hw : want = (if nearI ready < 0 then 0 else nearI ready) + c)
    (hq : ∀ x ∈ depDays on (want / 1440), 1440 * x + d < want) : IsNext on d c ready none := by
  intro j hon
  have hd0 := h.d0; have hd1 := h.d1; have hm0 := h.m0; have hc0 := h.c0
  have hkh := h.hi j hon
  have hlo := h.lo j hon
  have hn : nearI ready = if ready < -1440 then -1440 else if 1051899839 < ready then 1051899839 else ready := rfl
  have hjd : 1440 * j + d < want := by
    by_cases e : want / 1440 ≤ j
    · exact hq j ((mem_depDays j _ _ rfl).2 ⟨e, h.day1 j hon, hon⟩)
    · omega
  split at hw <;> split at hn <;> (try split at hn) <;> omega

theorem next_wrong {on : Int → Bool} {d c ready : Int} (h : ∀ j, on j = false) : IsNext on d c ready none := by
  intro j hj; rw [h j] at hj; cases hj

/-- The last departure that arrives at a time, or earlier. -/
def IsLast (on : Int → Bool) (d m b : Int) : Option Int → Prop
  | some k => on k = true ∧ 1440 * k + d + m ≤ b ∧ ∀ j, k < j → on j = true → b < 1440 * j + d + m
  | none => ∀ j, on j = true → b < 1440 * j + d + m

/-- No day behind k has a departure that leaves in time. -/
def NoneBehind (on : Int → Bool) (d latest k : Int) : Prop := ∀ j, k < j → on j = true → latest < 1440 * j + d

theorem near_lt {b a : Int} (h : nearI b < a) (ha : a ≤ 1051898399) : b < a := by
  unfold nearI at h; split at h <;> (try split at h) <;> omega
theorem near_le {b a : Int} (h : a ≤ nearI b) (h1 : 0 ≤ b) (ha : a ≤ 1051898399) : a ≤ b := by
  unfold nearI at h; split at h <;> (try split at h) <;> omega
theorem near_bd (b : Int) : -1440 ≤ nearI b ∧ nearI b ≤ 1051899839 := by unfold nearI; split <;> (try split) <;> omega
theorem near_nonneg {b : Int} (h : 0 ≤ b) : 0 ≤ nearI b := by unfold nearI; split <;> (try split) <;> omega

theorem none_start {on : Int → Bool} {d m c latest k : Int} (h : OnLaw on d m c) (hk : latest < 0 ∨ (0 ≤ latest ∧ (k = 730484 ∨ k = latest / 1440))) : NoneBehind on d latest k := by
  intro j hj hon
  have := h.day0 j hon; have := h.day1 j hon; have := h.d0
  omega
theorem none_step {on : Int → Bool} {d latest k : Int} (h : NoneBehind on d latest k) (hk : on k = true → latest < 1440 * k + d) : NoneBehind on d latest (k - 1) := by
  intro j hj hon
  by_cases e : j = k
  · subst e; exact hk hon
  · exact h j (by omega) hon
theorem last_some {on : Int → Bool} {d m c b k : Int} (h : OnLaw on d m c) (hb : 0 ≤ b) (hn : NoneBehind on d (nearI b - m) k) (hon : on k = true) (hk : 1440 * k + d ≤ nearI b - m) : IsLast on d m b (some k) := by
  refine ⟨hon, near_le (by omega) hb (h.hi k hon), fun j hj hon' => ?_⟩
  have := hn j hj hon'
  exact near_lt (by omega) (h.hi j hon')
theorem last_none {on : Int → Bool} {d m c b k : Int} (h : OnLaw on d m c) (hn : NoneBehind on d (nearI b - m) k) (hk : k < 0 ∨ 1440 * k + d < c ∧ (on k = true → nearI b - m < 1440 * k + d)) : IsLast on d m b none := by
  intro j hon
  have h0 := h.day0 j hon
  have h1 := h.lo j hon
  by_cases e : k < j
  · have := hn j e hon
    exact near_lt (by omega) (h.hi j hon)
  · omega
theorem last_early {on : Int → Bool} {d m c b : Int} (h : OnLaw on d m c) (hb : b < 0) : IsLast on d m b none := by
  intro j hon
  have := h.lo j hon; have := h.c0; have := h.m0
  omega
theorem last_wrong {on : Int → Bool} {d m b : Int} (h : ∀ j, on j = false) : IsLast on d m b none := by
  intro j hj; rw [h j] at hj; cases hj

end Go.Proofs.Ytogofbncdggigaa.Net
