/-
  Plain laws: neighbours exchanged; errors in one digit; what Misses lists for Luhn.
-/
import Derived.Test.YtnmnfbibjghjhaaDoorDu
namespace Go.Proofs.YtnmnfbibjghjhaaDoor
open Go.RowKit Dig

theorem two_split : ∀ (q : Nat) (vs : List Nat) (u v : Nat), vs[q]? = some u → vs[q + 1]? = some v → ∃ A B, A.length = q ∧ vs = A ++ u :: v :: B
  | 0, x :: y :: B, u, v, h1, h2 => by
    simp only [List.getElem?_cons_zero, Option.some.injEq] at h1
    simp only [Nat.zero_add, List.getElem?_cons_succ, List.getElem?_cons_zero, Option.some.injEq] at h2
    subst h1; subst h2
    exact ⟨[], B, rfl, rfl⟩
  | 0, [_], _, _, _, h2 => by simp at h2
  | 0, [], _, _, h1, _ => by simp at h1
  | q + 1, [], _, _, h1, _ => by simp at h1
  | q + 1, x :: vs, u, v, h1, h2 => by
    rw [List.getElem?_cons_succ] at h1 h2
    obtain ⟨A, B, hA, rfl⟩ := two_split q vs u v h1 h2
    exact ⟨x :: A, B, by simp [hA], rfl⟩
theorem vals_get {T : List Nat} {i c : Nat} (h : T[i]? = some c) : (vals T)[T.length - 1 - i]? = some (chVal c) := by
  have hil := (List.getElem?_eq_some_iff.1 h).1
  unfold vals
  rw [List.getElem?_map, List.getElem?_reverse (by omega), show T.length - 1 - (T.length - 1 - i) = i from by omega, h]; rfl
/-- Two neighbours exchanged. -/
def swp (T : List Nat) (i a b : Nat) : List Nat := (T.set i b).set (i + 1) a
theorem swp_len (T : List Nat) (i a b : Nat) : (swp T i a b).length = T.length := by unfold swp; rw [List.length_set, List.length_set]
/-- The values of a text, and of the same with two neighbours exchanged. -/
theorem swp_vals {T : List Nat} {i a b : Nat} (ha : T[i]? = some a) (hb : T[i + 1]? = some b) : ∃ A B, A.length = T.length - 2 - i ∧ vals T = A ++ chVal b :: chVal a :: B ∧ vals (swp T i a b) = A ++ chVal a :: chVal b :: B := by
  have hil := (List.getElem?_eq_some_iff.1 hb).1
  have h1 := vals_get hb
  have h2 := vals_get ha
  rw [show T.length - 1 - (i + 1) = T.length - 2 - i from by omega] at h1
  rw [show T.length - 1 - i = T.length - 2 - i + 1 from by omega] at h2
  obtain ⟨A, B, hA, hv⟩ := two_split _ _ _ _ h1 h2
  refine ⟨A, B, hA, hv, ?_⟩
  unfold swp
  rw [vals_set _ _ _ (by rw [List.length_set]; exact hil), vals_set _ _ _ (by omega), List.length_set, hv,
    show T.length - 1 - i = A.length + 1 from by omega, show T.length - 1 - (i + 1) = A.length from by omega]
  simp
theorem good_swp {x : Bool} {T : List Nat} (h : Good x T) {i a b : Nat} (hi : i + 1 < T.length) (ha : 48 ≤ a ∧ a ≤ 57) (hb : 48 ≤ b ∧ b ≤ 57) : Good x (swp T i a b) :=
  good_set (good_set h i b (by omega) (.inl hb)) (i + 1) a (by rw [List.length_set]; exact hi) (.inl ha)
theorem res_test {k : Nat} {ws T : List Nat} (h : SysOk k ws) (hg : Good (k == 2) T) (lo : 2 ≤ T.length) (hi : T.length ≤ 31) : testB k (ints ws) T = (result k ws (vals T) == 0) := by
  unfold testB
  rw [chk_good h lo hi, if_pos (okB_iff.2 (good_iff.2 hg)), natsOf_cast]; rfl
theorem sum_two (k : Nat) (ws A B : List Nat) (x y : Nat) : sumFrom k ws 0 (A ++ x :: y :: B) = sumFrom k ws 0 A + worth k ws A.length x + worth k ws (A.length + 1) y + sumFrom k ws (A.length + 2) B := by
  rw [sum_at]
  show sumFrom k ws 0 A + worth k ws A.length x + (worth k ws (A.length + 1) y + sumFrom k ws (A.length + 2) B) = _
  omega
theorem modOf_two (k : Nat) : modOf k = 10 ∨ modOf k = 11 := by unfold modOf; split <;> simp
/-- But for the permutation system: neighbours exchanged pass exactly if the differences do. -/
theorem Pass.swap {k : Nat} {ws T : List Nat} (h : Pass k ws T) (hk : k ≠ 4) {i a b : Nat} (ha : T[i]? = some a) (hb : T[i + 1]? = some b) (had : 48 ≤ a ∧ a ≤ 57) (hbd : 48 ≤ b ∧ b ≤ 57) :
    testB k (ints ws) (swp T i a b) = missB k ws true (T.length - 2 - i) (chVal a) (chVal b) := by
  have hil := (List.getElem?_eq_some_iff.1 hb).1
  obtain ⟨A, B, hA, hv, hv2⟩ := swp_vals ha hb
  rw [res_test h.ok (good_swp h.good hil had hbd) (by rw [swp_len]; exact h.lo) (by rw [swp_len]; exact h.hi), hv2]
  have hr := h.res
  rw [hv] at hr
  unfold result at hr ⊢
  rw [if_neg hk, sum_two] at hr ⊢
  unfold missB missD
  rw [if_pos rfl, ← hA]
  rcases modOf_two k with hm | hm
  · rw [hm] at hr ⊢
    rw [Bool.eq_iff_iff, beq_iff_eq, decide_eq_true_iff]
    omega
  · rw [hm] at hr ⊢
    rw [Bool.eq_iff_iff, beq_iff_eq, decide_eq_true_iff]
    omega
/-- But for the permutation system: another digit at a place passes exactly if the difference does. -/
theorem Pass.put {k : Nat} {ws T : List Nat} (h : Pass k ws T) (hk : k ≠ 4) {i d : Nat} (hd : T[i]? = some d) {x : Nat} (hx : x < 10) :
    testB k (ints ws) (T.set i (shownB x)) = missB k ws false (T.length - 1 - i) (chVal d) x := by
  have hil := (List.getElem?_eq_some_iff.1 hd).1
  rw [res_test h.ok (good_set h.good i _ hil (.inl (shown_digit x hx))) (by rw [List.length_set]; exact h.lo) (by rw [List.length_set]; exact h.hi), vals_set T i _ hil, chVal_shown x (by omega)]
  have hvl := vals_len T
  obtain ⟨vs, hvs⟩ : ∃ vs, vals T = vs := ⟨_, rfl⟩
  have hg := vals_get hd
  have hr := h.res
  rw [hvs] at hr hg hvl ⊢
  obtain ⟨p, hp⟩ : ∃ p, T.length - 1 - i = p := ⟨_, rfl⟩
  rw [hp] at hg ⊢
  have hpl : p < vs.length := by omega
  have hsplit : ∀ z, vs.set p z = vs.take p ++ z :: vs.drop (p + 1) := fun z => by rw [List.set_eq_take_append_cons_drop, if_pos hpl]
  have hself : vs.set p (chVal d) = vs := by
    apply List.ext_getElem?
    intro j
    by_cases e : p = j
    · subst e; rw [List.getElem?_set_self hpl, hg]
    · rw [List.getElem?_set_ne e]
  rw [← hself, hsplit] at hr
  rw [hsplit]
  have hA : (vs.take p).length = p := by rw [List.length_take]; omega
  unfold result at hr ⊢
  rw [if_neg hk, sum_at, hA] at hr ⊢
  unfold missB missD
  rw [if_neg (by decide)]
  rcases modOf_two k with hm | hm
  · rw [hm] at hr ⊢
    rw [Bool.eq_iff_iff, beq_iff_eq, decide_eq_true_iff]
    omega
  · rw [hm] at hr ⊢
    rw [Bool.eq_iff_iff, beq_iff_eq, decide_eq_true_iff]
    omega
/-- The permutation system finds every exchange. -/
theorem Pass.perm {T : List Nat} (h : Pass 4 [] T) {i a b : Nat} (ha : T[i]? = some a) (hb : T[i + 1]? = some b) (hne : a ≠ b) : testB 4 [] (swp T i a b) = false := by
  have hil := (List.getElem?_eq_some_iff.1 hb).1
  have dig : ∀ j c, T[j]? = some c → 48 ≤ c ∧ c ≤ 57 := fun j c hc => by
    rcases h.good j c hc with h | ⟨h, _⟩
    · exact h
    · cases h
  have hva : ∀ c, 48 ≤ c ∧ c ≤ 57 → chVal c < 10 := fun c hc => by unfold chVal; rw [if_neg (by omega)]; omega
  have hav := hva a (dig _ _ ha)
  have hbv := hva b (dig _ _ hb)
  have hvv : ∀ v ∈ vals T, v < 10 := (vals_le (x := (4 == 2)) (good_iff.2 h.good)).2 rfl
  obtain ⟨A, B, hA, hv, hv2⟩ := swp_vals ha hb
  have hg := res_test h.ok (good_swp h.good hil (dig _ _ ha) (dig _ _ hb)) (by rw [swp_len]; exact h.lo) (by rw [swp_len]; exact h.hi)
  rw [hv2] at hg
  have e0 : ints [] = [] := rfl
  rw [e0] at hg
  rw [hg]
  rw [beq_eq_false_iff_ne]
  intro he
  have hr := h.res
  rw [hv] at hr hvv
  unfold result at hr he
  rw [if_pos rfl] at hr he
  have hAl : ∀ v ∈ A, v < 10 := fun v hv => hvv v (List.mem_append_left _ hv)
  have hBl : ∀ v ∈ B, v < 10 := fun v hv => hvv v (List.mem_append_right _ (List.mem_cons_of_mem _ (List.mem_cons_of_mem _ hv)))
  have hO := permFrom_lt A 0 0 (by decide) hAl
  have hR := permFrom_lt B (0 + A.length + 1 + 1) 0 (by decide) hBl
  have key : ∀ x y, x < 10 → y < 10 → permFrom 0 0 (A ++ x :: y :: B) = prod (prod (prod (permFrom 0 0 A) (turnN ((0 + A.length) % 8) x)) (turnN ((0 + A.length + 1) % 8) y)) (permFrom (0 + A.length + 1 + 1) 0 B) := fun x y hx hy => by
    rw [permFrom_append]
    show permFrom (0 + A.length + 1 + 1) (prod (prod (permFrom 0 0 A) (turnN ((0 + A.length) % 8) x)) (turnN ((0 + A.length + 1) % 8) y)) B = _
    rw [permFrom_out B _ _ (prod_lt _ (prod_lt _ hO _ (turnN_lt _ _ hx)) _ (turnN_lt _ _ hy)) hBl]
  rw [key _ _ hbv hav] at hr
  rw [key _ _ hav hbv] at he
  obtain ⟨m, hm⟩ : ∃ m, (0 + A.length) % 8 = m := ⟨_, rfl⟩
  have hm8 : m < 8 := by omega
  have hturn : ∀ z, z < 10 → turnN ((0 + A.length + 1) % 8) z = turn1 (turnN m z) := fun z hz => by
    by_cases h7 : m = 7
    · rw [show (0 + A.length + 1) % 8 = 0 from by omega, h7]
      exact (turn_eight z hz).symm
    · rw [show (0 + A.length + 1) % 8 = m + 1 from by omega]; rfl
  rw [hturn _ hav, hm] at hr
  rw [hturn _ hbv, hm] at he
  have t1 := turnN_lt m _ hav
  have t2 := turnN_lt m _ hbv
  have q := prod_right _ hR _ (prod_lt _ (prod_lt _ hO _ t2) _ (turn_lt _ t1)) _ (prod_lt _ (prod_lt _ hO _ t1) _ (turn_lt _ t2)) (hr.trans he.symm)
  rw [prod_assoc _ hO _ t2 _ (turn_lt _ t1), prod_assoc _ hO _ t1 _ (turn_lt _ t2)] at q
  have q2 := prod_left _ hO _ (prod_lt _ t2 _ (turn_lt _ t1)) _ (prod_lt _ t1 _ (turn_lt _ t2)) q
  have q3 := turnN_inj _ _ _ hbv hav (turn_pair _ t2 _ t1 q2)
  apply hne
  have da := dig _ _ ha
  have db := dig _ _ hb
  unfold chVal at q3
  rw [if_neg (by omega), if_neg (by omega)] at q3
  omega

theorem dbl_par (p x : Nat) : dbl p x = dbl (p % 2) x := by unfold dbl; rw [Nat.mod_mod]
theorem luhn_par (sw : Bool) (p a b : Nat) : missB 3 [] sw p a b = missB 3 [] sw (p % 2) a b := by
  unfold missB missD worth
  simp only [if_true]
  rw [dbl_par p, dbl_par p, dbl_par (p + 1) a, dbl_par (p + 1) b, dbl_par (p % 2 + 1) a, dbl_par (p % 2 + 1) b, show (p + 1) % 2 = (p % 2 + 1) % 2 from by omega]
theorem luhn_swap2 : ∀ p < 2, ∀ a < 10, ∀ b < 10, missB 3 [] true p a b = decide (a = b ∨ (a = 0 ∧ b = 9) ∨ (a = 9 ∧ b = 0)) := by decide +kernel
theorem luhn_swap (p : Nat) {a b : Nat} (ha : a < 10) (hb : b < 10) : missB 3 [] true p a b = decide (a = b ∨ (a = 0 ∧ b = 9) ∨ (a = 9 ∧ b = 0)) := by
  rw [luhn_par]
  exact luhn_swap2 _ (by omega) a ha b hb
def sqOf (sw : Bool) (p : Nat) : List (Nat × Nat) := (List.range 10).flatMap fun a => ((List.range 10).filter fun b => decide (a < b) && missB 3 [] sw p a b).map fun b => (a, b)
theorem sq_eval : sqOf false 0 = [] ∧ sqOf false 1 = [] ∧ sqOf true 0 = [(0, 9)] ∧ sqOf true 1 = [(0, 9)] := by decide +kernel
theorem sqOf_par (sw : Bool) (p : Nat) : sqOf sw p = sqOf sw (p % 2) := by
  unfold sqOf
  have : ∀ a b, missB 3 [] sw p a b = missB 3 [] sw (p % 2) a b := luhn_par sw p
  simp only [this]
theorem missSq_luhn (n i : Nat) : missSq 3 [] n i 10 = if n < i then [(true, i - n, 0, 9)] else [] := by
  have h : missSq 3 [] n i 10 = (sqOf (swOf n i) (atOf n i)).map fun x => (swOf n i, atOf n i, x.1, x.2) := by
    unfold missSq missRow sqOf
    rw [List.map_flatMap]
    simp only [List.map_map, Function.comp_def]
  rw [h, sqOf_par]
  have hp : atOf n i % 2 = 0 ∨ atOf n i % 2 = 1 := by omega
  obtain ⟨e1, e2, e3, e4⟩ := sq_eval
  by_cases hn : n < i
  · have hs : swOf n i = true := decide_eq_true hn
    have ha : atOf n i = i - n := by unfold atOf; rw [if_pos hn]
    rw [if_pos hn, hs, ha]
    rw [ha] at hp
    rcases hp with hp | hp
    · rw [hp, e3]; rfl
    · rw [hp, e4]; rfl
  · have hs : swOf n i = false := decide_eq_false hn
    rw [if_neg hn, hs]
    rcases hp with hp | hp
    · rw [hp, e1]; rfl
    · rw [hp, e2]; rfl
/-- What Misses lists for Luhn. -/
theorem luhn_misses (n : Nat) : missList 3 [] n = (List.range (n - 1)).map fun j => (true, j + 1, 0, 9) := by
  have h0 : ∀ c, c ≤ n + 1 → missTo 3 [] n c = [] := by
    intro c
    induction c with
    | zero => intro _; rfl
    | succ c ih =>
      intro hc
      unfold missTo at ih ⊢
      rw [flat_succ, ih (by omega), List.nil_append]
      by_cases e : c = 0
      · rw [if_pos e]
      · rw [if_neg e, missSq_luhn, if_neg (by omega)]
  have h1 : ∀ j, missTo 3 [] n (n + 1 + j) = (List.range j).map fun j => (true, j + 1, 0, 9) := by
    intro j
    induction j with
    | zero => exact h0 _ (Nat.le_refl _)
    | succ j ih =>
      unfold missTo at ih ⊢
      rw [show n + 1 + (j + 1) = n + 1 + j + 1 from rfl, flat_succ, ih, if_neg (by omega), missSq_luhn, if_pos (by omega), List.range_succ, List.map_append, show n + 1 + j - n = j + 1 from by omega]
      rfl
  unfold missList
  rw [if_neg (by decide)]
  by_cases hn : n = 0
  · rw [hn]; rfl
  · have := h1 (n - 1)
    rwa [show n + 1 + (n - 1) = 2 * n from by omega] at this
end Go.Proofs.YtnmnfbibjghjhaaDoor
