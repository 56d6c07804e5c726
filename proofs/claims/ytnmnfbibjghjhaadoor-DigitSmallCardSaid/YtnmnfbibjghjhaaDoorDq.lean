/-
  Plain laws of checked texts: a payload with its check character passes; a text with another character at a place.
-/
import Derived.Test.YtnmnfbibjghjhaaDoorDk
import Derived.Test.YtnmnfbibjghjhaaDoorDm
namespace Go.Proofs.YtnmnfbibjghjhaaDoor
open Go.RowKit Dig

theorem ByteSrc.drew {W : World} {v : Value} {l : List Nat} (h : ByteSrc W v l) : ByteSrc W.drew v l := h
theorem vals_append (t : List Nat) (c : Nat) : vals (t ++ [c]) = chVal c :: vals t := by simp [vals]
theorem chVal_shown : ∀ x < 11, chVal (shownB x) = x := by decide
theorem shown_digit : ∀ x < 10, 48 ≤ shownB x ∧ shownB x ≤ 57 := by decide
theorem shown_chVal {x : Bool} {j c : Nat} (h : chOk x j c) : shownB (chVal c) = c := by
  unfold chOk at h
  rcases h with h | ⟨_, rfl, _⟩
  · unfold chVal
    rw [if_neg (by omega : ¬ c = 88)]
    unfold shownB
    rw [if_neg (by omega)]; omega
  · rfl
/-- A text whose characters are digits, but for an X at its end. -/
def Good (x : Bool) (T : List Nat) : Prop := ∀ i c, T[i]? = some c → (48 ≤ c ∧ c ≤ 57) ∨ (x = true ∧ c = 88 ∧ i + 1 = T.length)
theorem good_iff {x : Bool} {T : List Nat} : txOk x T ↔ Good x T := by
  constructor
  · intro h i c hc
    have hl := (List.getElem?_eq_some_iff.1 hc).1
    have h2 : T.reverse[T.length - 1 - i]? = some c := by
      rw [List.getElem?_reverse (by omega), show T.length - 1 - (T.length - 1 - i) = i from by omega]; exact hc
    rcases h _ c h2 with h | ⟨h1, h2, h3⟩
    · exact .inl h
    · exact .inr ⟨h1, h2, by omega⟩
  · intro h j c hc
    have hl := (List.getElem?_eq_some_iff.1 hc).1
    rw [List.length_reverse] at hl
    rw [List.getElem?_reverse hl] at hc
    rcases h _ c hc with h | ⟨h1, h2, h3⟩
    · exact .inl h
    · exact .inr ⟨h1, h2, by omega⟩
theorem rev_set (T : List Nat) (i c : Nat) (hi : i < T.length) : (T.set i c).reverse = T.reverse.set (T.length - 1 - i) c := by
  apply List.ext_getElem?
  intro j
  by_cases hj : j < T.length
  · rw [List.getElem?_reverse (by rw [List.length_set]; exact hj), List.length_set]
    by_cases e : T.length - 1 - i = j
    · rw [show T.length - 1 - j = i from by omega, List.getElem?_set_self hi, e, List.getElem?_set_self (by rw [List.length_reverse]; exact hj)]
    · rw [List.getElem?_set_ne (by omega), List.getElem?_set_ne e, List.getElem?_reverse hj]
  · rw [List.getElem?_eq_none (by rw [List.length_reverse, List.length_set]; omega), List.getElem?_eq_none (by rw [List.length_set, List.length_reverse]; omega)]
theorem vals_set (T : List Nat) (i c : Nat) (hi : i < T.length) : vals (T.set i c) = (vals T).set (T.length - 1 - i) (chVal c) := by
  unfold vals
  rw [rev_set T i c hi, List.map_set]
theorem good_set {x : Bool} {T : List Nat} (h : Good x T) (i c : Nat) (hi : i < T.length) (hc : (48 ≤ c ∧ c ≤ 57) ∨ (x = true ∧ c = 88 ∧ i + 1 = T.length)) : Good x (T.set i c) := by
  intro j d hd
  rw [List.length_set]
  by_cases e : i = j
  · subst e
    rw [List.getElem?_set_self hi] at hd
    cases hd
    exact hc
  · rw [List.getElem?_set_ne e] at hd
    exact h j d hd
/-- A checked text that passes. -/
structure Pass (k : Nat) (ws : List Nat) (T : List Nat) : Prop where
  ok : SysOk k ws
  good : Good (k == 2) T
  lo : 2 ≤ T.length
  hi : T.length ≤ 31
  res : result k ws (vals T) = 0
abbrev ints (ws : List Nat) : List Int := ws.map fun (x : Nat) => (x : Int)
theorem chk_good {k : Nat} {ws : List Nat} {T : List Nat} (h : SysOk k ws) (lo : 2 ≤ T.length) (hi : T.length ≤ 31) : chkErr k (ints ws) T = if okB (k == 2) T = true then 0 else 161 := by
  unfold chkErr
  rw [right_of h, if_neg (by decide), if_neg (by omega)]
  cases e : okB (k == 2) T with
  | true => rw [if_neg (by simp; omega)]; rfl
  | false => rw [if_pos (.inl rfl)]; rfl
theorem Pass.err {k : Nat} {ws T : List Nat} (h : Pass k ws T) : chkErr k (ints ws) T = 0 := by
  rw [chk_good h.ok h.lo h.hi, if_pos (okB_iff.2 (good_iff.2 h.good))]
theorem Pass.test {k : Nat} {ws T : List Nat} (h : Pass k ws T) : testB k (ints ws) T = true := by
  unfold testB
  rw [h.err, natsOf_cast, h.res]; rfl
/-- The text with another character at a place: what Test says of it is what Fill asks. -/
theorem set_test {k : Nat} {ws T : List Nat} (h : SysOk k ws) (hg : Good (k == 2) T) (lo : 2 ≤ T.length) (hi : T.length ≤ 31) {i x : Nat} (hil : i < T.length) (hx : x < 11) :
    testB k (ints ws) (T.set i (shownB x)) = fillOk k ws (vals (T.set i 48)) (T.length - 1 - i) x := by
  have hok : okB (k == 2) (T.set i (shownB x)) = (decide (x < 10) || (T.length - 1 - i == 0 && k == 2)) := by
    by_cases hx10 : x < 10
    · rw [decide_eq_true hx10, Bool.true_or]
      exact okB_iff.2 (good_iff.2 (good_set hg i _ hil (.inl (shown_digit x hx10))))
    · have hx10' : x = 10 := by omega
      subst hx10'
      rw [decide_eq_false hx10, Bool.false_or]
      by_cases hp : T.length - 1 - i = 0
      · by_cases hk : k = 2
        · rw [hp, hk]
          exact okB_iff.2 (good_iff.2 (by rw [hk] at hg; exact good_set hg i _ hil (.inr ⟨rfl, rfl, by omega⟩)))
        · rw [beq_eq_false_iff_ne.2 hk, Bool.and_false]
          cases e : okB false (T.set i (shownB 10)) with
          | false => rfl
          | true =>
            rcases (good_iff.1 (okB_iff.1 e)) i 88 (by rw [List.getElem?_set_self hil]; rfl) with h | ⟨h, _⟩
            · omega
            · cases h
      · rw [beq_eq_false_iff_ne.2 hp, Bool.false_and]
        cases e : okB (k == 2) (T.set i (shownB 10)) with
        | false => rfl
        | true =>
          rcases (good_iff.1 (okB_iff.1 e)) i 88 (by rw [List.getElem?_set_self hil]; rfl) with h | ⟨_, _, h⟩
          · omega
          · rw [List.length_set] at h; omega
  have hv : vals (T.set i (shownB x)) = (vals (T.set i 48)).set (T.length - 1 - i) x := by
    rw [vals_set T i _ hil, vals_set T i _ hil, chVal_shown x hx, List.set_set]
  unfold testB fillOk
  rw [chk_good h (by rw [List.length_set]; exact lo) (by rw [List.length_set]; exact hi), natsOf_cast, hv, hok]
  cases (decide (x < 10) || (T.length - 1 - i == 0 && k == 2)) <;> rfl
theorem digits_good {x : Bool} {t : List Nat} (h : ∀ c ∈ t, 48 ≤ c ∧ c ≤ 57) : Good x t := fun _ c hc => .inl (h c (List.mem_of_getElem? hc))
/-- A payload with its check character passes. -/
theorem pay_pass {k : Nat} {ws t : List Nat} (h : SysOk k ws) (h1 : 1 ≤ t.length) (h2 : t.length ≤ 30) (hd : ∀ c ∈ t, 48 ≤ c ∧ c ≤ 57) : checkErr k (ints ws) t = 0 ∧ Pass k ws (t ++ [checkVal k (ints ws) t]) ∧ checkVal k (ints ws) t < 256 := by
  have he : checkErr k (ints ws) t = 0 := by
    have hok : okB false (t ++ [48]) = true := okB_iff.2 (good_iff.2 (digits_good fun c hc => by
      rcases List.mem_append.1 hc with hc | hc
      · exact hd c hc
      · rw [List.mem_singleton.1 hc]; decide))
    unfold checkErr
    rw [right_of h, if_neg (by decide), if_neg (by omega), if_neg (by rw [hok]; intro h; exact h.elim (fun h => by cases h) (fun h => by omega))]
  have hv0 : vals (t ++ [48]) = 0 :: vals t := vals_append t 48
  have hcv : checkVal k (ints ws) t = shownB (lastOf k ws (0 :: vals t)) := by unfold checkVal; rw [if_pos he, natsOf_cast, hv0]
  have hdv : ∀ v ∈ vals t, v < 10 := (vals_le (x := false) (good_iff.2 (digits_good hd))).2 rfl
  have hdv0 : ∀ v ∈ 0 :: vals t, v < 10 := fun v hv => by
    rcases List.mem_cons.1 hv with rfl | hv
    · decide
    · exact hdv v hv
  have hL := lastOf_lt k ws (0 :: vals t) (fun _ => hdv0)
  have hL11 : lastOf k ws (0 :: vals t) < 11 := by split at hL <;> omega
  refine ⟨he, ⟨h, ?_, by simp; omega, by simp; omega, ?_⟩, checkVal_lt _ _ _⟩
  · rw [hcv]
    intro i c hc
    rw [List.length_append]
    by_cases e : i < t.length
    · rw [List.getElem?_append_left e] at hc
      exact .inl (hd c (List.mem_of_getElem? hc))
    · rw [List.getElem?_append_right (by omega)] at hc
      have hi0 : i - t.length = 0 := by
        have := (List.getElem?_eq_some_iff.1 hc).1
        simp at this
        exact this
      rw [hi0] at hc
      simp only [List.getElem?_cons_zero, Option.some.injEq] at hc
      subst hc
      by_cases h10 : lastOf k ws (0 :: vals t) < 10
      · exact .inl (shown_digit _ h10)
      · have hk : k = 2 := by
          by_cases hk : k = 2
          · exact hk
          · rw [if_neg hk] at hL; omega
        refine .inr ⟨by rw [hk]; rfl, ?_, by simp; omega⟩
        rw [show lastOf k ws (0 :: vals t) = 10 from by omega]; rfl
  · rw [hcv, vals_append, chVal_shown _ hL11]
    exact last_passes k ws (vals t) (fun _ => hdv)

/-- Of the eleven characters, those with which a passing text passes at a place: the one that is there is among them. -/
theorem Pass.own {k : Nat} {ws T : List Nat} (h : Pass k ws T) {i c : Nat} (hc : T[i]? = some c) : chVal c < 11 ∧ shownB (chVal c) = c ∧ fillOk k ws (vals (T.set i 48)) (T.length - 1 - i) (chVal c) = true := by
  have hil := (List.getElem?_eq_some_iff.1 hc).1
  have hco : chOk (k == 2) (T.length - 1 - i) c := by
    rcases h.good i c hc with h | ⟨h1, h2, h3⟩
    · exact .inl h
    · exact .inr ⟨h1, h2, by omega⟩
  have h11 := (chVal_lt hco).1
  have hs := shown_chVal hco
  refine ⟨h11, hs, ?_⟩
  rw [← set_test h.ok h.good h.lo h.hi hil h11, hs]
  have : T.set i c = T := by
    apply List.ext_getElem?
    intro j
    by_cases e : i = j
    · subst e; rw [List.getElem?_set_self hil, hc]
    · rw [List.getElem?_set_ne e]
  rw [this]
  exact h.test
theorem filter_one {F : Nat → Bool} {a : Nat} : ∀ n, a < n → F a = true → (∀ x, x < n → F x = true → x = a) → (List.range n).filter F = [a] := fun n ha hF hu => by
  induction n with
  | zero => omega
  | succ n ih =>
    rw [range_filter_succ]
    by_cases e : a = n
    · subst e
      have h0 : (List.range a).filter F = [] := List.filter_eq_nil_iff.2 (fun x hx e => by
        have hl := List.mem_range.1 hx
        have := hu x (by omega) e
        omega)
      rw [h0, if_pos hF]; rfl
    · rw [ih (by omega) (fun x hx => hu x (by omega)), if_neg (fun h => e (hu n (by omega) h).symm), List.append_nil]
/-- But for Mod10 it is the only one. -/
theorem Pass.single {k : Nat} {ws T : List Nat} (h : Pass k ws T) (hk : k ≠ 1) {i c : Nat} (hc : T[i]? = some c) : (List.range 11).filter (fillOk k ws (vals (T.set i 48)) (T.length - 1 - i)) = [chVal c] := by
  obtain ⟨h11, _, hF⟩ := h.own hc
  have hil := (List.getElem?_eq_some_iff.1 hc).1
  refine filter_one 11 h11 hF fun x hx hFx => ?_
  -- split the values at the place
  obtain ⟨vs, hvs⟩ : ∃ vs, vals (T.set i 48) = vs := ⟨_, rfl⟩
  rw [hvs] at hF hFx
  have hvl : vs.length = T.length := by rw [← hvs, vals_len, List.length_set]
  obtain ⟨p, hp⟩ : ∃ p, T.length - 1 - i = p := ⟨_, rfl⟩
  rw [hp] at hF hFx
  have hpl : p < vs.length := by omega
  have hsplit : ∀ z, vs.set p z = vs.take p ++ z :: vs.drop (p + 1) := fun z => by rw [List.set_eq_take_append_cons_drop, if_pos hpl]
  have hgs : k = 4 → ∀ v ∈ vs, v < 10 := fun h4 => by
    rw [← hvs]
    exact (vals_le (x := (k == 2)) (good_iff.2 (good_set h.good i 48 hil (.inl (by omega))))).2 (by rw [h4]; rfl)
  unfold fillOk at hF hFx
  rw [Bool.and_eq_true] at hF hFx
  rw [hsplit] at hF hFx
  have hlt : ∀ z, z < 11 → (decide (z < 10) || (p == 0 && k == 2)) = true → z < modOf k := fun z hz h => by
    by_cases hz10 : z < 10
    · have := modOf_ge k; omega
    · rw [decide_eq_false hz10, Bool.false_or, Bool.and_eq_true] at h
      rw [beq_iff_eq.1 h.2]; exact hz
  exact one_value h.ok hk (vs.take p) (vs.drop (p + 1)) (fun h4 v hv => hgs h4 v (List.mem_of_mem_take hv)) (fun h4 v hv => hgs h4 v (List.mem_of_mem_drop hv)) (hlt x hx hFx.1) (hlt _ h11 hF.1) (beq_iff_eq.1 hFx.2) (beq_iff_eq.1 hF.2)
theorem Pass.no63 {k : Nat} {ws T : List Nat} (h : Pass k ws T) (i : Nat) (hi : i < T.length) : QIs (T.set i 63) (some i) := by
  refine ⟨List.getElem?_set_self hi, fun j hj e => ?_⟩
  rw [List.getElem?_set_ne (by omega)] at e
  rcases h.good j 63 e with h | ⟨_, h, _⟩
  · omega
  · cases h
/-- What Fill returns for a passing text with one character unknown. -/
theorem Pass.fill {k : Nat} {ws T : List Nat} (h : Pass k ws T) (i : Nat) (hi : i < T.length) : fillErr k (ints ws) (T.set i 63) (some i) = 0 ∧
    fillOut k (ints ws) (T.set i 63) (some i) = ((List.range 11).filter (fillOk k ws (vals (T.set i 48)) (T.length - 1 - i))).map shownB := by
  have hr : (T.set i 63).set i 48 = T.set i 48 := by rw [List.set_set]
  have he : chkErr k (ints ws) (T.set i 48) = 0 := by
    rw [chk_good h.ok (by rw [List.length_set]; exact h.lo) (by rw [List.length_set]; exact h.hi), if_pos (okB_iff.2 (good_iff.2 (good_set h.good i 48 hi (.inl (by omega)))))]
  constructor
  · show (if chkErr k (ints ws) ((T.set i 63).set i 48) = 0 then (if some i = none then 161 else 0) else chkErr k (ints ws) ((T.set i 63).set i 48)) = 0
    rw [hr, if_pos he]; rfl
  · show (if chkErr k (ints ws) ((T.set i 63).set i 48) = 0 then _ else _) = _
    rw [hr, if_pos he, List.length_set, natsOf_cast]
end Go.Proofs.YtnmnfbibjghjhaaDoor
