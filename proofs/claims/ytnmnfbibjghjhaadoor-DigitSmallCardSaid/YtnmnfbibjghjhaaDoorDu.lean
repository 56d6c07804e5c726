/-
  Plain laws: of the eleven characters exactly one makes a payload pass; another character at a place; neighbours exchanged.
-/
import Derived.Test.YtnmnfbibjghjhaaDoorDl
import Derived.Test.YtnmnfbibjghjhaaDoorDq
namespace Go.Proofs.YtnmnfbibjghjhaaDoor
open Go.RowKit Dig

/-- The value of the last place is unique. -/
theorem one_last {k : Nat} {ws : List Nat} (h : SysOk k ws) (b : List Nat) {x y : Nat} (hb : ∀ v ∈ b, v < 10) (hx : x < modOf k) (hy : y < modOf k)
    (px : result k ws (x :: b) = 0) (py : result k ws (y :: b) = 0) : x = y := by
  by_cases hk : k = 1
  · subst hk
    have hm : modOf 1 = 10 := rfl
    rw [hm] at hx hy
    unfold result at px py
    rw [if_neg (by decide), hm] at px py
    have e : ∀ z, sumFrom 1 ws 0 (z :: b) = z + sumFrom 1 ws 1 b := fun z => by
      show worth 1 ws 0 z + sumFrom 1 ws 1 b = _
      rw [worth_zero]
    rw [e] at px py
    omega
  · exact one_value h hk [] b (fun _ v hv => by cases hv) (fun _ => hb) hx hy px py

/-- A payload with one of the eleven characters behind it: what Test says. -/
theorem pay_test {k : Nat} {ws t : List Nat} (h : SysOk k ws) (h1 : 1 ≤ t.length) (h2 : t.length ≤ 30) (hd : ∀ c ∈ t, 48 ≤ c ∧ c ≤ 57) {x : Nat} (hx : x < 11) :
    testB k (ints ws) (t ++ [shownB x]) = decide (checkVal k (ints ws) t = shownB x) ∧ chkErr k (ints ws) (t ++ [shownB x]) = (if x = 10 ∧ k ≠ 2 then 161 else 0) := by
  obtain ⟨he, hP, _⟩ := pay_pass h h1 h2 hd
  have hTl : (t ++ [checkVal k (ints ws) t]).length = t.length + 1 := by simp
  have hset : ∀ z, (t ++ [checkVal k (ints ws) t]).set t.length z = t ++ [z] := fun z => by
    rw [List.set_append_right _ _ (Nat.le_refl _), Nat.sub_self]; rfl
  have hst := set_test hP.ok hP.good hP.lo hP.hi (i := t.length) (by omega) hx
  rw [hset, hset, hTl, show t.length + 1 - 1 - t.length = 0 from by omega, vals_append] at hst
  have h480 : chVal 48 = 0 := by decide
  rw [h480] at hst
  have hdv : ∀ v ∈ vals t, v < 10 := (vals_le (x := false) (good_iff.2 (digits_good hd))).2 rfl
  have hdv0 : ∀ v ∈ 0 :: vals t, v < 10 := fun v hv => by
    rcases List.mem_cons.1 hv with rfl | hv
    · decide
    · exact hdv v hv
  have hL := lastOf_lt k ws (0 :: vals t) (fun _ => hdv0)
  have hcv : checkVal k (ints ws) t = shownB (lastOf k ws (0 :: vals t)) := by unfold checkVal; rw [if_pos he, natsOf_cast, vals_append, h480]
  have hlp := last_passes k ws (vals t) (fun _ => hdv)
  obtain ⟨L, hLe⟩ : ∃ L, lastOf k ws (0 :: vals t) = L := ⟨_, rfl⟩
  rw [hLe] at hL hcv hlp
  have hL11 : L < 11 := by split at hL <;> omega
  have hshow : (checkVal k (ints ws) t = shownB x) ↔ L = x := by
    rw [hcv]
    exact ⟨fun e => by rw [← chVal_shown L hL11, e, chVal_shown x hx], fun e => by rw [e]⟩
  have hok : okB (k == 2) (t ++ [shownB x]) = !decide (x = 10 ∧ k ≠ 2) := by
    by_cases hc : x = 10 ∧ k ≠ 2
    · rw [decide_eq_true hc]
      obtain ⟨rfl, hk⟩ := hc
      rw [beq_eq_false_iff_ne.2 hk]
      cases e : okB false (t ++ [shownB 10]) with
      | false => rfl
      | true =>
        rcases (good_iff.1 (okB_iff.1 e)) t.length 88 (by rw [List.getElem?_append_right (Nat.le_refl _), Nat.sub_self]; rfl) with h | ⟨h, _⟩
        · omega
        · cases h
    · rw [decide_eq_false hc]
      refine okB_iff.2 (good_iff.2 fun j c hj => ?_)
      rw [List.length_append]
      by_cases e : j < t.length
      · rw [List.getElem?_append_left e] at hj
        exact .inl (hd c (List.mem_of_getElem? hj))
      · rw [List.getElem?_append_right (by omega)] at hj
        have hj0 : j - t.length = 0 := by
          have := (List.getElem?_eq_some_iff.1 hj).1
          simp at this
          exact this
        rw [hj0] at hj
        simp only [List.getElem?_cons_zero, Option.some.injEq] at hj
        subst hj
        by_cases hx10 : x < 10
        · exact .inl (shown_digit x hx10)
        · have hx10' : x = 10 := by omega
          have hk : k = 2 := by
            by_cases hk : k = 2
            · exact hk
            · exact absurd ⟨hx10', hk⟩ hc
          subst hx10'
          exact .inr ⟨by rw [hk]; rfl, rfl, by simp; omega⟩
  constructor
  · rw [hst]
    unfold fillOk
    show ((decide (x < 10) || (0 == 0 && k == 2)) && result k ws (x :: vals t) == 0) = _
    by_cases hc : x = 10 ∧ k ≠ 2
    · obtain ⟨rfl, hk⟩ := hc
      have hF : ¬ checkVal k (ints ws) t = shownB 10 := by rw [hshow]; intro e; rw [if_neg hk] at hL; omega
      rw [beq_eq_false_iff_ne.2 hk, decide_eq_false hF]
      rfl
    · have hxm : x < modOf k := by
        unfold modOf
        split <;> omega
      have hLm : L < modOf k := by
        unfold modOf
        exact hL
      have hb : (decide (x < 10) || (0 == 0 && k == 2)) = true := by
        by_cases hx10 : x < 10
        · rw [decide_eq_true hx10]; rfl
        · have : k = 2 := by omega
          rw [this]; simp
      rw [hb, Bool.true_and]
      by_cases e : L = x
      · rw [decide_eq_true (hshow.2 e), ← e, hlp]; rfl
      · rw [decide_eq_false (fun e' => e (hshow.1 e')), beq_eq_false_iff_ne]
        exact fun e' => e (one_last h (vals t) hdv hLm hxm hlp e')
  · rw [chk_good h (by simp; omega) (by simp; omega), hok]
    by_cases hc : x = 10 ∧ k ≠ 2
    · rw [decide_eq_true hc, if_pos hc]; rfl
    · rw [decide_eq_false hc, if_neg hc]; rfl

/-- An X ahead of a payload. -/
theorem x_first {k : Nat} {ws t : List Nat} (h : SysOk k ws) (h1 : 1 ≤ t.length) (h2 : t.length ≤ 30) : chkErr k (ints ws) (88 :: t) = 161 := by
  have hok : okB (k == 2) (88 :: t) = false := by
    cases e : okB (k == 2) (88 :: t) with
    | false => rfl
    | true =>
      rcases (good_iff.1 (okB_iff.1 e)) 0 88 rfl with h | ⟨_, _, h⟩
      · omega
      · rw [List.length_cons] at h; omega
  rw [chk_good h (by rw [List.length_cons]; omega) (by rw [List.length_cons]; omega), hok]; rfl
theorem x_check {k : Nat} {ws t : List Nat} (h : SysOk k ws) (h2 : t.length ≤ 30) : checkErr k (ints ws) (88 :: t.drop 1) = 161 := by
  have hok : okB false (88 :: t.drop 1 ++ [48]) = false := by
    cases e : okB false (88 :: t.drop 1 ++ [48]) with
    | false => rfl
    | true =>
      rcases (good_iff.1 (okB_iff.1 e)) 0 88 rfl with h | ⟨h, _⟩
      · omega
      · cases h
  unfold checkErr
  rw [right_of h, if_neg (by decide), if_neg (by simp; omega), if_pos (.inl hok)]
/-- But for Mod10: another digit at a place is found. -/
theorem Pass.other {k : Nat} {ws T : List Nat} (h : Pass k ws T) (hk : k ≠ 1) {i d : Nat} (hd : T[i]? = some d) {x : Nat} (hx : x < 11) (hne : shownB x ≠ d) : testB k (ints ws) (T.set i (shownB x)) = false := by
  have hil := (List.getElem?_eq_some_iff.1 hd).1
  rw [set_test h.ok h.good h.lo h.hi hil hx]
  cases e : fillOk k ws (vals (T.set i 48)) (T.length - 1 - i) x with
  | false => rfl
  | true =>
    have hm : x ∈ (List.range 11).filter (fillOk k ws (vals (T.set i 48)) (T.length - 1 - i)) := List.mem_filter.2 ⟨List.mem_range.2 hx, e⟩
    rw [h.single hk hd, List.mem_singleton] at hm
    rw [hm] at hne
    exact absurd (h.own hd).2.1 hne
end Go.Proofs.YtnmnfbibjghjhaaDoor
