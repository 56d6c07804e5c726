/-
  Plain laws: what is not right is rejected with the first error of the table.
-/
import Derived.Test.YtnmnfbibjghjhaaDoorDl
import Derived.Test.YtnmnfbibjghjhaaDoorDq
namespace Go.Proofs.YtnmnfbibjghjhaaDoor
open Go.RowKit Dig

theorem bad_right {k : Nat} {ws : List Nat} (h : SysOk k ws) : rightB k (ints ws ++ [11]) = false := by
  unfold rightB
  have hl : (ints ws ++ [11]).length = ws.length + 1 := by simp
  rcases h with ⟨hk, _⟩ | ⟨hk, _, _, _⟩
  · rw [if_pos hk]; exact decide_eq_false (by omega)
  · rw [if_neg (by omega), if_pos hk]
    refine decide_eq_false fun hh => ?_
    have := hh.2.2 11 (by simp)
    have := modOf_le k
    omega
section
variable {k : Nat} {ws : List Int} (h : rightB k ws = false)
include h
theorem bad_check (t : List Nat) : checkErr k ws t = 160 := by unfold checkErr; rw [if_pos h]
theorem bad_chk (t : List Nat) : chkErr k ws t = 160 := by unfold chkErr; rw [if_pos h]
theorem bad_fill (t : List Nat) (q : Option Nat) : fillErr k ws t q = 160 := by unfold fillErr; rw [bad_chk h, if_neg (by decide)]
theorem bad_miss (n : Int) : missErr k ws n = 160 := by unfold missErr; rw [if_pos h]
end
section
variable {k : Nat} {ws : List Int} (h : rightB k ws = true)
include h
theorem long_check {t : List Nat} (hl : 30 < t.length) : checkErr k ws t = 3 := by unfold checkErr; rw [h, if_neg (by decide), if_pos hl]
theorem long_chk {t : List Nat} (hl : 31 < t.length) : chkErr k ws t = 3 := by unfold chkErr; rw [h, if_neg (by decide), if_pos hl]
theorem long_fill {t : List Nat} (q : Option Nat) (hl : 31 < t.length) : fillErr k ws t q = 3 := by
  unfold fillErr; rw [long_chk h (by rw [repl_len]; exact hl), if_neg (by decide)]
theorem few_miss {n : Int} (hn : n < 1 ∨ 30 < n) : missErr k ws n = 2 := by unfold missErr; rw [h, if_neg (by decide), if_pos hn]
theorem short_check : checkErr k ws [] = 161 := by unfold checkErr; rw [h, if_neg (by decide), if_neg (by decide), if_pos (.inr rfl)]
theorem short_chk {t : List Nat} (hl : t.length < 2) : chkErr k ws t = 161 := by unfold chkErr; rw [h, if_neg (by decide), if_neg (by omega), if_pos (.inr hl)]
theorem none_fill {t : List Nat} (hl : t.length ≤ 31) (hg : ∀ c ∈ t, 48 ≤ c ∧ c ≤ 57) : fillErr k ws t none = 161 := by
  unfold fillErr
  show (if chkErr k ws t = 0 then (if (none : Option Nat) = none then 161 else 0) else chkErr k ws t) = 161
  by_cases h2 : t.length < 2
  · rw [short_chk h h2, if_neg (by decide)]
  · have : chkErr k ws t = 0 := by
      unfold chkErr
      rw [h, if_neg (by decide), if_neg (by omega), if_neg (by rw [okB_iff.2 (good_iff.2 (digits_good (x := (k == 2)) hg))]; exact fun e => e.elim (fun e => by cases e) (fun e => by omega))]
    rw [this, if_pos rfl, if_pos rfl]
theorem two_fill : fillErr k ws [63, 63] (some 0) = 161 := by
  have hb : okB (k == 2) [48, 63] = false := by
    cases e : okB (k == 2) [48, 63] with
    | false => rfl
    | true =>
      rcases good_iff.1 (okB_iff.1 e) 1 63 rfl with h | ⟨_, h, _⟩
      · omega
      · cases h
  have hc : chkErr k ws [48, 63] = 161 := by unfold chkErr; rw [h, if_neg (by decide), if_neg (by decide), hb, if_pos (.inl rfl)]
  show (if chkErr k ws [48, 63] = 0 then (if some 0 = none then 161 else 0) else chkErr k ws [48, 63]) = 161
  rw [hc, if_neg (by decide)]
theorem one_fill : fillErr k ws [63] (some 0) = 161 := by
  have hc : chkErr k ws [48] = 161 := short_chk h (by decide)
  show (if chkErr k ws [48] = 0 then (if some 0 = none then 161 else 0) else chkErr k ws [48]) = 161
  rw [hc, if_neg (by decide)]
/-- Another byte at the payload's last place. -/
theorem byte_check {t : List Nat} (h1 : 1 ≤ t.length) (h2 : t.length ≤ 30) (hd : ∀ c ∈ t, 48 ≤ c ∧ c ≤ 57) (c : Nat) : checkErr k ws (t.set (t.length - 1) c) = if 48 ≤ c ∧ c ≤ 57 then 0 else 161 := by
  have hl : (t.set (t.length - 1) c).length = t.length := List.length_set
  by_cases hc : 48 ≤ c ∧ c ≤ 57
  · rw [if_pos hc]
    have hok : okB false (t.set (t.length - 1) c ++ [48]) = true := okB_iff.2 (good_iff.2 (digits_good fun d hdm => by
      rcases List.mem_append.1 hdm with hdm | hdm
      · rcases List.mem_or_eq_of_mem_set hdm with hdm | rfl
        · exact hd d hdm
        · exact hc
      · rw [List.mem_singleton.1 hdm]; decide))
    unfold checkErr
    rw [h, if_neg (by decide), if_neg (by omega), if_neg (by rw [hok]; exact fun e => e.elim (fun e => by cases e) (fun e => by omega))]
  · rw [if_neg hc]
    have hok : okB false (t.set (t.length - 1) c ++ [48]) = false := by
      cases e : okB false (t.set (t.length - 1) c ++ [48]) with
      | false => rfl
      | true =>
        rcases good_iff.1 (okB_iff.1 e) (t.length - 1) c (by rw [List.getElem?_append_left (by omega), List.getElem?_set_self (by omega)]) with h | ⟨h, _⟩
        · exact absurd h hc
        · cases h
    unfold checkErr
    rw [h, if_neg (by decide), if_neg (by omega), if_pos (.inl hok)]
/-- Another byte at the payload's first place, in a checked text. -/
theorem byte_chk {t : List Nat} (h1 : 1 ≤ t.length) (h2 : t.length ≤ 30) (hd : ∀ c ∈ t, 48 ≤ c ∧ c ≤ 57) (c : Nat) : chkErr k ws (t.set 0 c ++ [48]) = if 48 ≤ c ∧ c ≤ 57 then 0 else 161 := by
  have hl : (t.set 0 c ++ [48]).length = t.length + 1 := by rw [List.length_append, List.length_set]; rfl
  by_cases hc : 48 ≤ c ∧ c ≤ 57
  · rw [if_pos hc]
    have hok : okB (k == 2) (t.set 0 c ++ [48]) = true := okB_iff.2 (good_iff.2 (digits_good fun d hdm => by
      rcases List.mem_append.1 hdm with hdm | hdm
      · rcases List.mem_or_eq_of_mem_set hdm with hdm | rfl
        · exact hd d hdm
        · exact hc
      · rw [List.mem_singleton.1 hdm]; decide))
    unfold chkErr
    rw [h, if_neg (by decide), if_neg (by omega), if_neg (by rw [hok]; exact fun e => e.elim (fun e => by cases e) (fun e => by omega))]
  · rw [if_neg hc]
    have hok : okB (k == 2) (t.set 0 c ++ [48]) = false := by
      cases e : okB (k == 2) (t.set 0 c ++ [48]) with
      | false => rfl
      | true =>
        rcases good_iff.1 (okB_iff.1 e) 0 c (by rw [List.getElem?_append_left (by rw [List.length_set]; omega), List.getElem?_set_self (by omega)]) with h | ⟨_, _, h⟩
        · exact absurd h hc
        · rw [hl] at h; omega
    unfold chkErr
    rw [h, if_neg (by decide), if_neg (by omega), if_pos (.inl hok)]
end
end Go.Proofs.YtnmnfbibjghjhaaDoor
