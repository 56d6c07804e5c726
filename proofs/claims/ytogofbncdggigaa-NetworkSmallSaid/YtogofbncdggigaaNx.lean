/-
  Plain laws on networks: whether plants and legs are as they should be; counting in a list. No Go, no memory.
-/
import Derived.Test.YtogofbncdggigaaNa
namespace Go.Proofs.Ytogofbncdggigaa.Net

/-- A leg, its fields in their order. -/
structure Leg8 where
  i : Int
  f : Int
  t : Int
  d : Int
  m : Int
  c : Int
  g : Int
  y : Int
def Leg8.right (l : Leg8) : Bool := rightB l.i l.f l.t l.d l.m l.c l.g l.y
/-- What a memory can hold. -/
def Leg8.fits (l : Leg8) : Prop := (-9223372036854775808 ≤ l.i ∧ l.i ≤ 9223372036854775807) ∧ (-9223372036854775808 ≤ l.f ∧ l.f ≤ 9223372036854775807) ∧ (-9223372036854775808 ≤ l.t ∧ l.t ≤ 9223372036854775807) ∧ 0 ≤ l.y ∧ l.y ≤ 255

def PlantsOk (ps : List Int) : Prop := ps.Nodup ∧ ∀ p ∈ ps, 1 ≤ p ∧ p ≤ 999999
def LegsOk (ps : List Int) (ls : List Leg8) : Prop := (ls.map Leg8.i).Nodup ∧ ∀ l ∈ ls, l.right = true ∧ l.f ∈ ps ∧ l.t ∈ ps
/-- What Valid returns. -/
inductive ValidIs (ps : List Int) (ls : List Leg8) : Int → Prop
  | many : 50 < ps.length ∨ 200 < ls.length → ValidIs ps ls 5
  | plant : ps.length ≤ 50 → ls.length ≤ 200 → ¬ PlantsOk ps → ValidIs ps ls 320
  | leg : ps.length ≤ 50 → ls.length ≤ 200 → PlantsOk ps → ¬ LegsOk ps ls → ValidIs ps ls 321
  | ok : ps.length ≤ 50 → ls.length ≤ 200 → PlantsOk ps → LegsOk ps ls → ValidIs ps ls 0
theorem validIs_unique {ps : List Int} {ls : List Leg8} {a b : Int} (h : ValidIs ps ls a) (k : ValidIs ps ls b) : a = b := by
  cases h <;> cases k <;> first | rfl | (exfalso; omega) | (exfalso; contradiction)

theorem take_snoc {α : Type} {l : List α} {k : Nat} {x : α} (h : l[k]? = some x) : l.take (k + 1) = l.take k ++ [x] := by
  rw [List.take_add_one, h]; rfl

/-- The first k plants are as they should be. -/
theorem plants_start {ps : List Int} : PlantsOk (ps.take 0) := ⟨by simp, by simp⟩
theorem plants_step {ps : List Int} {k : Nat} {p : Int} (h : PlantsOk (ps.take k)) (hp : ps[k]? = some p) (h0 : 1 ≤ p) (h1 : p ≤ 999999) (hn : (ps.take k).count p = 0) : PlantsOk (ps.take (k + 1)) := by
  rw [take_snoc hp]
  refine ⟨?_, fun x hx => ?_⟩
  · rw [List.nodup_append]
    refine ⟨h.1, by simp, fun a ha b hb => ?_⟩
    simp only [List.mem_singleton] at hb
    subst hb
    intro e
    subst e
    exact List.count_eq_zero.1 hn ha
  · rcases List.mem_append.1 hx with hx | hx
    · exact h.2 x hx
    · simp only [List.mem_singleton] at hx
      subst hx
      exact ⟨h0, h1⟩
theorem plants_bad {ps : List Int} {k : Nat} {p : Int} (hp : ps[k]? = some p) (hb : p < 1 ∨ 999999 < p ∨ (ps.take k).count p ≠ 0) : ¬ PlantsOk ps := by
  rintro ⟨h, h2⟩
  rcases hb with hb | hb | hb
  · have := h2 p (List.mem_of_getElem? hp); omega
  · have := h2 p (List.mem_of_getElem? hp); omega
  · obtain ⟨hlt, e⟩ := List.getElem?_eq_some_iff.1 hp
    have hm := List.count_pos_iff.1 (Nat.pos_of_ne_zero hb)
    have hd : ps = ps.take k ++ ps.drop k := (List.take_append_drop k ps).symm
    rw [hd, List.nodup_append] at h
    exact h.2.2 p hm p (by rw [List.drop_eq_getElem_cons hlt, e]; simp) rfl
theorem legs_start {ps : List Int} {ls : List Leg8} : LegsOk ps (ls.take 0) := ⟨by simp, by simp⟩
theorem legs_step {ps : List Int} {ls : List Leg8} {k : Nat} {l : Leg8} (h : LegsOk ps (ls.take k)) (hp : ls[k]? = some l) (h0 : l.right = true) (h1 : l.f ∈ ps) (h2 : l.t ∈ ps) (hn : ((ls.take k).map Leg8.i).count l.i = 0) : LegsOk ps (ls.take (k + 1)) := by
  rw [take_snoc hp]
  refine ⟨?_, fun x hx => ?_⟩
  · rw [List.map_append, List.nodup_append]
    refine ⟨h.1, by simp, fun a ha b hb => ?_⟩
    simp only [List.map_cons, List.map_nil, List.mem_singleton] at hb
    subst hb
    intro e
    subst e
    exact List.count_eq_zero.1 hn ha
  · rcases List.mem_append.1 hx with hx | hx
    · exact h.2 x hx
    · simp only [List.mem_singleton] at hx
      subst hx
      exact ⟨h0, h1, h2⟩
theorem legs_bad {ps : List Int} {ls : List Leg8} {k : Nat} {l : Leg8} (hp : ls[k]? = some l) (hb : l.right = false ∨ l.f ∉ ps ∨ l.t ∉ ps ∨ ((ls.take k).map Leg8.i).count l.i ≠ 0) : ¬ LegsOk ps ls := by
  rintro ⟨h, h2⟩
  have hm := h2 l (List.mem_of_getElem? hp)
  rcases hb with hb | hb | hb | hb
  · rw [hm.1] at hb; cases hb
  · exact hb hm.2.1
  · exact hb hm.2.2
  · obtain ⟨hlt, e⟩ := List.getElem?_eq_some_iff.1 hp
    have hm := List.count_pos_iff.1 (Nat.pos_of_ne_zero hb)
    have hd : ls = ls.take k ++ ls.drop k := (List.take_append_drop k ls).symm
    rw [hd, List.map_append, List.nodup_append] at h
    exact h.2.2 l.i hm l.i (by rw [List.drop_eq_getElem_cons hlt, e]; simp) rfl
theorem count_zero_iff (ps : List Int) (x : Int) : ps.count x = 0 ↔ x ∉ ps := List.count_eq_zero
end Go.Proofs.Ytogofbncdggigaa.Net
