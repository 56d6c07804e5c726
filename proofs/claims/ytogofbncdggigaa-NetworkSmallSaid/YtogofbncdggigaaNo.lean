/-
  The walk of tells: it returns true at every leg and all numbers.
-/
import Derived.Test.YtogofbncdggigaaNg
import Derived.Test.YtogofbncdggigaaNi
import Derived.Test.YtogofbncdggigaaNm
import Derived.Deep.RegionHeld3
namespace Go.Proofs.Ytogofbncdggigaa
open Go.RowKit Net

def rA (d : Int) : Option Int → Int
  | some k => 1440 * k + d
  | none => 0
def rB (d m : Int) : Option Int → Int
  | some k => 1440 * k + d + m
  | none => 0
def rP : Option Int → Bool
  | some _ => true
  | none => false
def onR (on : Int → Bool) (day : Int) : Option Int := if on day = true then some day else none
theorem sameB_refl (a b : Int) (p : Bool) : sameB a b p a b p = true := by simp [sameB]
theorem next_unique {on : Int → Bool} {d c ready : Int} {r s : Option Int} (h : IsNext on d c ready r) (k : IsNext on d c ready s) : r = s := by
  cases r with
  | none =>
    cases s with
    | none => rfl
    | some b => have := h b k.1; have := k.2.1; omega
  | some a =>
    cases s with
    | none => have := k a h.1; have := h.2.1; omega
    | some b =>
      by_cases e : a < b
      · have := k.2.2 a e h.1; have := h.2.1; omega
      · by_cases e2 : b < a
        · have := h.2.2 b e2 k.1; have := k.2.1; omega
        · rw [show a = b from by omega]
theorem last_unique {on : Int → Bool} {d m b : Int} {r s : Option Int} (h : IsLast on d m b r) (k : IsLast on d m b s) : r = s := by
  cases r with
  | none =>
    cases s with
    | none => rfl
    | some x => have := h x k.1; have := k.2.1; omega
  | some a =>
    cases s with
    | none => have := k a h.1; have := h.2.1; omega
    | some x =>
      by_cases e : a < x
      · have := h.2.2 x e k.1; have := k.2.1; omega
      · by_cases e2 : x < a
        · have := k.2.2 a e2 h.1; have := h.2.1; omega
        · rw [show a = x from by omega]

theorem depCells_at (d m : Int) : ∀ (ds : List Int) (k : Nat), k < ds.length → ∃ x : Int, (depCells d m ds)[k * 2]? = some (.int .i64 (1440 * x + d)) ∧ (depCells d m ds)[k * 2 + 1]? = some (.int .i64 (1440 * x + d + m))
  | [], k, h => by simp at h
  | y :: ds, 0, _ => ⟨y, by simp [depCells], by simp [depCells]⟩
  | y :: ds, k + 1, h => by
    obtain ⟨x, h1, h2⟩ := depCells_at d m ds k (by simpa using h)
    refine ⟨x, ?_, ?_⟩
    · rw [show (k + 1) * 2 = k * 2 + 2 from by omega]
      show ([Value.int .i64 (1440 * y + d), .int .i64 (1440 * y + d + m)] ++ depCells d m ds)[k * 2 + 2]? = _
      rw [List.getElem?_append_right (by simp)]; simpa using h1
    · rw [show (k + 1) * 2 + 1 = k * 2 + 1 + 2 from by omega]
      show ([Value.int .i64 (1440 * y + d), .int .i64 (1440 * y + d + m)] ++ depCells d m ds)[k * 2 + 1 + 2]? = _
      rw [List.getElem?_append_right (by simp)]; simpa using h2

theorem on_any (i f t d m c g y day : Int) (w : World) (hy0 : 0 ≤ y) (hy1 : y ≤ 255) :
    Calls Try.prog 16 #[.agg #[.int .i64 i, .int .i64 f, .int .i64 t, .int .i64 d, .int .i64 m, .int .i64 c, .int .i64 g, .int .u8 y], .int .i64 day] w fun e w' => e = .returned (.tuple #[.agg #[.int .i64 (rA d (onR (onB i f t d m c g y) day)), .int .i64 (rB d m (onR (onB i f t d m c g y) day))], .bool (rP (onR (onB i f t d m c g y) day))]) ∧ Below w.heap.size w w' := by
  cases h : onB i f t d m c g y day with
  | true => exact (on_yes i f t d m c g y day w hy0 hy1 h).mono fun e w' hh => ⟨by rw [hh.1, onR, if_pos h]; rfl, hh.2⟩
  | false => exact (on_no i f t d m c g y day w hy0 hy1 h).mono fun e w' hh => ⟨by rw [hh.1, onR, if_neg (by rw [h]; decide)]; rfl, hh.2⟩
theorem refon_any (i f t d m c g y day : Int) (w : World) (hy0 : 0 ≤ y) (hy1 : y ≤ 255) :
    Calls Try.prog 27 #[.agg #[.int .i64 i, .int .i64 f, .int .i64 t, .int .i64 d, .int .i64 m, .int .i64 c, .int .i64 g, .int .u8 y], .int .i64 day] w fun e w' => e = .returned (.tuple #[.agg #[.int .i64 (rA d (onR (onB i f t d m c g y) day)), .int .i64 (rB d m (onR (onB i f t d m c g y) day))], .bool (rP (onR (onB i f t d m c g y) day))]) ∧ Below w.heap.size w w' := by
  cases h : onB i f t d m c g y day with
  | true => exact (refon_yes i f t d m c g y day w hy0 hy1 h).mono fun e w' hh => ⟨by rw [hh.1, onR, if_pos h]; rfl, hh.2⟩
  | false => exact (refon_no i f t d m c g y day w hy0 hy1 h).mono fun e w' hh => ⟨by rw [hh.1, onR, if_neg (by rw [h]; decide)]; rfl, hh.2⟩
def NextP (on : Int → Bool) (d m c ready : Int) (w : World) (e : Ending) (w' : World) : Prop :=
  ∃ r, IsNext on d c ready r ∧ e = .returned (.tuple #[.agg #[.int .i64 (rA d r), .int .i64 (rB d m r)], .bool (rP r)]) ∧ Below w.heap.size w w'
def LastP (on : Int → Bool) (d m b : Int) (w : World) (e : Ending) (w' : World) : Prop :=
  ∃ r, IsLast on d m b r ∧ e = .returned (.tuple #[.agg #[.int .i64 (rA d r), .int .i64 (rB d m r)], .bool (rP r)]) ∧ Below w.heap.size w w'
theorem NextPost.p {on : Int → Bool} {d m c ready : Int} {w : World} {e : Ending} {w' : World} (h : NextPost on d m c ready w e w') : NextP on d m c ready w e w' := by
  obtain ⟨r, h1, h2, h3⟩ := h
  exact ⟨r, h1, by rw [h2]; cases r <;> rfl, h3⟩
theorem LastPost.p {on : Int → Bool} {d m b : Int} {w : World} {e : Ending} {w' : World} (h : LastPost on d m b w e w') : LastP on d m b w e w' := by
  obtain ⟨r, h1, h2, h3⟩ := h
  exact ⟨r, h1, by rw [h2]; cases r <;> rfl, h3⟩
theorem next_any (i f t d m c g y b : Int) (w : World) (hy0 : 0 ≤ y) (hy1 : y ≤ 255) :
    Calls Try.prog 14 #[.agg #[.int .i64 i, .int .i64 f, .int .i64 t, .int .i64 d, .int .i64 m, .int .i64 c, .int .i64 g, .int .u8 y], .int .i64 b] w (NextP (onB i f t d m c g y) d m c b w) := by
  cases h : rightB i f t d m c g y with
  | true => exact (next_right i f t d m c g y b w hy0 hy1 h).mono fun _ _ hh => hh.p
  | false => exact (next_wrong_leg i f t d m c g y b w hy0 hy1 h).mono fun _ _ hh => hh.p
theorem refnext_p (i f t d m c g y b : Int) (w : World) (hy0 : 0 ≤ y) (hy1 : y ≤ 255) :
    Calls Try.prog 30 #[.agg #[.int .i64 i, .int .i64 f, .int .i64 t, .int .i64 d, .int .i64 m, .int .i64 c, .int .i64 g, .int .u8 y], .int .i64 b] w (NextP (onB i f t d m c g y) d m c b w) := (refnext_any i f t d m c g y b w hy0 hy1).mono fun _ _ hh => hh.p
theorem last_any (i f t d m c g y b : Int) (w : World) (hy0 : 0 ≤ y) (hy1 : y ≤ 255) :
    Calls Try.prog 17 #[.agg #[.int .i64 i, .int .i64 f, .int .i64 t, .int .i64 d, .int .i64 m, .int .i64 c, .int .i64 g, .int .u8 y], .int .i64 b] w (LastP (onB i f t d m c g y) d m b w) := by
  cases h : rightB i f t d m c g y with
  | true =>
    by_cases hb : 0 ≤ b
    · exact (last_right i f t d m c g y b w hy0 hy1 h hb).mono fun _ _ hh => hh.p
    · exact (last_wrong_leg i f t d m c g y b w hy0 hy1 (.inr ⟨h, by omega⟩)).mono fun _ _ hh => hh.p
  | false => exact (last_wrong_leg i f t d m c g y b w hy0 hy1 (.inl h)).mono fun _ _ hh => hh.p
theorem reflast_p (i f t d m c g y b : Int) (w : World) (hy0 : 0 ≤ y) (hy1 : y ≤ 255) :
    Calls Try.prog 31 #[.agg #[.int .i64 i, .int .i64 f, .int .i64 t, .int .i64 d, .int .i64 m, .int .i64 c, .int .i64 g, .int .u8 y], .int .i64 b] w (LastP (onB i f t d m c g y) d m b w) := (reflast_any i f t d m c g y b w hy0 hy1).mono fun _ _ hh => hh.p
end Go.Proofs.Ytogofbncdggigaa
