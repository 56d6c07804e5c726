/-
  Rows of numbers and of legs that a call made itself, read as rows; copies of them.
-/
import Derived.Laws.OwnMore
import Derived.Laws.AppendOwnNone
import Derived.Test.YtogofbncdggigaaNy
namespace Go.Proofs.Ytogofbncdggigaa
open Go.RowKit Net

def intCells (ps : List Int) : List Value := ps.map fun p => .int .i64 p
def Net.Leg8.cells (l : Leg8) : List Value := [.int .i64 l.i, .int .i64 l.f, .int .i64 l.t, .int .i64 l.d, .int .i64 l.m, .int .i64 l.c, .int .i64 l.g, .int .u8 l.y]
def legCells (ls : List Leg8) : List Value := ls.flatMap Leg8.cells
theorem legCells_length (ls : List Leg8) : (legCells ls).length = ls.length * 8 := by
  induction ls with
  | nil => rfl
  | cons l ls ih => simp only [legCells, List.flatMap_cons, List.length_append, List.length_cons] at ih ⊢; rw [ih]; simp [Leg8.cells]; omega
theorem legCells_at : ∀ (ls : List Leg8) (k : Nat) (x : Leg8), ls[k]? = some x → ∀ r, r < 8 → (legCells ls)[k * 8 + r]? = x.cells[r]?
  | [], _, _, h, _, _ => by simp at h
  | l :: ls, 0, x, h, r, hr => by
    simp only [List.getElem?_cons_zero, Option.some.injEq] at h
    subst h
    show (l.cells ++ legCells ls)[0 * 8 + r]? = _
    rw [Nat.zero_mul, Nat.zero_add, List.getElem?_append_left (by show r < 8; exact hr)]
  | l :: ls, k + 1, x, h, r, hr => by
    show (l.cells ++ legCells ls)[(k + 1) * 8 + r]? = _
    rw [List.getElem?_append_right (by show 8 ≤ (k + 1) * 8 + r; omega), show (k + 1) * 8 + r - l.cells.length = k * 8 + r from by show (k + 1) * 8 + r - 8 = _; omega]
    exact legCells_at ls k x (by simpa using h) r hr
theorem legCells_append (a b : List Leg8) : legCells (a ++ b) = legCells a ++ legCells b := by simp [legCells]
theorem intCells_append (a b : List Int) : intCells (a ++ b) = intCells a ++ intCells b := by simp [intCells]
theorem intCells_one (ps : List Int) : ∀ u ∈ intCells ps, u.oneCell' = true := by
  intro u hu; obtain ⟨p, _, rfl⟩ := List.mem_map.1 hu; rfl
theorem legCells_one (ls : List Leg8) : ∀ u ∈ legCells ls, u.oneCell' = true := by
  intro u hu; obtain ⟨l, _, hl⟩ := List.mem_flatMap.1 hu
  simp only [Leg8.cells, List.mem_cons, List.not_mem_nil, or_false] at hl
  rcases hl with rfl | rfl | rfl | rfl | rfl | rfl | rfl | rfl <;> rfl
theorem addr_add (b o j : Nat) : (⟨b, o, none⟩ : Addr).add j = ⟨b, o + j, none⟩ := by
  unfold Addr.add
  split
  · rename_i h; subst h; rfl
  · rfl
theorem LegRow.mk8 {W : World} {b o : Nat} {ls : List Leg8} {c : Nat} (hlt : b < W.heap.size) (h : ∀ j u, (legCells ls)[j]? = some u → W.cell? ⟨b, o + j, none⟩ = some u) : LegRow W (.slice (some ⟨b, o, none⟩) ls.length c) ls := by
  refine ⟨_, c, rfl, .inr ⟨b, o, rfl, hlt, fun k x hx => ?_⟩⟩
  have hk : ∀ r u, r < 8 → x.cells[r]? = some u → W.cell? ⟨b, o + k * 8 + r, none⟩ = some u := fun r u hr hu => by
    rw [Nat.add_assoc]
    exact h _ _ ((legCells_at ls k x hx r hr).trans hu)
  exact ⟨hk 0 _ (by decide) rfl, hk 1 _ (by decide) rfl, hk 2 _ (by decide) rfl, hk 3 _ (by decide) rfl, hk 4 _ (by decide) rfl, hk 5 _ (by decide) rfl, hk 6 _ (by decide) rfl, hk 7 _ (by decide) rfl⟩
theorem IntRow.of_owns {W : World} {base n : Nat} {v : Value} {ps : List Int} (h : W.ownsRow base 3 1 v n (intCells ps)) : IntRow W v ps := by
  have hn : n = ps.length := by have := h.1; simpa [intCells] using this.symm
  subst hn
  have hc := h
  rcases h.2 with ⟨rfl, h0⟩ | ⟨g, cap, cur, rfl, _⟩
  · exact ⟨none, 0, by rw [h0], .inl (List.length_eq_zero_iff.1 h0)⟩
  · refine ⟨_, cap, rfl, .inr ⟨g, 0, rfl, (hc.lt g rfl).2, fun k x hx => ?_⟩⟩
    have := hc.cells (g := g) rfl k (.int .i64 x) (by simp [intCells, hx])
    rwa [addr_add] at this
theorem LegRow.of_owns {W : World} {base n : Nat} {v : Value} {ls : List Leg8} (h : W.ownsRow base 23 8 v n (legCells ls)) : LegRow W v ls := by
  have hn : n = ls.length := by have := h.1; rw [legCells_length] at this; omega
  subst hn
  have hc := h
  rcases h.2 with ⟨rfl, h0⟩ | ⟨g, cap, cur, rfl, _⟩
  · exact ⟨none, 0, by rw [h0], .inl (List.length_eq_zero_iff.1 h0)⟩
  · refine LegRow.mk8 (hc.lt g rfl).2 fun j u hu => ?_
    have := hc.cells (g := g) rfl j u hu
    rwa [addr_add] at this
theorem IntRow.of_block {W : World} {B c : Nat} {ps : List Int} {cs : Array Value} (h : BlockAt W B cs 3) (hcs : cs.toList = intCells ps) : IntRow W (.slice (some ⟨B, 0, none⟩) ps.length c) ps := by
  refine ⟨_, c, rfl, .inr ⟨B, 0, rfl, h.lt, fun k x hx => ?_⟩⟩
  have hh := h
  unfold BlockAt at hh
  have : cs[k]? = some (.int .i64 x) := by rw [← Array.getElem?_toList, hcs]; simp [intCells, hx]
  simp [World.cell?, hh, this]
theorem LegRow.of_block {W : World} {B c : Nat} {ls : List Leg8} {cs : Array Value} (h : BlockAt W B cs 23) (hcs : cs.toList = legCells ls) : LegRow W (.slice (some ⟨B, 0, none⟩) ls.length c) ls := by
  refine LegRow.mk8 h.lt fun j u hu => ?_
  have hh := h
  unfold BlockAt at hh
  have : cs[j]? = some u := by rw [← Array.getElem?_toList, hcs]; exact hu
  simp [World.cell?, hh, this]
theorem IntRow.nil (W : World) : IntRow W (.slice none 0 0) [] := ⟨none, 0, rfl, .inl rfl⟩
theorem LegRow.nil (W : World) : LegRow W (.slice none 0 0) [] := ⟨none, 0, rfl, .inl rfl⟩
theorem Try.info3 : (Try.prog.info? 3).map (fun i => (i.zero, i.size, i.bytes)) = some (some (.int .i64 0), 1, 8) := by kernel_rfl
theorem Try.info23 : (Try.prog.info? 23).map (fun i => (i.zero, i.size, i.bytes)) = some (some (.agg #[.int .i64 0, .int .i64 0, .int .i64 0, .int .i64 0, .int .i64 0, .int .i64 0, .int .i64 0, .int .u8 0]), 8, 64) := by kernel_rfl
end Go.Proofs.Ytogofbncdggigaa
