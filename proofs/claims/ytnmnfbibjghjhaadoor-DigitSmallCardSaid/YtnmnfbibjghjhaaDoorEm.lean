/-
  The walk of listed; a row that is written over.
-/
import Derived.Test.YtnmnfbibjghjhaaDoorEl
namespace Go.Proofs.YtnmnfbibjghjhaaDoor
open Go.RowKit Dig

set_option maxHeartbeats 4000000 in
theorem listed_any (l : List Miss4) (va vb : Value) (w : World) (ha : MissAt w va l) (hb : MissAt w vb l) (hl : l.length ≤ 100000) :
    Calls Tryd.prog 25 #[va, vb] w fun e w' => e = .returned (.bool true) ∧ Below w.heap.size w w' := by
  obtain ⟨p, c, rfl, hca⟩ := ha
  obtain ⟨q, d, rfl, hcb⟩ := hb
  have HA := Lib.hid hca
  have HB := Lib.hid hcb
  obtain ⟨n, hn⟩ : ∃ n, l.length = n := ⟨_, rfl⟩
  rw [hn] at hl ⊢
  have HN := Lib.hid hn
  clear hca hcb hn
  go_enter Tryd.func25, Tryd.ntmps25
  go_wp2_with fail
  go_loopw [5] (fun iv wr => ∃ i : Nat, iv = .int .i64 i ∧ i ≤ n ∧ Below w.heap.size w wr)
    (fun iv _ => n - (intOf iv).toNat)
  case atStart => exact ⟨0, rfl, by omega, Below.refl _ w⟩
  case round =>
    obtain ⟨i, rfl, hi, hY⟩ := hrel
    have hwi : IntKind.i64.wrap ((i : Int) + 1) = (i : Int) + 1 := by rw [IntKind.wrap_i64]; omega
    by_cases hin : i < n
    · have hini : (i : Int) < (n : Int) := by omega
      obtain ⟨x, hx⟩ : ∃ x, l[i]? = some x := ⟨_, List.getElem?_eq_getElem (by rw [HN.out]; exact hin)⟩
      obtain ⟨x1, x2, x3, x4⟩ := x
      have hga : ∃ g, p = some ⟨g, 0, none⟩ ∧ g < w.heap.size ∧ w.cell? ⟨g, i * 4, none⟩ = some (.bool x1) ∧ w.cell? ⟨g, i * 4 + 1, none⟩ = some (.int .i64 (x2 : Int)) ∧ w.cell? ⟨g, i * 4 + 2, none⟩ = some (.int .i64 (x3 : Int)) ∧ w.cell? ⟨g, i * 4 + 3, none⟩ = some (.int .i64 (x4 : Int)) := by
        rcases HA.out with h0 | ⟨g, hq, hg, hc⟩
        · rw [h0] at hx; cases hx
        · exact ⟨g, hq, hg, hc i _ hx⟩
      have hgb : ∃ g, q = some ⟨g, 0, none⟩ ∧ g < w.heap.size ∧ w.cell? ⟨g, i * 4, none⟩ = some (.bool x1) ∧ w.cell? ⟨g, i * 4 + 1, none⟩ = some (.int .i64 (x2 : Int)) ∧ w.cell? ⟨g, i * 4 + 2, none⟩ = some (.int .i64 (x3 : Int)) ∧ w.cell? ⟨g, i * 4 + 3, none⟩ = some (.int .i64 (x4 : Int)) := by
        rcases HB.out with h0 | ⟨g, hq, hg, hc⟩
        · rw [h0] at hx; cases hx
        · exact ⟨g, hq, hg, hc i _ hx⟩
      obtain ⟨g, rfl, hgl, c0, c1, c2, c3⟩ := hga
      obtain ⟨g2, rfl, hgl2, d0, d1, d2, d3⟩ := hgb
      have c0 := (hY.cell (p := ⟨g, i * 4, none⟩) hgl).trans c0
      have c1 := (hY.cell (p := ⟨g, i * 4 + 1, none⟩) hgl).trans c1
      have c2 := (hY.cell (p := ⟨g, i * 4 + 2, none⟩) hgl).trans c2
      have c3 := (hY.cell (p := ⟨g, i * 4 + 3, none⟩) hgl).trans c3
      have d0 := (hY.cell (p := ⟨g2, i * 4, none⟩) hgl2).trans d0
      have d1 := (hY.cell (p := ⟨g2, i * 4 + 1, none⟩) hgl2).trans d1
      have d2 := (hY.cell (p := ⟨g2, i * 4 + 2, none⟩) hgl2).trans d2
      have d3 := (hY.cell (p := ⟨g2, i * 4 + 3, none⟩) hgl2).trans d3
      clear hx
      go_upto_region 6 with fail
      go_quiet (fail)
      go_wp2
      go_roundw
      case rel => exact ⟨i + 1, by go_num, by omega, ⟨hY.os, hY.tape, hY.output, hY.size, hY.block⟩⟩
      case measure => simp [intOf] <;> omega
    · have hini : ¬ (i : Int) < (n : Int) := by omega
      go_wp2
      go_ret
      exact ⟨rfl, hY⟩

/-- A block of which so many cells may be written. -/
structure FreeRow (W : World) (B n : Nat) : Prop where
  lt : B < W.heap.size
  cell : ∀ j : Nat, j < n → ∃ v, W.cell? ⟨B, j, none⟩ = some v
  open' : ∀ j : Nat, j < n → W.frozen? ⟨B, j, none⟩ = false
theorem FreeRow.below {B n C : Nat} {W W' : World} (h : FreeRow W B n) (hB : W.heap.size ≤ C) (hb : Below C W W') : FreeRow W' B n := by
  have hl : B < C := Nat.lt_of_lt_of_le h.lt hB
  refine ⟨Nat.lt_of_lt_of_le h.lt hb.size, fun j hj => ?_, fun j hj => (World.frozen?_of_block (hb.block B hl)).trans (h.open' j hj)⟩
  obtain ⟨v, hv⟩ := h.cell j hj
  exact ⟨v, (hb.cell (p := ⟨B, j, none⟩) hl).trans hv⟩
theorem FreeRow.set {B n : Nat} {W : World} (h : FreeRow W B n) (i : Nat) (u : Value) : FreeRow (W.setCell ⟨B, i, none⟩ u) B n := by
  refine ⟨by simpa using h.lt, fun j hj => ?_, fun j hj => ?_⟩
  · obtain ⟨v, hv⟩ := h.cell j hj
    by_cases e : i = j
    · subst e
      refine ⟨u, ?_⟩
      first | exact World.cell?_setCell_same _ _ _ hv | exact World.cell?_setCell_same _ hv | exact World.cell?_setCell_same _ _ hv | exact World.cell?_setCell_same _ _ _ _ hv
    · have hne : (⟨B, i, none⟩ : Addr) ≠ ⟨B, j, none⟩ := by intro e'; cases e'; exact e rfl
      refine ⟨v, Eq.trans ?_ hv⟩
      first | exact World.cell?_setCell_other _ _ _ hne | exact World.cell?_setCell_other _ hne | exact World.cell?_setCell_other _ _ hne | exact World.cell?_setCell_other _ _ _ _ hne
  · rw [World.frozen?_setCell]
    exact h.open' j hj
theorem FreeRow.of_owns {W : World} {base n cap g : Nat} {t : TypeId} {xs : List Value} (h : W.ownsRow base t 4 (.slice (some ⟨g, 0, none⟩) n cap) n xs) : FreeRow W g (n * 4) := by
  have hlen := h.1
  have hlt := (h.lt g rfl).2
  rcases h.2 with ⟨h0, _⟩ | ⟨g', cap', cur, hv, _, hg, hnc, _, hcs, htk⟩
  · cases h0
  · simp only [Value.slice.injEq, Option.some.injEq, Addr.mk.injEq, and_true, true_and] at hv
    obtain ⟨rfl, rfl⟩ := hv
    have hsz : n * 4 ≤ cur.size := by rw [hcs]; exact Nat.mul_le_mul_right 4 hnc
    refine ⟨hlt, fun j hj => ⟨cur[j]'(by omega), ?_⟩, fun j hj => ?_⟩
    · simp [World.cell?, hg, Array.getElem?_eq_getElem (show j < cur.size by omega)]
    · simp [World.frozen?, hg]
end Go.Proofs.YtnmnfbibjghjhaaDoor
