/-
  The walk of has.
-/
import Derived.Test.YtnmnfbibjghjhaaDoorDwa
namespace Go.Proofs.YtnmnfbibjghjhaaDoor
open Go.RowKit Dig

theorem miss_get : ∀ (l : List Miss4) (j : Nat) (x : Miss4), l[j]? = some x → ∀ r, r < 4 → (missCells l)[j * 4 + r]? = x.cells[r]?
  | [], j, x, h, _, _ => by simp at h
  | y :: l, 0, x, h, r, hr => by
    simp only [List.getElem?_cons_zero, Option.some.injEq] at h
    subst h
    show (y.cells ++ missCells l)[0 * 4 + r]? = _
    rw [List.getElem?_append_left (by show 0 * 4 + r < 4; omega), Nat.zero_mul, Nat.zero_add]
  | y :: l, j + 1, x, h, r, hr => by
    rw [List.getElem?_cons_succ] at h
    show (y.cells ++ missCells l)[(j + 1) * 4 + r]? = _
    rw [List.getElem?_append_right (by show 4 ≤ (j + 1) * 4 + r; omega), show (j + 1) * 4 + r - y.cells.length = j * 4 + r from by show (j + 1) * 4 + r - 4 = _; omega]
    exact miss_get l j x h r hr
/-- A list of misses as it lies. -/
def MissAt (W : World) (v : Value) (l : List Miss4) : Prop := ∃ p c, v = .slice p l.length c ∧ (l = [] ∨ ∃ g, p = some ⟨g, 0, none⟩ ∧ g < W.heap.size ∧ ∀ (j : Nat) (x : Miss4), l[j]? = some x →
  W.cell? ⟨g, j * 4, none⟩ = some (.bool x.1) ∧ W.cell? ⟨g, j * 4 + 1, none⟩ = some (.int .i64 (x.2.1 : Int)) ∧ W.cell? ⟨g, j * 4 + 2, none⟩ = some (.int .i64 (x.2.2.1 : Int)) ∧ W.cell? ⟨g, j * 4 + 3, none⟩ = some (.int .i64 (x.2.2.2 : Int)))
theorem MissAt.below {B : Nat} {W W' : World} {v : Value} {l : List Miss4} (h : MissAt W v l) (hB : W.heap.size ≤ B) (hb : Below B W W') : MissAt W' v l := by
  obtain ⟨p, c, rfl, hc⟩ := h
  refine ⟨p, c, rfl, ?_⟩
  rcases hc with rfl | ⟨g, rfl, hg, hc⟩
  · exact .inl rfl
  · have hl : g < B := by omega
    refine .inr ⟨g, rfl, Nat.lt_of_lt_of_le hg hb.size, fun j x hx => ?_⟩
    obtain ⟨c0, c1, c2, c3⟩ := hc j x hx
    exact ⟨(hb.cell (p := ⟨g, j * 4, none⟩) hl).trans c0, (hb.cell (p := ⟨g, j * 4 + 1, none⟩) hl).trans c1, (hb.cell (p := ⟨g, j * 4 + 2, none⟩) hl).trans c2, (hb.cell (p := ⟨g, j * 4 + 3, none⟩) hl).trans c3⟩
theorem MissAt.of_owns {W : World} {base : Nat} {v : Value} {l : List Miss4} (h : W.ownsRow base 50 4 v l.length (missCells l)) : MissAt W v l := by
  by_cases h0 : l = []
  · obtain ⟨p, c, rfl⟩ := ownsRow_form h
    exact ⟨p, c, rfl, .inl h0⟩
  · obtain ⟨g, c, rfl, _⟩ := ownsRow_pos h (List.length_pos_iff.2 h0)
    refine ⟨_, c, rfl, .inr ⟨g, rfl, (h.lt g rfl).2, fun j x hx => ?_⟩⟩
    have key := fun r hr => miss_get l j x hx r hr
    have cell : ∀ r v, (missCells l)[j * 4 + r]? = some v → W.cell? ⟨g, j * 4 + r, none⟩ = some v := fun r v e => by
      have := h.cells (g := g) rfl (j * 4 + r) v e
      rw [addr_add, Nat.zero_add] at this
      exact this
    exact ⟨cell 0 _ (key 0 (by decide)), cell 1 _ (key 1 (by decide)), cell 2 _ (key 2 (by decide)), cell 3 _ (key 3 (by decide))⟩

set_option maxHeartbeats 4000000 in
theorem has_lt (l : List Miss4) (v : Value) (sw : Bool) (p a b : Nat) (w : World) (h : MissAt w v l) (hl : l.length ≤ 100000) (hab : a < b) :
    Calls Tryd.prog 31 #[v, .bool sw, .int .i64 p, .int .i64 a, .int .i64 b] w fun e w' => e = .returned (.bool (decide ((sw, p, a, b) ∈ l))) ∧ Below w.heap.size w w' := by
  obtain ⟨q, c, rfl, hc⟩ := h
  have hi1 : ¬ b < a := by omega
  have HC := Lib.hid hc
  clear hc
  obtain ⟨n, hn⟩ : ∃ n, l.length = n := ⟨_, rfl⟩
  rw [hn] at hl ⊢
  have HN := Lib.hid hn
  clear hn
  go_enter Tryd.func31, Tryd.ntmps31
  go_wp2
  go_loopw [15] (fun iv wr => ∃ j : Nat, iv = .int .i64 j ∧ j ≤ n ∧ Hid (∀ j' : Nat, j' < j → l[j']? ≠ some (sw, p, a, b)) ∧ Below w.heap.size w wr)
    (fun iv _ => n - (intOf iv).toNat)
  case atStart => exact ⟨0, rfl, by omega, Lib.hid fun j' hj' => by omega, Below.refl _ w⟩
  case round =>
    obtain ⟨j, rfl, hj, hno, hY⟩ := hrel
    by_cases hjn : j < n
    · have hjni : (j : Int) < (n : Int) := by omega
      have hjwr : IntKind.i64.wrap ((j : Int) + 1) = (j : Int) + 1 := by rw [IntKind.wrap_i64]; omega
      obtain ⟨x, hx⟩ : ∃ x, l[j]? = some x := ⟨_, List.getElem?_eq_getElem (by rw [HN.out]; exact hjn)⟩
      have hg : ∃ g, q = some ⟨g, 0, none⟩ ∧ g < w.heap.size ∧ w.cell? ⟨g, j * 4, none⟩ = some (.bool x.1) ∧ w.cell? ⟨g, j * 4 + 1, none⟩ = some (.int .i64 (x.2.1 : Int)) ∧ w.cell? ⟨g, j * 4 + 2, none⟩ = some (.int .i64 (x.2.2.1 : Int)) ∧ w.cell? ⟨g, j * 4 + 3, none⟩ = some (.int .i64 (x.2.2.2 : Int)) := by
        rcases HC.out with h0 | ⟨g, hq, hg, hc⟩
        · rw [h0] at hx; cases hx
        · exact ⟨g, hq, hg, hc j x hx⟩
      obtain ⟨g, rfl, hgl, c0, c1, c2, c3⟩ := hg
      obtain ⟨x1, x2, x3, x4⟩ := x
      have c0 := (hY.cell (p := ⟨g, j * 4, none⟩) hgl).trans c0
      have c1 := (hY.cell (p := ⟨g, j * 4 + 1, none⟩) hgl).trans c1
      have c2 := (hY.cell (p := ⟨g, j * 4 + 2, none⟩) hgl).trans c2
      have c3 := (hY.cell (p := ⟨g, j * 4 + 3, none⟩) hgl).trans c3
      have HX := Lib.hid hx
      clear hx
      by_cases he : (x1, x2, x3, x4) = (sw, p, a, b)
      · simp only [Prod.mk.injEq] at he
        obtain ⟨rfl, rfl, e3, e4⟩ := he
        subst x3
        subst x4
        go_wp2
        go_ret
        exact ⟨by rw [decide_eq_true (List.mem_of_getElem? HX.out)]; rfl, hY.alloc hY.size _⟩
      · have hno2 : Hid (∀ j' : Nat, j' < j + 1 → l[j']? ≠ some (sw, p, a, b)) := Lib.hid fun j' hj' e => by
          by_cases hjj : j' = j
          · subst hjj
            rw [HX.out] at e
            exact he (Option.some.inj e)
          · exact hno.out j' (by omega) e
        have HE := Lib.hid he
        clear he
        by_cases h1 : x1 = sw
        · subst h1
          by_cases h2 : x2 = p
          · subst h2
            by_cases h3 : x3 = a
            · subst x3
              by_cases h4 : x4 = b
              · subst x4; exact absurd rfl HE.out
              · have h4i : ¬ (x4 : Int) = (b : Int) := by omega
                have h4b : ((x4 : Int) == (b : Int)) = false := by rw [beq_eq_false_iff_ne]; exact h4i
                go_wp2
                go_roundw
                case rel => exact ⟨j + 1, by go_num, by omega, hno2, hY.alloc hY.size _⟩
                case measure => simp [intOf] <;> omega
            · have h3i : ¬ (x3 : Int) = (a : Int) := by omega
              have h3b : ((x3 : Int) == (a : Int)) = false := by rw [beq_eq_false_iff_ne]; exact h3i
              go_wp2
              go_roundw
              case rel => exact ⟨j + 1, by go_num, by omega, hno2, hY.alloc hY.size _⟩
              case measure => simp [intOf] <;> omega
          · have h2i : ¬ (x2 : Int) = (p : Int) := by omega
            have h2b : ((x2 : Int) == (p : Int)) = false := by rw [beq_eq_false_iff_ne]; exact h2i
            go_wp2
            go_roundw
            case rel => exact ⟨j + 1, by go_num, by omega, hno2, hY.alloc hY.size _⟩
            case measure => simp [intOf] <;> omega
        · have h1b : (x1 == sw) = false := by rw [beq_eq_false_iff_ne]; exact h1
          go_wp2
          go_roundw
          case rel => exact ⟨j + 1, by go_num, by omega, hno2, hY.alloc hY.size _⟩
          case measure => simp [intOf] <;> omega
    · have hjni : ¬ (j : Int) < (n : Int) := by omega
      go_wp2
      go_ret
      refine ⟨?_, hY⟩
      rw [decide_eq_false (fun hm => by
        obtain ⟨j', hj', e⟩ := List.getElem_of_mem hm
        exact hno.out j' (by rw [HN.out] at hj'; omega) (by rw [List.getElem?_eq_getElem hj', e]))]
      rfl
set_option maxHeartbeats 4000000 in
theorem has_gt (l : List Miss4) (v : Value) (sw : Bool) (p a b : Nat) (w : World) (h : MissAt w v l) (hl : l.length ≤ 100000) (hab : b < a) :
    Calls Tryd.prog 31 #[v, .bool sw, .int .i64 p, .int .i64 a, .int .i64 b] w fun e w' => e = .returned (.bool (decide ((sw, p, b, a) ∈ l))) ∧ Below w.heap.size w w' := by
  obtain ⟨q, c, rfl, hc⟩ := h
  have hi1 : ¬ a < b := by omega
  have HC := Lib.hid hc
  clear hc
  obtain ⟨n, hn⟩ : ∃ n, l.length = n := ⟨_, rfl⟩
  rw [hn] at hl ⊢
  have HN := Lib.hid hn
  clear hn
  go_enter Tryd.func31, Tryd.ntmps31
  go_wp2
  go_loopw [15] (fun iv wr => ∃ j : Nat, iv = .int .i64 j ∧ j ≤ n ∧ Hid (∀ j' : Nat, j' < j → l[j']? ≠ some (sw, p, b, a)) ∧ Below w.heap.size w wr)
    (fun iv _ => n - (intOf iv).toNat)
  case atStart => exact ⟨0, rfl, by omega, Lib.hid fun j' hj' => by omega, Below.refl _ w⟩
  case round =>
    obtain ⟨j, rfl, hj, hno, hY⟩ := hrel
    by_cases hjn : j < n
    · have hjni : (j : Int) < (n : Int) := by omega
      have hjwr : IntKind.i64.wrap ((j : Int) + 1) = (j : Int) + 1 := by rw [IntKind.wrap_i64]; omega
      obtain ⟨x, hx⟩ : ∃ x, l[j]? = some x := ⟨_, List.getElem?_eq_getElem (by rw [HN.out]; exact hjn)⟩
      have hg : ∃ g, q = some ⟨g, 0, none⟩ ∧ g < w.heap.size ∧ w.cell? ⟨g, j * 4, none⟩ = some (.bool x.1) ∧ w.cell? ⟨g, j * 4 + 1, none⟩ = some (.int .i64 (x.2.1 : Int)) ∧ w.cell? ⟨g, j * 4 + 2, none⟩ = some (.int .i64 (x.2.2.1 : Int)) ∧ w.cell? ⟨g, j * 4 + 3, none⟩ = some (.int .i64 (x.2.2.2 : Int)) := by
        rcases HC.out with h0 | ⟨g, hq, hg, hc⟩
        · rw [h0] at hx; cases hx
        · exact ⟨g, hq, hg, hc j x hx⟩
      obtain ⟨g, rfl, hgl, c0, c1, c2, c3⟩ := hg
      obtain ⟨x1, x2, x3, x4⟩ := x
      have c0 := (hY.cell (p := ⟨g, j * 4, none⟩) hgl).trans c0
      have c1 := (hY.cell (p := ⟨g, j * 4 + 1, none⟩) hgl).trans c1
      have c2 := (hY.cell (p := ⟨g, j * 4 + 2, none⟩) hgl).trans c2
      have c3 := (hY.cell (p := ⟨g, j * 4 + 3, none⟩) hgl).trans c3
      have HX := Lib.hid hx
      clear hx
      by_cases he : (x1, x2, x3, x4) = (sw, p, b, a)
      · simp only [Prod.mk.injEq] at he
        obtain ⟨rfl, rfl, e3, e4⟩ := he
        subst x3
        subst x4
        go_wp2
        go_ret
        exact ⟨by rw [decide_eq_true (List.mem_of_getElem? HX.out)]; rfl, hY.alloc hY.size _⟩
      · have hno2 : Hid (∀ j' : Nat, j' < j + 1 → l[j']? ≠ some (sw, p, b, a)) := Lib.hid fun j' hj' e => by
          by_cases hjj : j' = j
          · subst hjj
            rw [HX.out] at e
            exact he (Option.some.inj e)
          · exact hno.out j' (by omega) e
        have HE := Lib.hid he
        clear he
        by_cases h1 : x1 = sw
        · subst h1
          by_cases h2 : x2 = p
          · subst h2
            by_cases h3 : x3 = b
            · subst x3
              by_cases h4 : x4 = a
              · subst x4; exact absurd rfl HE.out
              · have h4i : ¬ (x4 : Int) = (a : Int) := by omega
                have h4b : ((x4 : Int) == (a : Int)) = false := by rw [beq_eq_false_iff_ne]; exact h4i
                go_wp2
                go_roundw
                case rel => exact ⟨j + 1, by go_num, by omega, hno2, hY.alloc hY.size _⟩
                case measure => simp [intOf] <;> omega
            · have h3i : ¬ (x3 : Int) = (b : Int) := by omega
              have h3b : ((x3 : Int) == (b : Int)) = false := by rw [beq_eq_false_iff_ne]; exact h3i
              go_wp2
              go_roundw
              case rel => exact ⟨j + 1, by go_num, by omega, hno2, hY.alloc hY.size _⟩
              case measure => simp [intOf] <;> omega
          · have h2i : ¬ (x2 : Int) = (p : Int) := by omega
            have h2b : ((x2 : Int) == (p : Int)) = false := by rw [beq_eq_false_iff_ne]; exact h2i
            go_wp2
            go_roundw
            case rel => exact ⟨j + 1, by go_num, by omega, hno2, hY.alloc hY.size _⟩
            case measure => simp [intOf] <;> omega
        · have h1b : (x1 == sw) = false := by rw [beq_eq_false_iff_ne]; exact h1
          go_wp2
          go_roundw
          case rel => exact ⟨j + 1, by go_num, by omega, hno2, hY.alloc hY.size _⟩
          case measure => simp [intOf] <;> omega
    · have hjni : ¬ (j : Int) < (n : Int) := by omega
      go_wp2
      go_ret
      refine ⟨?_, hY⟩
      rw [decide_eq_false (fun hm => by
        obtain ⟨j', hj', e⟩ := List.getElem_of_mem hm
        exact hno.out j' (by rw [HN.out] at hj'; omega) (by rw [List.getElem?_eq_getElem hj', e]))]
      rfl
set_option maxHeartbeats 4000000 in
theorem has_eq (l : List Miss4) (v : Value) (sw : Bool) (p a b : Nat) (w : World) (h : MissAt w v l) (hl : l.length ≤ 100000) (hab : a = b) :
    Calls Tryd.prog 31 #[v, .bool sw, .int .i64 p, .int .i64 a, .int .i64 b] w fun e w' => e = .returned (.bool (decide ((sw, p, a, a) ∈ l))) ∧ Below w.heap.size w w' := by
  obtain ⟨q, c, rfl, hc⟩ := h
  subst hab
  have HC := Lib.hid hc
  clear hc
  obtain ⟨n, hn⟩ : ∃ n, l.length = n := ⟨_, rfl⟩
  rw [hn] at hl ⊢
  have HN := Lib.hid hn
  clear hn
  go_enter Tryd.func31, Tryd.ntmps31
  go_wp2
  go_loopw [15] (fun iv wr => ∃ j : Nat, iv = .int .i64 j ∧ j ≤ n ∧ Hid (∀ j' : Nat, j' < j → l[j']? ≠ some (sw, p, a, a)) ∧ Below w.heap.size w wr)
    (fun iv _ => n - (intOf iv).toNat)
  case atStart => exact ⟨0, rfl, by omega, Lib.hid fun j' hj' => by omega, Below.refl _ w⟩
  case round =>
    obtain ⟨j, rfl, hj, hno, hY⟩ := hrel
    by_cases hjn : j < n
    · have hjni : (j : Int) < (n : Int) := by omega
      have hjwr : IntKind.i64.wrap ((j : Int) + 1) = (j : Int) + 1 := by rw [IntKind.wrap_i64]; omega
      obtain ⟨x, hx⟩ : ∃ x, l[j]? = some x := ⟨_, List.getElem?_eq_getElem (by rw [HN.out]; exact hjn)⟩
      have hg : ∃ g, q = some ⟨g, 0, none⟩ ∧ g < w.heap.size ∧ w.cell? ⟨g, j * 4, none⟩ = some (.bool x.1) ∧ w.cell? ⟨g, j * 4 + 1, none⟩ = some (.int .i64 (x.2.1 : Int)) ∧ w.cell? ⟨g, j * 4 + 2, none⟩ = some (.int .i64 (x.2.2.1 : Int)) ∧ w.cell? ⟨g, j * 4 + 3, none⟩ = some (.int .i64 (x.2.2.2 : Int)) := by
        rcases HC.out with h0 | ⟨g, hq, hg, hc⟩
        · rw [h0] at hx; cases hx
        · exact ⟨g, hq, hg, hc j x hx⟩
      obtain ⟨g, rfl, hgl, c0, c1, c2, c3⟩ := hg
      obtain ⟨x1, x2, x3, x4⟩ := x
      have c0 := (hY.cell (p := ⟨g, j * 4, none⟩) hgl).trans c0
      have c1 := (hY.cell (p := ⟨g, j * 4 + 1, none⟩) hgl).trans c1
      have c2 := (hY.cell (p := ⟨g, j * 4 + 2, none⟩) hgl).trans c2
      have c3 := (hY.cell (p := ⟨g, j * 4 + 3, none⟩) hgl).trans c3
      have HX := Lib.hid hx
      clear hx
      by_cases he : (x1, x2, x3, x4) = (sw, p, a, a)
      · simp only [Prod.mk.injEq] at he
        obtain ⟨rfl, rfl, e3, e4⟩ := he
        subst x3
        subst x4
        go_wp2
        go_ret
        exact ⟨by rw [decide_eq_true (List.mem_of_getElem? HX.out)]; rfl, hY.alloc hY.size _⟩
      · have hno2 : Hid (∀ j' : Nat, j' < j + 1 → l[j']? ≠ some (sw, p, a, a)) := Lib.hid fun j' hj' e => by
          by_cases hjj : j' = j
          · subst hjj
            rw [HX.out] at e
            exact he (Option.some.inj e)
          · exact hno.out j' (by omega) e
        have HE := Lib.hid he
        clear he
        by_cases h1 : x1 = sw
        · subst h1
          by_cases h2 : x2 = p
          · subst h2
            by_cases h3 : x3 = a
            · subst x3
              by_cases h4 : x4 = a
              · subst x4; exact absurd rfl HE.out
              · have h4i : ¬ (x4 : Int) = (a : Int) := by omega
                have h4b : ((x4 : Int) == (a : Int)) = false := by rw [beq_eq_false_iff_ne]; exact h4i
                go_wp2
                go_roundw
                case rel => exact ⟨j + 1, by go_num, by omega, hno2, hY.alloc hY.size _⟩
                case measure => simp [intOf] <;> omega
            · have h3i : ¬ (x3 : Int) = (a : Int) := by omega
              have h3b : ((x3 : Int) == (a : Int)) = false := by rw [beq_eq_false_iff_ne]; exact h3i
              go_wp2
              go_roundw
              case rel => exact ⟨j + 1, by go_num, by omega, hno2, hY.alloc hY.size _⟩
              case measure => simp [intOf] <;> omega
          · have h2i : ¬ (x2 : Int) = (p : Int) := by omega
            have h2b : ((x2 : Int) == (p : Int)) = false := by rw [beq_eq_false_iff_ne]; exact h2i
            go_wp2
            go_roundw
            case rel => exact ⟨j + 1, by go_num, by omega, hno2, hY.alloc hY.size _⟩
            case measure => simp [intOf] <;> omega
        · have h1b : (x1 == sw) = false := by rw [beq_eq_false_iff_ne]; exact h1
          go_wp2
          go_roundw
          case rel => exact ⟨j + 1, by go_num, by omega, hno2, hY.alloc hY.size _⟩
          case measure => simp [intOf] <;> omega
    · have hjni : ¬ (j : Int) < (n : Int) := by omega
      go_wp2
      go_ret
      refine ⟨?_, hY⟩
      rw [decide_eq_false (fun hm => by
        obtain ⟨j', hj', e⟩ := List.getElem_of_mem hm
        exact hno.out j' (by rw [HN.out] at hj'; omega) (by rw [List.getElem?_eq_getElem hj', e]))]
      rfl
theorem has_any (l : List Miss4) (v : Value) (sw : Bool) (p a b : Nat) (w : World) (h : MissAt w v l) (hl : l.length ≤ 100000) :
    Calls Tryd.prog 31 #[v, .bool sw, .int .i64 p, .int .i64 a, .int .i64 b] w fun e w' => e = .returned (.bool (decide ((sw, p, min a b, max a b) ∈ l))) ∧ Below w.heap.size w w' := by
  rcases Nat.lt_trichotomy a b with hab | hab | hab
  · rw [Nat.min_eq_left (by omega), Nat.max_eq_right (by omega)]; exact has_lt l v sw p a b w h hl hab
  · rw [Nat.min_eq_left (by omega), Nat.max_eq_left (by omega)]; exact has_eq l v sw p a b w h hl hab
  · rw [Nat.min_eq_right (by omega), Nat.max_eq_left (by omega)]; exact has_gt l v sw p a b w h hl hab
end Go.Proofs.YtnmnfbibjghjhaaDoor
