/-
  The walk of anyOne again, with more said of the weights; a law of append at a nil source in a region that draws.
-/
import Derived.Deep.AppendLies
import Derived.Laws.OwnMore
import Derived.Test.YtnmnfbibjghjhaaDoorDn
namespace Go.Proofs.YtnmnfbibjghjhaaDoor
open Go.RowKit Dig

/-- 'append(buf, xs...)' at a step of a region that draws, xs nil. -/
theorem step_append_nil {P : Program} {w : World} {ops : Array Oper} {o : Oper} {a : Act} {K : Act → World → Prop} {Q : Exit → Act → World → Prop} {E : Prop} (hgd : o.guard = none) (s x : Operand) (t : TypeId)
    (ho : o.op = .call { callee := .builtin .append, args := #[s, x], argTypes := #[t, t] })
    (base : Nat) (e : TypeId) (i : TypeInfo) (size : Nat) (ht : P.underlying t = some (.slice e)) (hi : P.info? e = some i)
    (v : Value) (n : Nat) (xs : List Value) (hs : a.eval s = v) (hown : w.ownsRow base e size v n xs) (hx : a.eval x = .slice none 0 0)
    (h : K (a.put o.dst v) w) : if Region.wanted o (yielded ops a.tmps) = true then Oper.wp P o a w K Q else E := by
  have hw : Region.wanted o (yielded ops a.tmps) = true := by simp [Region.wanted, hgd]
  rw [if_pos hw]
  have hrun := run_append_owned_none (P := P) (w := w) base t o.type e i size ht hi v n xs hown
  unfold Oper.wp
  simp [execOp, ho, resolve, invoke, builtin, hs, hx, hrun, Result.andThen]
  exact h

/-- A slice of numbers that may be read as a whole. -/
def NatSrc (W : World) (v : Value) (vs : List Nat) : Prop := (v = .slice none 0 0 ∧ vs = []) ∨ ∃ g c, v = .slice (some ⟨g, 0, none⟩) vs.length c ∧ g < W.heap.size ∧ vs ≠ [] ∧ ∀ j x : Nat, vs[j]? = some x → W.cell? ⟨g, j, none⟩ = some (.int .i64 (x : Int))
theorem NatSrc.row {W : World} {v : Value} {vs : List Nat} (h : NatSrc W v vs) : NatRow W v vs := by
  rcases h with ⟨rfl, rfl⟩ | ⟨g, c, rfl, hl, _, hc⟩
  · exact NatRow.nil W
  · exact ⟨_, c, rfl, .inr ⟨g, 0, rfl, hl, fun k x hx => by rw [Nat.zero_add]; exact hc k x hx⟩⟩
theorem NatSrc.of_owns {W : World} {base n : Nat} {v : Value} {vs : List Nat} (h : W.ownsRow base 3 1 v n (natCells vs)) (hne : vs ≠ []) : NatSrc W v vs := by
  have hn : n = vs.length := by have := h.1; simpa [natCells] using this.symm
  subst hn
  obtain ⟨g, c, rfl, _⟩ := ownsRow_pos h (List.length_pos_iff.2 hne)
  refine .inr ⟨g, c, rfl, (h.lt g rfl).2, hne, fun j x hx => ?_⟩
  have := h.cells (g := g) rfl j (.int .i64 x) (by simp [natCells, hx])
  rwa [addr_add, Nat.zero_add] at this
theorem weightsOf_ne (e : Bool) (l : List Nat) : weightsOf e l ≠ [] := by
  have h := weightsOf_ok e l
  intro h0
  rw [h0] at h
  rcases h with ⟨h, _⟩ | ⟨_, h, _⟩
  · cases e <;> simp [kindOf] at h
  · simp at h

set_option maxHeartbeats 4000000 in
theorem anyone2_any (kd : Int) (l : List Nat) (v : Value) (w : World) (h : ByteSrc w v l) (hk0 : 0 ≤ kd) (hk1 : kd < 256) :
    Calls Tryd.prog 12 #[.int .u8 kd, v] w fun e w' => ∃ (k : Nat) (ws : List Nat) (p : Option Addr) (c : Nat), SysOk k ws ∧ e = .returned (.agg #[.int .u8 k, .slice p ws.length c]) ∧ NatSrc w' (.slice p ws.length c) ws ∧ Below w.heap.size w w' := by
  have HS := Lib.hid h
  obtain ⟨_, pp, cap, rfl, _⟩ := h
  have x0 : BlockAt (w.alloc (.cells #[.int .u8 0, .slice none 0 0] 25)) w.heap.size #[.int .u8 0, .slice none 0 0] 25 := BlockAt.new w _ 25
  have hX : Below w.heap.size w (w.alloc (.cells #[.int .u8 0, .slice none 0 0] 25)) := (Below.refl _ w).alloc (Nat.le_refl _) _
  rcases (by omega : kd % 4 = 0 ∨ kd % 4 = 1 ∨ kd % 4 = 2 ∨ kd % 4 = 3) with h4 | h4 | h4 | h4
  · go_enter Tryd.func12, Tryd.ntmps12
    go_wp2
    refine bodyPost_ret (results_cell_row Tryd.results12 _ _ _ _ _ _ _ rfl (BlockAt.new w #[.int .u8 3, .slice none 0 0] 25) Tryd.underlying25 rfl (by kernel_rfl)) rfl ?_
    exact ⟨3, [], none, 0, .inl ⟨.inl rfl, rfl⟩, rfl, .inl ⟨rfl, rfl⟩, (Below.refl _ w).alloc (Nat.le_refl _) _⟩
  · go_enter Tryd.func12, Tryd.ntmps12
    go_wp2
    refine bodyPost_ret (results_cell_row Tryd.results12 _ _ _ _ _ _ _ rfl (BlockAt.new w #[.int .u8 4, .slice none 0 0] 25) Tryd.underlying25 rfl (by kernel_rfl)) rfl ?_
    exact ⟨4, [], none, 0, .inl ⟨.inr rfl, rfl⟩, rfl, .inl ⟨rfl, rfl⟩, (Below.refl _ w).alloc (Nat.le_refl _) _⟩
  · go_enter Tryd.func12, Tryd.ntmps12
    go_wp2_with fail
    refine (weighted_sys true l _ _ (HS.out.below (Nat.le_refl _) hX)).mono ?_
    rintro e w1 ⟨wv, rfl, hN, hb1⟩
    obtain ⟨p, c, rfl⟩ := ownsRow_form hN
    have HN := Lib.hid hN
    have y0 := x0.below hb1
    have hvb := Lib.hid (y0.not_row (by decide) hN)
    clear hN
    have hok := Lib.hid (weightsOf_ok true l)
    have hwne := Lib.hid (weightsOf_ne true l)
    obtain ⟨ws, hws⟩ : ∃ ws, weightsOf true l = ws := ⟨_, rfl⟩
    rw [hws] at HN hok hvb hwne ⊢
    have hke : kindOf true = 2 := rfl
    rw [hke] at hok ⊢
    clear hke hws
    have hB1 := hX.trans (hb1.mono (by simp))
    obtain ⟨q0, q1, q2, q3⟩ := y0.two
    have v0 := y0.lt
    go_wp2
    refine bodyPost_ret (results_cell_row Tryd.results12 _ _ _ _ _ _ _ rfl ((y0.set20 (.int .u8 2)).set21 (.slice p ws.length c)) Tryd.underlying25 rfl (by kernel_rfl)) rfl ?_
    exact ⟨2, ws, p, c, hok.out, rfl, NatSrc.of_owns (ownsRow_setCell_other (ownsRow_setCell_other HN.out (by intro e; exact hvb.out e.symm) _) (by intro e; exact hvb.out e.symm) _) hwne.out, (hB1.setCell (Nat.le_refl _) _).setCell (Nat.le_refl _) _⟩
  · go_enter Tryd.func12, Tryd.ntmps12
    go_wp2_with fail
    refine (weighted_sys false l _ _ (HS.out.below (Nat.le_refl _) hX)).mono ?_
    rintro e w1 ⟨wv, rfl, hN, hb1⟩
    obtain ⟨p, c, rfl⟩ := ownsRow_form hN
    have HN := Lib.hid hN
    have y0 := x0.below hb1
    have hvb := Lib.hid (y0.not_row (by decide) hN)
    clear hN
    have hok := Lib.hid (weightsOf_ok false l)
    have hwne := Lib.hid (weightsOf_ne false l)
    obtain ⟨ws, hws⟩ : ∃ ws, weightsOf false l = ws := ⟨_, rfl⟩
    rw [hws] at HN hok hvb hwne ⊢
    have hke : kindOf false = 1 := rfl
    rw [hke] at hok ⊢
    clear hke hws
    have hB1 := hX.trans (hb1.mono (by simp))
    obtain ⟨q0, q1, q2, q3⟩ := y0.two
    have v0 := y0.lt
    go_wp2
    refine bodyPost_ret (results_cell_row Tryd.results12 _ _ _ _ _ _ _ rfl ((y0.set20 (.int .u8 1)).set21 (.slice p ws.length c)) Tryd.underlying25 rfl (by kernel_rfl)) rfl ?_
    exact ⟨1, ws, p, c, hok.out, rfl, NatSrc.of_owns (ownsRow_setCell_other (ownsRow_setCell_other HN.out (by intro e; exact hvb.out e.symm) _) (by intro e; exact hvb.out e.symm) _) hwne.out, (hB1.setCell (Nat.le_refl _) _).setCell (Nat.le_refl _) _⟩
end Go.Proofs.YtnmnfbibjghjhaaDoor
