/-
  The walk of anyOne.
-/
import Derived.Test.YtnmnfbibjghjhaaDoorDm
namespace Go.Proofs.YtnmnfbibjghjhaaDoor
open Go.RowKit Dig

set_option maxHeartbeats 4000000 in
theorem anyone_any (kd : Int) (l : List Nat) (v : Value) (w : World) (h : ByteSrc w v l) (hk0 : 0 ≤ kd) (hk1 : kd < 256) :
    Calls Tryd.prog 12 #[.int .u8 kd, v] w fun e w' => ∃ (k : Nat) (ws : List Nat) (p : Option Addr) (c : Nat), SysOk k ws ∧ e = .returned (.agg #[.int .u8 k, .slice p ws.length c]) ∧ NatRow w' (.slice p ws.length c) ws ∧ Below w.heap.size w w' := by
  have HS := Lib.hid h
  obtain ⟨_, pp, cap, rfl, _⟩ := h
  have x0 : BlockAt (w.alloc (.cells #[.int .u8 0, .slice none 0 0] 25)) w.heap.size #[.int .u8 0, .slice none 0 0] 25 := BlockAt.new w _ 25
  have hX : Below w.heap.size w (w.alloc (.cells #[.int .u8 0, .slice none 0 0] 25)) := (Below.refl _ w).alloc (Nat.le_refl _) _
  rcases (by omega : kd % 4 = 0 ∨ kd % 4 = 1 ∨ kd % 4 = 2 ∨ kd % 4 = 3) with h4 | h4 | h4 | h4
  · go_enter Tryd.func12, Tryd.ntmps12
    go_wp2
    refine bodyPost_ret (results_cell_row Tryd.results12 _ _ _ _ _ _ _ rfl (BlockAt.new w #[.int .u8 3, .slice none 0 0] 25) Tryd.underlying25 rfl (by kernel_rfl)) rfl ?_
    exact ⟨3, [], none, 0, .inl ⟨.inl rfl, rfl⟩, rfl, NatRow.nil _, (Below.refl _ w).alloc (Nat.le_refl _) _⟩
  · go_enter Tryd.func12, Tryd.ntmps12
    go_wp2
    refine bodyPost_ret (results_cell_row Tryd.results12 _ _ _ _ _ _ _ rfl (BlockAt.new w #[.int .u8 4, .slice none 0 0] 25) Tryd.underlying25 rfl (by kernel_rfl)) rfl ?_
    exact ⟨4, [], none, 0, .inl ⟨.inr rfl, rfl⟩, rfl, NatRow.nil _, (Below.refl _ w).alloc (Nat.le_refl _) _⟩
  · go_enter Tryd.func12, Tryd.ntmps12
    go_wp2_with fail
    refine (weighted_sys true l _ _ (HS.out.below (Nat.le_refl _) hX)).mono ?_
    rintro e w1 ⟨wv, rfl, hN, hb1⟩
    obtain ⟨p, c, rfl⟩ := ownsRow_form hN
    have HN := Lib.hid hN
    have y0 := x0.below hb1
    have hvb := Lib.hid (y0.not_row (by decide) hN)
    clear hN
    have hok := Lib.hid (weightsOf_ok true l)
    obtain ⟨ws, hws⟩ : ∃ ws, weightsOf true l = ws := ⟨_, rfl⟩
    rw [hws] at HN hok hvb ⊢
    have hke : kindOf true = 2 := rfl
    rw [hke] at hok ⊢
    clear hke hws
    have hB1 := hX.trans (hb1.mono (by simp))
    obtain ⟨q0, q1, q2, q3⟩ := y0.two
    have v0 := y0.lt
    go_wp2
    refine bodyPost_ret (results_cell_row Tryd.results12 _ _ _ _ _ _ _ rfl ((y0.set20 (.int .u8 2)).set21 (.slice p ws.length c)) Tryd.underlying25 rfl (by kernel_rfl)) rfl ?_
    exact ⟨2, ws, p, c, hok.out, rfl, NatRow.of_owns (ownsRow_setCell_other (ownsRow_setCell_other HN.out (by intro e; exact hvb.out e.symm) _) (by intro e; exact hvb.out e.symm) _), (hB1.setCell (Nat.le_refl _) _).setCell (Nat.le_refl _) _⟩
  · go_enter Tryd.func12, Tryd.ntmps12
    go_wp2_with fail
    refine (weighted_sys false l _ _ (HS.out.below (Nat.le_refl _) hX)).mono ?_
    rintro e w1 ⟨wv, rfl, hN, hb1⟩
    obtain ⟨p, c, rfl⟩ := ownsRow_form hN
    have HN := Lib.hid hN
    have y0 := x0.below hb1
    have hvb := Lib.hid (y0.not_row (by decide) hN)
    clear hN
    have hok := Lib.hid (weightsOf_ok false l)
    obtain ⟨ws, hws⟩ : ∃ ws, weightsOf false l = ws := ⟨_, rfl⟩
    rw [hws] at HN hok hvb ⊢
    have hke : kindOf false = 1 := rfl
    rw [hke] at hok ⊢
    clear hke hws
    have hB1 := hX.trans (hb1.mono (by simp))
    obtain ⟨q0, q1, q2, q3⟩ := y0.two
    have v0 := y0.lt
    go_wp2
    refine bodyPost_ret (results_cell_row Tryd.results12 _ _ _ _ _ _ _ rfl ((y0.set20 (.int .u8 1)).set21 (.slice p ws.length c)) Tryd.underlying25 rfl (by kernel_rfl)) rfl ?_
    exact ⟨1, ws, p, c, hok.out, rfl, NatRow.of_owns (ownsRow_setCell_other (ownsRow_setCell_other HN.out (by intro e; exact hvb.out e.symm) _) (by intro e; exact hvb.out e.symm) _), (hB1.setCell (Nat.le_refl _) _).setCell (Nat.le_refl _) _⟩
end Go.Proofs.YtnmnfbibjghjhaaDoor
