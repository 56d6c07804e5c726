/-
  The walk of DigitTells.
-/
import Derived.Test.YtnmnfbibjghjhaaDoorEg
namespace Go.Proofs.YtnmnfbibjghjhaaDoor
open Go.RowKit Dig

set_option maxRecDepth 100000 in
set_option maxHeartbeats 16000000 in
theorem digittells_any (k : Nat) (ws : List Int) (v : Value) (s : ByteArray) (w : World) (hs : IntSrc w v ws) (ht : Tabs w) :
    Calls Tryd.prog 7 #[.agg #[.int .u8 k, v], .string s] w fun e w' => e = .returned (.bool true) ∧ Below w.heap.size w w' := by
  have hrow := hs.row
  obtain ⟨p, c, rfl, _⟩ := hrow
  have HS := Lib.hid hs
  have HT := Lib.hid ht
  obtain ⟨n, hn⟩ : ∃ n, ws.length = n := ⟨_, rfl⟩
  rw [hn] at HS ⊢
  have HN := Lib.hid hn
  clear hs ht hn
  have x0 : BlockAt (w.alloc (.cells #[.int .u8 k, .slice p n c] 25)) w.heap.size #[.int .u8 k, .slice p n c] 25 := BlockAt.new w _ 25
  have hY : Below w.heap.size w (w.alloc (.cells #[.int .u8 k, .slice p n c] 25)) := (Below.refl _ w).alloc (Nat.le_refl _) _
  by_cases h20 : 20 < n
  · have h20i : (20 : Int) < (n : Int) := by omega
    go_enter Tryd.func7, Tryd.ntmps7
    go_wp2_with fail
    refine (dawake_any _ (HT.out.below (Nat.le_refl _) hY)).mono ?_
    rintro e w1 ⟨rfl, hb1⟩
    go_wp2
    go_ret
    exact ⟨rfl, hY.trans (hb1.mono hY.size)⟩
  · have h20i : (n : Int) ≤ 20 := by omega
    have h20j : ¬ (20 : Int) < (n : Int) := by omega
    by_cases h100 : 100 < s.size
    · have h100i : (100 : Int) < (s.size : Int) := by omega
      go_enter Tryd.func7, Tryd.ntmps7
      go_wp2_with fail
      refine (dawake_any _ (HT.out.below (Nat.le_refl _) hY)).mono ?_
      rintro e w1 ⟨rfl, hb1⟩
      go_wp2
      go_ret
      exact ⟨rfl, hY.trans (hb1.mono hY.size)⟩
    · have h100i : (s.size : Int) ≤ 100 := by omega
      have h100j : ¬ (100 : Int) < (s.size : Int) := by omega
      go_enter Tryd.func7, Tryd.ntmps7
      go_wp2_with fail
      have hlent := lent_any ws (.slice p n c) _ (HS.out.below (Nat.le_refl _) hY) (by rw [HN.out]; omega)
      rw [HN.out] at hlent
      refine hlent.mono ?_
      rintro e w1 ⟨g, cap, rfl, hcap, ho, hb1⟩
      have x1 := x0.below hb1
      have hY1 := hY.trans (hb1.mono hY.size)
      have hgb : w.heap.size < g := by
        have := (ho.lt g rfl).1
        simp at this
        omega
      have hgl := (ho.lt g rfl).2
      have hcg : ∀ (j : Nat) (x : Int), (ws ++ marks 12)[j]? = some x → w1.cell? ⟨g, j, none⟩ = some (.int .i64 x) := fun j x hx => by
        have := ho.cells (g := g) rfl j (.int .i64 x) (by unfold intCells; rw [List.getElem?_map, hx]; rfl)
        rwa [addr_add, Nat.zero_add] at this
      have HCG := Lib.hid hcg
      clear x0 hY hb1 ho hcg hlent
      obtain ⟨p0, p1, _, _⟩ := x1.two
      have v0 := x1.lt
      go_upto_region 5 with fail
      have x2 := x1.set21 (.slice (some ⟨g, 0, none⟩) n cap)
      have hY2 : Below w.heap.size w (w1.setCell ⟨w.heap.size, 1, none⟩ (.slice (some ⟨g, 0, none⟩) n cap)) := hY1.setCell (Nat.le_refl _) _
      have hsz2 : (w1.setCell ⟨w.heap.size, 1, none⟩ (.slice (some ⟨g, 0, none⟩) n cap)).heap.size = w1.heap.size := by simp
      have hcg2 : ∀ (j : Nat) (x : Int), (ws ++ marks 12)[j]? = some x → (w1.setCell ⟨w.heap.size, 1, none⟩ (.slice (some ⟨g, 0, none⟩) n cap)).cell? ⟨g, j, none⟩ = some (.int .i64 x) := fun j x hx => by
        have hne : (⟨w.heap.size, 1, none⟩ : Addr) ≠ ⟨g, j, none⟩ := by
          intro e
          have : w.heap.size = g := congrArg Addr.block e
          omega
        refine Eq.trans ?_ (HCG.out j x hx)
        first | exact World.cell?_setCell_other _ _ _ hne | exact World.cell?_setCell_other _ hne | exact World.cell?_setCell_other _ _ hne | exact World.cell?_setCell_other _ _ _ _ hne
      obtain ⟨W0, hW0⟩ : ∃ W0, w1.setCell ⟨w.heap.size, 1, none⟩ (.slice (some ⟨g, 0, none⟩) n cap) = W0 := ⟨_, rfl⟩
      rw [hW0] at x2 hY2 hsz2 hcg2 ⊢
      have hgl2 : g < W0.heap.size := by omega
      have hsys : ∀ W' : World, Below W0.heap.size W0 W' → SysIn W' k ws (.slice (some ⟨g, 0, none⟩) n cap) ∧ IntRow W' (.slice p n c) ws ∧ ∀ (j : Nat) (x : Int), (ws ++ marks 12)[j]? = some x → W'.cell? ⟨g, j, none⟩ = some (.int .i64 x) := fun W' h => by
        have hcells : ∀ (j : Nat) (x : Int), (ws ++ marks 12)[j]? = some x → W'.cell? ⟨g, j, none⟩ = some (.int .i64 x) := fun j x hx => (h.cell (p := ⟨g, j, none⟩) hgl2).trans (hcg2 j x hx)
        have hYW : Below w.heap.size w W' := hY2.trans (h.mono hY2.size)
        refine ⟨⟨⟨some ⟨g, 0, none⟩, cap, by rw [HN.out], .inr ⟨g, 0, rfl, Nat.lt_of_lt_of_le hgl2 h.size, fun j x hx => ?_⟩⟩, HT.out.below (Nat.le_refl _) hYW⟩, (HS.out.below (Nat.le_refl _) hYW).row, hcells⟩
        rw [Nat.zero_add]
        exact hcells j x (by rw [List.getElem?_append_left (List.getElem?_eq_some_iff.1 hx).1]; exact hx)
      have HSY := Lib.hid hsys
      have HZY := Lib.hid hY2
      obtain ⟨R, hR⟩ : ∃ R, rightB k ws = R := ⟨_, rfl⟩
      have HR := Lib.hid hR
      have z0 := Below.refl W0.heap.size W0
      have hcapi : n + 12 ≤ cap := hcap
      clear hsys hcg2 hW0 x1 hY1 p0 p1 v0 hR hgl hsz2 hY2
      obtain ⟨p0, p1, _, _⟩ := x2.two
      go_region_held3 (fun w' => w'.cell? ⟨w.heap.size, 0, none⟩ = some (.int .u8 k) ∧ w'.cell? ⟨w.heap.size, 1, none⟩ = some (.slice (some ⟨g, 0, none⟩) n cap)) (go_keep)
        (first
          | (go_at_call 18; with_reducible refine (dawake_any _ (HSY.out _ z0.drew).1.tabs).mono ?_; rintro e w3 ⟨rfl, hb3⟩; have y3 : BlockAt w3 w.heap.size #[.int .u8 k, .slice (some ⟨g, 0, none⟩) n cap] 25 := BlockAt.below (by first | exact x2 | exact x2.drew) hb3; obtain ⟨a0, a1, _, _⟩ := y3.two; have z3 : Below W0.heap.size W0 w3 := (by first | exact below_after z0 z0.size hb3 | exact z0.trans (hb3.mono z0.size)))
          | (go_at_call 22; with_reducible refine (right_any k ws _ _ (HSY.out _ z3).1.row).mono ?_; rintro e w4 ⟨rfl, hb4⟩; rw [HR.out]; have y4 : BlockAt w4 w.heap.size #[.int .u8 k, .slice (some ⟨g, 0, none⟩) n cap] 25 := BlockAt.below (by first | exact y3 | exact y3.drew) hb4; obtain ⟨a0, a1, _, _⟩ := y4.two; have z4 : Below W0.heap.size W0 w4 := (by first | exact below_after z3 z3.size hb4 | exact z3.trans (hb4.mono z3.size)))
          | (go_at_call 27; with_reducible refine (rright_any k ws _ _ (HSY.out _ z4).1.row).mono ?_; rintro e w5 ⟨rfl, hb5⟩; rw [HR.out]; have y5 : BlockAt w5 w.heap.size #[.int .u8 k, .slice (some ⟨g, 0, none⟩) n cap] 25 := BlockAt.below (by first | exact y4 | exact y4.drew) hb5; obtain ⟨a0, a1, _, _⟩ := y5.two; have z5 : Below W0.heap.size W0 w5 := (by first | exact below_after z4 z4.size hb5 | exact z4.trans (hb5.mono z4.size)))
          | (go_at_call 28; with_reducible refine (texts_any k ws _ s _ (HSY.out _ z5).1 (by omega)).mono ?_; rintro e w6 ⟨rfl, hb6⟩; have y6 : BlockAt w6 w.heap.size #[.int .u8 k, .slice (some ⟨g, 0, none⟩) n cap] 25 := BlockAt.below (by first | exact y5 | exact y5.drew) hb6; obtain ⟨a0, a1, _, _⟩ := y6.two; have z6 : Below W0.heap.size W0 w6 := (by first | exact below_after z5 z5.size hb6 | exact z5.trans (hb6.mono z5.size)))
          | (go_at_call 26; with_reducible refine (kept_any ws _ g n cap _ (HSY.out _ z6).2.1 HN.out (by omega) hcapi (Nat.lt_of_lt_of_le hgl2 z6.size) (HSY.out _ z6).2.2).mono ?_; rintro e w7 ⟨rfl, hb7⟩; have y7 : BlockAt w7 w.heap.size #[.int .u8 k, .slice (some ⟨g, 0, none⟩) n cap] 25 := BlockAt.below (by first | exact y6 | exact y6.drew) hb7; obtain ⟨a0, a1, _, _⟩ := y7.two; have z7 : Below W0.heap.size W0 w7 := (by first | exact below_after z6 z6.size hb7 | exact z6.trans (hb7.mono z6.size)))
          | fail)
      all_goals
        go_wp2
        go_ret
        exact ⟨rfl, HZY.out.trans (z7.mono HZY.out.size)⟩
end Go.Proofs.YtnmnfbibjghjhaaDoor
