/-
  The walk of DigitMisses.
-/
import Derived.Test.YtnmnfbibjghjhaaDoorEg
import Derived.Test.YtnmnfbibjghjhaaDoorEm
namespace Go.Proofs.YtnmnfbibjghjhaaDoor
open Go.RowKit Dig

/-- What Misses lists, right or not. -/
def mOut (k : Nat) (ws : List Int) (N : Int) : List Miss4 := if missErr k ws N = 0 then missList k (natsOf ws) N.toNat else []
theorem mOut_len (k : Nat) (ws : List Int) (N : Int) : (mOut k ws N).length ≤ 100000 := by
  unfold mOut
  split
  · rename_i h
    refine miss_len _ _ _ ?_
    unfold missErr at h
    split at h
    · cases h
    · split at h
      · cases h
      · omega
  · simp
theorem rmisses2 (k : Nat) (ws : List Int) (v : Value) (N : Int) (w : World) (hr : IntRow w v ws) :
    Calls Tryd.prog 24 #[.int .u8 k, v, .int .i64 N] w fun e w' => ∃ p c, e = .returned (.tuple #[.slice p (mOut k ws N).length c, .int .i64 (missErr k ws N : Nat)]) ∧ MissAt w' (.slice p (mOut k ws N).length c) (mOut k ws N) ∧ Below w.heap.size w w' := by
  refine (rmisses_any k ws v N w hr).mono ?_
  rintro e w' ⟨hc, hb⟩
  rcases hc with ⟨h0, v', rfl, ho⟩ | ⟨h0, rfl⟩
  · have hm : mOut k ws N = missList k (natsOf ws) N.toNat := if_pos h0
    rw [← hm] at ho
    obtain ⟨p, c, rfl⟩ := ownsRow_form ho
    refine ⟨p, c, by rw [h0]; rfl, ?_, hb⟩
    by_cases hl : mOut k ws N = []
    · exact ⟨p, c, rfl, .inl hl⟩
    · obtain ⟨g, c', he, _⟩ := ownsRow_pos ho (List.length_pos_iff.2 hl)
      simp only [Value.slice.injEq, true_and] at he
      obtain ⟨rfl, rfl⟩ := he
      refine ⟨_, c, rfl, .inr ⟨g, rfl, (ho.lt g rfl).2, fun j x hx => ?_⟩⟩
      have key := fun r hr => miss_get _ j x hx r hr
      have cell : ∀ r v, (missCells (mOut k ws N))[j * 4 + r]? = some v → w'.cell? ⟨g, j * 4 + r, none⟩ = some v := fun r v e => by
        have := ho.cells (g := g) rfl (j * 4 + r) v e
        rw [addr_add, Nat.zero_add] at this
        exact this
      exact ⟨cell 0 _ (key 0 (by decide)), cell 1 _ (key 1 (by decide)), cell 2 _ (key 2 (by decide)), cell 3 _ (key 3 (by decide))⟩
  · have hm : mOut k ws N = [] := if_neg h0
    rw [hm]
    exact ⟨none, 0, rfl, ⟨none, 0, rfl, .inl rfl⟩, hb⟩
theorem misses2 (k : Nat) (ws : List Int) (v : Value) (N : Int) (w : World) (hs : SysIn w k ws v) :
    Calls Tryd.prog 21 #[.agg #[.int .u8 k, v], .int .i64 N] w fun e w' => ∃ p c, e = .returned (.tuple #[.slice p (mOut k ws N).length c, .int .i64 (missErr k ws N : Nat)]) ∧ MissAt w' (.slice p (mOut k ws N).length c) (mOut k ws N) ∧ ((mOut k ws N).length = 0 ∨ ∃ g, p = some ⟨g, 0, none⟩ ∧ w.heap.size ≤ g ∧ FreeRow w' g ((mOut k ws N).length * 4)) ∧ Below w.heap.size w w' := by
  refine (misses_any k ws v N w hs).mono ?_
  rintro e w' ⟨hc, hb⟩
  rcases hc with ⟨h0, v', rfl, ho⟩ | ⟨h0, rfl⟩
  · have hm : mOut k ws N = missList k (natsOf ws) N.toNat := if_pos h0
    rw [← hm] at ho
    obtain ⟨p, c, rfl⟩ := ownsRow_form ho
    refine ⟨p, c, by rw [h0]; rfl, MissAt.of_owns ho, ?_, hb⟩
    by_cases hl : (mOut k ws N).length = 0
    · exact .inl hl
    · obtain ⟨g, c', he, hbg⟩ := ownsRow_pos ho (by omega)
      simp only [Value.slice.injEq, true_and] at he
      obtain ⟨rfl, rfl⟩ := he
      exact .inr ⟨g, rfl, hbg, FreeRow.of_owns ho⟩
  · have hm : mOut k ws N = [] := if_neg h0
    rw [hm]
    exact ⟨none, 0, rfl, ⟨none, 0, rfl, .inl rfl⟩, .inl rfl, hb⟩

set_option maxRecDepth 100000 in
set_option maxHeartbeats 16000000 in
theorem digitmisses_any (k : Nat) (ws : List Int) (v : Value) (Z : Int) (w : World) (hs : IntSrc w v ws) (ht : Tabs w) :
    Calls Tryd.prog 5 #[.agg #[.int .u8 k, v], .int .i64 Z] w fun e w' => e = .returned (.bool true) ∧ Below w.heap.size w w' := by
  have hrow := hs.row
  obtain ⟨p, c, rfl, _⟩ := hrow
  have HS := Lib.hid hs
  have HT := Lib.hid ht
  obtain ⟨n, hn⟩ : ∃ n, ws.length = n := ⟨_, rfl⟩
  rw [hn] at HS ⊢
  have HN := Lib.hid hn
  clear hs ht hn
  have x0 : BlockAt (w.alloc (.cells #[.int .u8 k, .slice p n c] 25)) w.heap.size #[.int .u8 k, .slice p n c] 25 := BlockAt.new w _ 25
  have hY : Below w.heap.size w (w.alloc (.cells #[.int .u8 k, .slice p n c] 25)) := (Below.refl _ w).alloc (Nat.le_refl _) _
  by_cases h20 : 20 < n
  · have h20i : (20 : Int) < (n : Int) := by omega
    go_enter Tryd.func5, Tryd.ntmps5
    go_wp2_with fail
    refine (dawake_any _ (HT.out.below (Nat.le_refl _) hY)).mono ?_
    rintro e w1 ⟨rfl, hb1⟩
    go_wp2
    go_ret
    exact ⟨rfl, hY.trans (hb1.mono hY.size)⟩
  · have h20i : (n : Int) ≤ 20 := by omega
    have h20j : ¬ (20 : Int) < (n : Int) := by omega
    go_enter Tryd.func5, Tryd.ntmps5
    go_wp2_with fail
    have hlent := lent_any ws (.slice p n c) _ (HS.out.below (Nat.le_refl _) hY) (by rw [HN.out]; omega)
    rw [HN.out] at hlent
    refine hlent.mono ?_
    rintro e w1 ⟨g, cap, rfl, hcap, ho, hb1⟩
    have x1 := x0.below hb1
    have hY1 := hY.trans (hb1.mono hY.size)
    have hgb : w.heap.size < g := by
      have := (ho.lt g rfl).1
      simp at this
      omega
    have hgl := (ho.lt g rfl).2
    have hcg : ∀ (j : Nat) (x : Int), (ws ++ marks 12)[j]? = some x → w1.cell? ⟨g, j, none⟩ = some (.int .i64 x) := fun j x hx => by
      have := ho.cells (g := g) rfl j (.int .i64 x) (by unfold intCells; rw [List.getElem?_map, hx]; rfl)
      rwa [addr_add, Nat.zero_add] at this
    have HCG := Lib.hid hcg
    clear x0 hY hb1 ho hcg hlent
    obtain ⟨p0, p1, _, _⟩ := x1.two
    have v0 := x1.lt
    go_upto_region 5 with fail
    have x2 := x1.set21 (.slice (some ⟨g, 0, none⟩) n cap)
    have hY2 : Below w.heap.size w (w1.setCell ⟨w.heap.size, 1, none⟩ (.slice (some ⟨g, 0, none⟩) n cap)) := hY1.setCell (Nat.le_refl _) _
    have hsz2 : (w1.setCell ⟨w.heap.size, 1, none⟩ (.slice (some ⟨g, 0, none⟩) n cap)).heap.size = w1.heap.size := by simp
    have hcg2 : ∀ (j : Nat) (x : Int), (ws ++ marks 12)[j]? = some x → (w1.setCell ⟨w.heap.size, 1, none⟩ (.slice (some ⟨g, 0, none⟩) n cap)).cell? ⟨g, j, none⟩ = some (.int .i64 x) := fun j x hx => by
      have hne : (⟨w.heap.size, 1, none⟩ : Addr) ≠ ⟨g, j, none⟩ := by
        intro e
        have : w.heap.size = g := congrArg Addr.block e
        omega
      refine Eq.trans ?_ (HCG.out j x hx)
      first | exact World.cell?_setCell_other _ _ _ hne | exact World.cell?_setCell_other _ hne | exact World.cell?_setCell_other _ _ hne | exact World.cell?_setCell_other _ _ _ _ hne
    obtain ⟨W0, hW0⟩ : ∃ W0, w1.setCell ⟨w.heap.size, 1, none⟩ (.slice (some ⟨g, 0, none⟩) n cap) = W0 := ⟨_, rfl⟩
    rw [hW0] at x2 hY2 hsz2 hcg2 ⊢
    have hgl2 : g < W0.heap.size := by omega
    have hsys : ∀ W' : World, Below W0.heap.size W0 W' → SysIn W' k ws (.slice (some ⟨g, 0, none⟩) n cap) ∧ IntRow W' (.slice p n c) ws ∧ ∀ (j : Nat) (x : Int), (ws ++ marks 12)[j]? = some x → W'.cell? ⟨g, j, none⟩ = some (.int .i64 x) := fun W' h => by
      have hcells : ∀ (j : Nat) (x : Int), (ws ++ marks 12)[j]? = some x → W'.cell? ⟨g, j, none⟩ = some (.int .i64 x) := fun j x hx => (h.cell (p := ⟨g, j, none⟩) hgl2).trans (hcg2 j x hx)
      have hYW : Below w.heap.size w W' := hY2.trans (h.mono hY2.size)
      refine ⟨⟨⟨some ⟨g, 0, none⟩, cap, by rw [HN.out], .inr ⟨g, 0, rfl, Nat.lt_of_lt_of_le hgl2 h.size, fun j x hx => ?_⟩⟩, HT.out.below (Nat.le_refl _) hYW⟩, (HS.out.below (Nat.le_refl _) hYW).row, hcells⟩
      rw [Nat.zero_add]
      exact hcells j x (by rw [List.getElem?_append_left (List.getElem?_eq_some_iff.1 hx).1]; exact hx)
    have HSY := Lib.hid hsys
    have HZY := Lib.hid hY2
    obtain ⟨R, hR⟩ : ∃ R, rightB k ws = R := ⟨_, rfl⟩
    have HR := Lib.hid hR
    have z0 := Below.refl W0.heap.size W0
    have hcapi : n + 12 ≤ cap := hcap
    clear hsys hcg2 hW0 x1 hY1 p0 p1 v0 hR hgl hsz2 hY2
    obtain ⟨p0, p1, _, _⟩ := x2.two
    clear p0 p1
    have HXB := Lib.hid x2
    obtain ⟨L, hL⟩ : ∃ L, mOut k ws Z = L := ⟨_, rfl⟩
    have hLn := mOut_len k ws Z
    rw [hL] at hLn
    obtain ⟨m, hm⟩ : ∃ m, L.length = m := ⟨_, rfl⟩
    obtain ⟨E, hE⟩ : ∃ E, missErr k ws Z = E := ⟨_, rfl⟩
    have HLN := Lib.hid hLn
    have HL := Lib.hid hL
    have HM := Lib.hid hm
    have HE := Lib.hid hE
    clear x2 hLn hL hm hE
    obtain ⟨p0, p1, _, _⟩ := (HXB.out.below z0).two
    have v0 := (HXB.out.below z0).lt
    go_wp2_with fail
    have hrm := rmisses2 k ws _ Z W0 (HSY.out _ z0).1.row
    rw [HL.out, HM.out, HE.out] at hrm
    refine hrm.mono ?_
    rintro e w3 ⟨pb, cb, rfl, hmb, hb3⟩
    have z3 := z0.trans hb3
    have HMB := Lib.hid hmb
    clear hrm hmb p0 p1 v0 z0
    obtain ⟨p0, p1, _, _⟩ := (HXB.out.below z3).two
    have v0 := (HXB.out.below z3).lt
    go_wp2_with fail
    have hpm := misses2 k ws _ Z w3 (HSY.out _ z3).1
    rw [HL.out, HM.out, HE.out] at hpm
    refine hpm.mono ?_
    rintro e w4 ⟨pa, ca, rfl, hma, hfree, hb4⟩
    have HMA := Lib.hid hma
    have HFR := Lib.hid hfree
    clear hpm hma hfree p0 p1 v0
    go_wp2_with fail
    refine (listed_any L _ _ w4 HMA.out (HMB.out.below (Nat.le_refl _) hb4) HLN.out).mono ?_
    rintro e w5 ⟨rfl, hb5⟩
    have u5 := hb4.trans (hb5.mono hb4.size)
    have hfr5 : m = 0 ∨ ∃ g, pa = some ⟨g, 0, none⟩ ∧ w3.heap.size ≤ g ∧ FreeRow w5 g (m * 4) := HFR.out.imp id (fun ⟨g, h1, h2, h3⟩ => ⟨g, h1, h2, h3.below (Nat.le_refl _) hb5⟩)
    have HF5 := Lib.hid hfr5
    clear hfr5 hb4 hb5 HFR
    have hml : m ≤ 100000 := by rw [← HM.out]; exact HLN.out
    go_wp2_with fail
    go_loopw [48] (fun iv wr => ∃ i : Nat, iv = .int .i64 i ∧ i ≤ m ∧ Hid (m = 0 ∨ ∃ g, pa = some ⟨g, 0, none⟩ ∧ w3.heap.size ≤ g ∧ FreeRow wr g (m * 4)) ∧ Below w3.heap.size w3 wr)
      (fun iv _ => m - (intOf iv).toNat)
    case atStart => exact ⟨0, rfl, by omega, HF5, u5⟩
    case round =>
      clear u5 HF5
      obtain ⟨i, rfl, hi, hfr, hU⟩ := hrel
      have hwi : IntKind.i64.wrap ((i : Int) + 1) = (i : Int) + 1 := by rw [IntKind.wrap_i64]; omega
      by_cases him : i < m
      · have himi : (i : Int) < (m : Int) := by omega
        have hgx : ∃ g, pa = some ⟨g, 0, none⟩ ∧ w3.heap.size ≤ g ∧ FreeRow wr g (m * 4) := by
          rcases hfr.out with h | h
          · omega
          · exact h
        obtain ⟨ga, rfl, hga, hfw⟩ := hgx
        obtain ⟨q0, c0⟩ := hfw.cell (i * 4) (by omega)
        obtain ⟨q1, c1⟩ := hfw.cell (i * 4 + 1) (by omega)
        obtain ⟨q2, c2⟩ := hfw.cell (i * 4 + 2) (by omega)
        obtain ⟨q3, c3⟩ := hfw.cell (i * 4 + 3) (by omega)
        have f0 := hfw.open' (i * 4) (by omega)
        have f1 := hfw.open' (i * 4 + 1) (by omega)
        have f2 := hfw.open' (i * 4 + 2) (by omega)
        have f3 := hfw.open' (i * 4 + 3) (by omega)
        have vga := hfw.lt
        have HFW := Lib.hid hfw
        clear hfw hfr
        go_wp2
        go_roundw
        case rel => exact ⟨i + 1, by go_num, by omega, Lib.hid (.inr ⟨ga, rfl, hga, (((HFW.out.set _ _).set _ _).set _ _).set _ _⟩), (((hU.setCell (by show w3.heap.size ≤ ga; exact hga) _).setCell (by show w3.heap.size ≤ ga; exact hga) _).setCell (by show w3.heap.size ≤ ga; exact hga) _).setCell (by show w3.heap.size ≤ ga; exact hga) _⟩
        case measure => simp [intOf] <;> omega
      · have himi : ¬ (i : Int) < (m : Int) := by omega
        have z5 : Below W0.heap.size W0 wr := z3.trans (hU.mono z3.size)
        clear hfr
        obtain ⟨p0, p1, _, _⟩ := (HXB.out.below z5).two
        have v0 := (HXB.out.below z5).lt
        go_wp2_with fail
        have hpm := misses2 k ws _ Z wr (HSY.out _ z5).1
        rw [HL.out, HM.out, HE.out] at hpm
        refine hpm.mono ?_
        rintro e w6 ⟨pa2, ca2, rfl, hma, _, hb6⟩
        have HMA2 := Lib.hid hma
        have z6 := z5.trans (hb6.mono z5.size)
        have u6 := hU.trans (hb6.mono hU.size)
        clear hpm hma p0 p1 v0 hb6 hU z5
        go_wp2_with fail
        refine (dawake_any _ (HSY.out _ z6).1.tabs).mono ?_
        rintro e w7 ⟨rfl, hb7⟩
        have z7 := z6.trans (hb7.mono z6.size)
        have u7 := u6.trans (hb7.mono u6.size)
        have HMA3 := Lib.hid (HMA2.out.below (Nat.le_refl _) hb7)
        clear HMA2 hb7 z6 u6
        go_wp2_with fail
        refine (listed_any L _ _ w7 HMA3.out (HMB.out.below (Nat.le_refl _) u7) HLN.out).mono ?_
        rintro e w8 ⟨rfl, hb8⟩
        have z8 := z7.trans (hb8.mono z7.size)
        clear hb8 z7 u7
        obtain ⟨p0, p1, _, _⟩ := (HXB.out.below z8).two
        have v0 := (HXB.out.below z8).lt
        go_wp2_with fail
        refine (kept_any ws _ g n cap _ (HSY.out _ z8).2.1 HN.out (by omega) hcapi (Nat.lt_of_lt_of_le hgl2 z8.size) (HSY.out _ z8).2.2).mono ?_
        rintro e w9 ⟨rfl, hb9⟩
        have z9 := z8.trans (hb9.mono z8.size)
        clear hb9 z8 p0 p1 v0
        go_wp2
        go_ret
        exact ⟨rfl, HZY.out.trans (z9.mono HZY.out.size)⟩
end Go.Proofs.YtnmnfbibjghjhaaDoor
