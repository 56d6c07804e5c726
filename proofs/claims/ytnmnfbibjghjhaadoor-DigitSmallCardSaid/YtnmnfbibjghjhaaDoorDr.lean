/-
  What every row of this seat wants: the two listed tables, read; an argument that is a slice of bytes, opened.
-/
import Derived.Test.YtnmnfbibjghjhaaDoorRows
import Derived.ProofKit
import Derived.LaidMore
import Derived.OpenShut
import Derived.Stop.Joined
import Derived.Lib.LaidTab
import Derived.Lib.SmallJoins
import Derived.Test.YtnmnfbibjghjhaaDoorDm
import Derived.Test.YtnmnfbibjghjhaaDoorDd
namespace Go.Proofs.YtnmnfbibjghjhaaDoor
open Go.ChangeShapes Go.WideShapes Go.ChangeAt Go.WideMaps Go.WideElems Go.RowKit Dig

theorem Tryd.own : ownKnob Tryd.prog.godebug = none := by kernel_rfl
theorem Tryd.laidOut : laidOutB Tryd.prog = true := by kernel_rfl
abbrev laidL : List (String × DataW Unit) := [("letterbag/digit.products", Rows.laid_letterbag_digit_products), ("letterbag/digit.turned", Rows.laid_letterbag_digit_turned)]
theorem gProd : Tryd.prog.globalNamed "letterbag/digit.products" = some 1 := by kernel_rfl
theorem gTurn : Tryd.prog.globalNamed "letterbag/digit.turned" = some 0 := by kernel_rfl
theorem tProd : (Tryd.prog.globals[1]?).map (·.type) = some 77 := by kernel_rfl
theorem tTurn : (Tryd.prog.globals[0]?).map (·.type) = some 76 := by kernel_rfl

set_option maxRecDepth 100000 in
/-- The door's own heap meets the condition. -/
theorem door_met (os : Os) (args : Array Value) : laidMetH Tryd.prog laidL ((World.doorLaid Tryd.prog 400 os).forCall (fun _ _ => 0) ⟨#[], args, []⟩).memory :=
  laidMetH_of_parts3 (fuel := 8) (laidMet_of_run' 8 (by kernel_rfl) (by kernel_rfl)) (by kernel_rfl) (by kernel_rfl)

set_option maxRecDepth 100000 in
theorem tabs_of {W : World} (h : laidMetH Tryd.prog laidL W) : Tabs W := by
  rw [MakeChecks.laidMetH_plain _ _ _ (by kernel_rfl)] at h
  obtain ⟨ps, ⟨g0, t0, cs0, f0, p0, q0, hg0, ht0, hv0, hd0, ⟨g1, t1, cs1, f1, p1, q1, hg1, ht1, hv1, hd1, _, _⟩, _⟩, _, _⟩ := h
  obtain rfl := Option.some.inj (gProd.symm.trans hg0)
  obtain rfl := Option.some.inj (gTurn.symm.trans hg1)
  obtain rfl := Option.some.inj (tProd.symm.trans ht0)
  obtain rfl := Option.some.inj (tTurn.symm.trans ht1)
  have c3 : Tryd.prog.cellsOf 3 = 1 := by kernel_rfl
  have c76 : Tryd.prog.cellsOf 76 = 10 := by kernel_rfl
  have c77 : Tryd.prog.cellsOf 77 = 100 := by kernel_rfl
  have h1 := Lib.cells_of_tab (k := .i64) (zs := [1, 5, 7, 6, 2, 8, 3, 0, 9, 4]) Tryd.underlying76 Tryd.underlying3 c3 c76 hd1
  obtain ⟨xs, m1, rfl, hx1, hlen, hn3, hel⟩ := DataW.trod_array Tryd.underlying77 hd0
  constructor
  · intro x hx
    have hv := World.var?_cell hg1 hv1 x
    rw [hv, ← Array.getElem?_toList, h1]
    rcases (by omega : x = 0 ∨ x = 1 ∨ x = 2 ∨ x = 3 ∨ x = 4 ∨ x = 5 ∨ x = 6 ∨ x = 7 ∨ x = 8 ∨ x = 9) with rfl | rfl | rfl | rfl | rfl | rfl | rfl | rfl | rfl | rfl <;> rfl
  · intro i j hi hj
    have hv := World.var?_cell hg0 hv0 (i * 10 + j)
    rw [hv, ← Array.getElem?_toList]
    have hD : (Rows.laid_letterbag_digit_products : DataW Unit) = .agg (prodT.map fun r => Lib.tabData .i64 (r.map fun (x : Nat) => (x : Int))) := rfl
    have hm : (prodT.map fun r => (Lib.tabData .i64 (r.map fun (x : Nat) => (x : Int)) : DataW Unit)) = xs.map fun x => x.1 := by
      have h2 := congrArg Prod.fst hx1
      rw [hD] at h2
      simpa using h2
    obtain ⟨x, hx⟩ : ∃ x, xs[i]? = some x := ⟨_, List.getElem?_eq_getElem (by omega)⟩
    obtain ⟨r, hr⟩ : ∃ r, prodT[i]? = some r := ⟨_, List.getElem?_eq_getElem (by show i < 10; exact hi)⟩
    have hx1' : x.1 = Lib.tabData .i64 (r.map fun (x : Nat) => (x : Int)) := by
      have h2 := congrArg (fun l => l[i]?) hm
      simp only [List.getElem?_map, hx, hr, Option.map_some, Option.some.injEq] at h2
      exact h2.symm
    have he := hel i hi
    rw [hx, c76] at he
    have hc := Lib.cells_of_tab (k := .i64) (zs := r.map fun (x : Nat) => (x : Int)) (p := x.2) Tryd.underlying76 Tryd.underlying3 c3 c76 (he.trans (by rw [← hx1']))
    have hrl : r.length = 10 := (by decide : ∀ r ∈ prodT, r.length = 10) r (List.mem_of_getElem? hr)
    have hp : prod i j = r.getD j 0 := by unfold prod; rw [List.getD_eq_getElem?_getD (l := prodT), hr]; rfl
    have h3 := congrArg (fun l => l[j]?) hc
    simp only [List.getElem?_take, List.getElem?_drop, if_pos hj] at h3
    rw [h3, hp]
    obtain ⟨y, hy⟩ : ∃ y, r[j]? = some y := ⟨_, List.getElem?_eq_getElem (by omega)⟩
    rw [List.getD_eq_getElem?_getD, List.getElem?_map, List.getElem?_map, hy]
    rfl

section
variable {H : Type} {enc : TypeId × Value → H} {w : World} {base : Nat} {spare : Nat → Bool} {held : Bool}
/-- An argument that is a slice of bytes. -/
theorem open_bytes {r : Reach} {b0 : Nat} {v : Value} {d : DataW H} {p : List MemPlace} (hv : Value.okWide Tryd.prog w r b0 22 v) (h : DataW.Trod enc Tryd.prog w base spare held 22 v d p) : ∃ l, ByteSrc w v l := by
  obtain ⟨a0, len0, cap0, rfl⟩ := okWide_slice Tryd.underlying22 hv
  obtain ⟨fuel, hf⟩ := h
  have c5 : Tryd.prog.cellsOf 5 = 1 := by kernel_rfl
  rcases open_ints Tryd.underlying22 Tryd.underlying5 c5 hf with ⟨hcs, _⟩ | ⟨a, len, cap, zs, hcs, _, hlc, _, hzl, _, hcell, hwf⟩
  · have hcs' : [Value.slice a0 len0 cap0] = [.slice none 0 0] := hcs
    cases hcs'
    exact ⟨[], by simp, none, 0, rfl, .inl rfl⟩
  · have hcs' : [Value.slice a0 len0 cap0] = [.slice (some a) len cap] := hcs
    cases hcs'
    have hle : len0 ≤ zs.length := by rw [hzl]; split <;> omega
    have hll : ((zs.take len0).map Int.toNat).length = len0 := by rw [List.length_map, List.length_take]; omega
    refine ⟨(zs.take len0).map Int.toNat, fun c hc => ?_, some a, cap0, by rw [hll], ?_⟩
    · obtain ⟨z, hz, rfl⟩ := List.mem_map.1 hc
      have := bounds_u8 (hwf z (List.mem_of_mem_take hz))
      omega
    · by_cases h0 : len0 = 0
      · exact .inl (List.length_eq_zero_iff.1 (by rw [hll]; exact h0))
      · refine .inr ?_
        have hc0 := hcell 0 (by omega)
        obtain ⟨ab, ao, sp⟩ := a
        have hspot : sp = none := by simpa [Addr.add] using World.cell?_spot hc0
        subst hspot
        refine ⟨ab, ao, rfl, World.block_lt_of_cell? w ⟨ab, ao, none⟩ (by have := hc0; rwa [addr_add, Nat.add_zero] at this), fun j c hj => ?_⟩
        have hjl : j < len0 := by have := (List.getElem?_eq_some_iff.1 hj).1; rwa [hll] at this
        have hcj := hcell j (by omega)
        rw [addr_add] at hcj
        rw [hcj]
        rw [List.getElem?_map, List.getElem?_take, if_pos hjl, List.getElem?_eq_getElem (by omega)] at hj
        simp only [Option.map_some, Option.some.injEq] at hj
        have hzj : zs.getD j 0 = zs[j] := by rw [List.getD_eq_getElem?_getD, List.getElem?_eq_getElem (by omega)]; rfl
        have := bounds_u8 (hwf _ (List.getElem_mem (show j < zs.length by omega)))
        rw [hzj]
        congr 2
        omega
end
end Go.Proofs.YtnmnfbibjghjhaaDoor
