/-
  An argument that is a system, opened.
-/
import Derived.Test.YtnmnfbibjghjhaaDoorDr
import Derived.Test.YtnmnfbibjghjhaaDoorEf
namespace Go.Proofs.YtnmnfbibjghjhaaDoor
open Go.ChangeShapes Go.WideShapes Go.ChangeAt Go.WideMaps Go.WideElems Go.RowKit Dig

theorem Tryd.cells25 : Tryd.prog.cellsOf 25 = 2 := by kernel_rfl
section
variable {H : Type} {enc : TypeId × Value → H} {w : World} {base : Nat} {spare : Nat → Bool} {held : Bool}
/-- An argument that is a slice of numbers, by its cells. -/
theorem open_intsrc {fuel : Nat} {v : Value} {x : DataW H × List MemPlace} (h : DataW.trod enc Tryd.prog w base spare held fuel 23 [v] = some x) : ∃ l, IntSrc w v l := by
  have c3 : Tryd.prog.cellsOf 3 = 1 := by kernel_rfl
  rcases open_ints Tryd.underlying23 Tryd.underlying3 c3 h with ⟨hcs, _⟩ | ⟨a, len, cap, zs, hcs, _, hlc, _, hzl, _, hcell, hwf⟩
  · simp only [List.cons.injEq, and_true] at hcs
    exact ⟨[], .inl ⟨hcs, rfl⟩⟩
  · simp only [List.cons.injEq, and_true] at hcs
    subst hcs
    have hle : len ≤ zs.length := by rw [hzl]; split <;> omega
    have hll : (zs.take len).length = len := by rw [List.length_take]; omega
    refine ⟨zs.take len, .inr ⟨a, cap, by rw [hll], ?_⟩⟩
    by_cases h0 : len = 0
    · exact .inl (List.length_eq_zero_iff.1 (by rw [hll]; exact h0))
    · refine .inr ?_
      have hc0 := hcell 0 (by omega)
      obtain ⟨ab, ao, sp⟩ := a
      have hspot : sp = none := by simpa [Addr.add] using World.cell?_spot hc0
      subst hspot
      refine ⟨ab, ao, rfl, World.block_lt_of_cell? w ⟨ab, ao, none⟩ (by have := hc0; rwa [addr_add, Nat.add_zero] at this), fun j c hj => ?_⟩
      have hjl : j < len := by have := (List.getElem?_eq_some_iff.1 hj).1; rwa [hll] at this
      have hcj := hcell j (by omega)
      rw [addr_add] at hcj
      rw [hcj]
      rw [List.getElem?_take, if_pos hjl, List.getElem?_eq_getElem (by omega)] at hj
      simp only [Option.some.injEq] at hj
      have hzj : zs.getD j 0 = zs[j] := by rw [List.getD_eq_getElem?_getD, List.getElem?_eq_getElem (by omega)]; rfl
      rw [hzj, hj]
/-- An argument that is a system. -/
theorem open_system {r : Reach} {b0 : Nat} {v : Value} {d : DataW H} {p : List MemPlace} (hv : Value.okWide Tryd.prog w r b0 25 v) (h : DataW.Trod enc Tryd.prog w base spare held 25 v d p) :
    ∃ (k : Nat) (l : List Int) (sv : Value), v = .agg #[.int .u8 k, sv] ∧ IntSrc w sv l := by
  obtain ⟨cs, rfl, hsz⟩ := okWide_struct Tryd.underlying25 hv
  obtain ⟨l⟩ := cs
  match l, hsz.trans Tryd.cells25 with
  | [c0, c1], _ =>
    obtain ⟨fuel, hf⟩ := h
    obtain ⟨xs, n, _, hx, _, hlen, hg⟩ := DataW.trod_struct Tryd.underlying25 hf
    have e5 : Tryd.prog.cellsOf 5 = 1 := by kernel_rfl
    have e23 : Tryd.prog.cellsOf 23 = 1 := by kernel_rfl
    match xs, hlen with
    | [y0, y1], _ =>
      have k0 : DataW.trod enc Tryd.prog w base spare held n 5 [c0] = some y0 := by simpa [e5, e23, Value.cells] using hg 0 _ rfl
      obtain ⟨n0, h0, _, w0⟩ := DataW.trod_int Tryd.underlying5 k0
      simp only [List.cons.injEq, and_true] at h0
      subst h0
      have k1 : DataW.trod enc Tryd.prog w base spare held n 23 [c1] = some y1 := by simpa [e5, e23, Value.cells] using hg 1 _ rfl
      obtain ⟨l, hl⟩ := open_intsrc k1
      have hb := bounds_u8 w0
      obtain ⟨k, rfl⟩ : ∃ k : Nat, n0 = (k : Int) := ⟨n0.toNat, by omega⟩
      exact ⟨k, l, c1, rfl, hl⟩
end
end Go.Proofs.YtnmnfbibjghjhaaDoor
