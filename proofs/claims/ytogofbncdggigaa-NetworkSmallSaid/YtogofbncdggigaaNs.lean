/-
  What every row of this seat's leg laws wants: the argument that is a leg, opened.
-/
import Derived.Test.YtogofbncdggigaaRows
import Derived.ProofKit
import Derived.Lib.SmallJoins
import Derived.Deep.Fields
import Derived.OpenShut
namespace Go.Proofs.Ytogofbncdggigaa
open Go.ChangeShapes Go.WideShapes Go.ChangeAt Go.RowKit Go.Joins Go.Deep

theorem Try.own : ownKnob Try.prog.godebug = none := by kernel_rfl
theorem Try.laidOut : laidOutB Try.prog = true := by kernel_rfl
theorem Try.cells23 : Try.prog.cellsOf 23 = 8 := by kernel_rfl

section
variable {H : Type} {enc : TypeId × Value → H} {w : World} {base : Nat} {spare : Nat → Bool} {held : Bool}
theorem open_leg {r : Reach} {b0 : Nat} {v : Value} {d : DataW H} {p : List MemPlace} (hv : Value.okWide Try.prog w r b0 23 v) (h : DataW.Trod enc Try.prog w base spare held 23 v d p) :
    ∃ i f t dp m c g y : Int, v = .agg #[.int .i64 i, .int .i64 f, .int .i64 t, .int .i64 dp, .int .i64 m, .int .i64 c, .int .i64 g, .int .u8 y] ∧ 0 ≤ y ∧ y ≤ 255 := by
  obtain ⟨cs, rfl, hsz⟩ := okWide_struct Try.underlying23 hv
  obtain ⟨l⟩ := cs
  match l, hsz.trans Try.cells23 with
  | [c0, c1, c2, c3, c4, c5, c6, c7], _ =>
    obtain ⟨fuel, hf⟩ := h
    obtain ⟨xs, n, _, hx, _, hlen, hg⟩ := DataW.trod_struct Try.underlying23 hf
    have e3 : Try.prog.cellsOf 3 = 1 := by kernel_rfl
    have e5 : Try.prog.cellsOf 5 = 1 := by kernel_rfl
    match xs, hlen with
    | [y0, y1, y2, y3, y4, y5, y6, y7], _ =>
      have k0 : DataW.trod enc Try.prog w base spare held n 3 [c0] = some y0 := by simpa [e3, e5, Value.cells] using hg 0 _ rfl
      obtain ⟨n0, h0, _, w0⟩ := DataW.trod_int Try.underlying3 k0
      simp only [List.cons.injEq, and_true] at h0
      subst h0
      have k1 : DataW.trod enc Try.prog w base spare held n 3 [c1] = some y1 := by simpa [e3, e5, Value.cells] using hg 1 _ rfl
      obtain ⟨n1, h1, _, w1⟩ := DataW.trod_int Try.underlying3 k1
      simp only [List.cons.injEq, and_true] at h1
      subst h1
      have k2 : DataW.trod enc Try.prog w base spare held n 3 [c2] = some y2 := by simpa [e3, e5, Value.cells] using hg 2 _ rfl
      obtain ⟨n2, h2, _, w2⟩ := DataW.trod_int Try.underlying3 k2
      simp only [List.cons.injEq, and_true] at h2
      subst h2
      have k3 : DataW.trod enc Try.prog w base spare held n 3 [c3] = some y3 := by simpa [e3, e5, Value.cells] using hg 3 _ rfl
      obtain ⟨n3, h3, _, w3⟩ := DataW.trod_int Try.underlying3 k3
      simp only [List.cons.injEq, and_true] at h3
      subst h3
      have k4 : DataW.trod enc Try.prog w base spare held n 3 [c4] = some y4 := by simpa [e3, e5, Value.cells] using hg 4 _ rfl
      obtain ⟨n4, h4, _, w4⟩ := DataW.trod_int Try.underlying3 k4
      simp only [List.cons.injEq, and_true] at h4
      subst h4
      have k5 : DataW.trod enc Try.prog w base spare held n 3 [c5] = some y5 := by simpa [e3, e5, Value.cells] using hg 5 _ rfl
      obtain ⟨n5, h5, _, w5⟩ := DataW.trod_int Try.underlying3 k5
      simp only [List.cons.injEq, and_true] at h5
      subst h5
      have k6 : DataW.trod enc Try.prog w base spare held n 3 [c6] = some y6 := by simpa [e3, e5, Value.cells] using hg 6 _ rfl
      obtain ⟨n6, h6, _, w6⟩ := DataW.trod_int Try.underlying3 k6
      simp only [List.cons.injEq, and_true] at h6
      subst h6
      have k7 : DataW.trod enc Try.prog w base spare held n 5 [c7] = some y7 := by simpa [e3, e5, Value.cells] using hg 7 _ rfl
      obtain ⟨n7, h7, _, w7⟩ := DataW.trod_int Try.underlying5 k7
      simp only [List.cons.injEq, and_true] at h7
      subst h7
      have hb := bounds_u8 w7
      exact ⟨n0, n1, n2, n3, n4, n5, n6, n7, rfl, hb.1, hb.2⟩
end
end Go.Proofs.Ytogofbncdggigaa
