/-
  Plain laws: the next and the last departure lie within weeks around a time. No Go, no memory.
-/
import Derived.Test.YtogofbncdggigaaNr
namespace Go.Proofs.Ytogofbncdggigaa.Net

theorem next_window {i f t d m c g y ready k : Int} (hk : onB i f t d m c g y k = true) (ht : ready ≤ 1440 * k + d - c) (hmin : ∀ j, j < k → onB i f t d m c g y j = true → 1440 * j + d - c < ready) (h0 : 0 ≤ ready) (_ : ready < 1051898400) :
    ready / 1440 - 7 ≤ k ∧ k < ready / 1440 + 28 := by
  have hl := onLaw (onB_iff.1 hk).1
  have h1 := hl.hi k hk; have h2 := hl.d1; have h3 := hl.m0; have h4 := hl.c0; have h5 := hl.day0 k hk; have h6 := hl.day1 k hk; have h7 := hl.c1; have h8 := hl.d0
  refine ⟨by omega, ?_⟩
  by_cases e : k < ready / 1440 + 28
  · exact e
  · have hs := onB_shift (k := ready / 1440 + 8 + (k - (ready / 1440 + 8)) % 7) hk (by omega) (by omega) (by omega) (by omega) (by omega)
    have := hmin _ (by omega) hs
    omega
theorem last_window {i f t d m c g y b k : Int} (hk : onB i f t d m c g y k = true) (ht : 1440 * k + d + m ≤ b) (hmax : ∀ j, k < j → onB i f t d m c g y j = true → b < 1440 * j + d + m) (h0 : 0 ≤ b) (h1 : b < 1051898400) :
    b / 1440 - 35 ≤ k ∧ k < b / 1440 + 7 := by
  have hl := onLaw (onB_iff.1 hk).1
  have h1 := hl.hi k hk; have h2 := hl.d1; have h3 := hl.m0; have h4 := hl.c0; have h5 := hl.day0 k hk; have h6 := hl.day1 k hk; have h7 := hl.m1; have h8 := hl.d0; have h9 := hl.lo k hk
  refine ⟨?_, by omega⟩
  by_cases e : b / 1440 - 35 ≤ k
  · exact e
  · have hs := onB_shift (k := b / 1440 - 21 + (k - (b / 1440 - 21)) % 7) hk (by omega) (by omega) (by omega) (by omega) (by omega)
    have := hmax _ (by omega) hs
    omega
end Go.Proofs.Ytogofbncdggigaa.Net
