/-
  The walk of valid: both come to one number.
-/
import Derived.Test.YtogofbncdggigaaNz
import Derived.Deep.RegionHeld3
namespace Go.Proofs.Ytogofbncdggigaa
open Go.RowKit Net

set_option maxRecDepth 100000 in
set_option maxHeartbeats 4000000 in
theorem valid_true (ps : List Int) (ls : List Leg8) (pv lv : Value) (w : World) (hp : IntRow w pv ps) (hl : LegRow w lv ls) (hpf : ∀ p ∈ ps, -9223372036854775808 ≤ p ∧ p ≤ 9223372036854775807) (hlf : ∀ l ∈ ls, l.fits) :
    Calls Try.prog 42 #[.agg #[pv, lv]] w fun e w' => e = .returned (.bool true) ∧ Below w.heap.size w w' := by
  have Hp := Lib.hid hp
  have Hl := Lib.hid hl
  obtain ⟨pp, pc, rfl, _⟩ := hp
  obtain ⟨lp, lc, rfl, _⟩ := hl
  go_enter Try.func42, Try.ntmps42
  go_wp2_with fail
  obtain ⟨W, hW⟩ : ∃ W, w.alloc (.cells #[.slice pp ps.length pc, .slice lp ls.length lc] 42) = W := ⟨_, rfl⟩
  have x0 : BlockAt W w.heap.size #[.slice pp ps.length pc, .slice lp ls.length lc] 42 := by rw [← hW]; exact BlockAt.new w _ 42
  have hX : Below w.heap.size w W := by rw [← hW]; exact (Below.refl _ w).alloc (Nat.le_refl _) _
  rw [hW]
  clear hW
  obtain ⟨p0, p1, _, _⟩ := x0.two
  have v0 := x0.lt
  have HP1 : Hid (IntRow W.drew (.slice pp ps.length pc) ps) := Lib.hid (Hp.out.below (Nat.le_refl _) hX.drew)
  have HL1 : Hid (LegRow W.drew (.slice lp ls.length lc) ls) := Lib.hid (Hl.out.below (Nat.le_refl _) hX.drew)
  go_region_held3 (fun w' => w'.cell? ⟨w.heap.size, 0, none⟩ = some (.slice pp ps.length pc) ∧ w'.cell? ⟨w.heap.size, 1, none⟩ = some (.slice lp ls.length lc)) (go_keep)
    (first
      | (go_at_call 24; refine (valid_any ps ls _ _ _ HP1.out HL1.out hpf hlf).mono ?_; rintro e w3 ⟨r, hr, rfl, hb3⟩; have HR := Lib.hid hr; clear hr; have hc3 : ∀ b o, b < W.heap.size → w3.cell? ⟨b, o, none⟩ = W.cell? ⟨b, o, none⟩ := (bcell hb3).1; have hs3 : W.heap.size ≤ w3.heap.size := hb3.size; have t1 : w.heap.size < w3.heap.size := (by omega); have HP3 : Hid (IntRow w3 (.slice pp ps.length pc) ps) := Lib.hid (HP1.out.below (Nat.le_refl _) hb3); have HL3 : Hid (LegRow w3 (.slice lp ls.length lc) ls) := Lib.hid (HL1.out.below (Nat.le_refl _) hb3))
      | (go_at_call 25; refine (refvalid_any ps ls _ _ _ HP3.out HL3.out hlf).mono ?_; rintro e w4 ⟨r', hr', rfl, hb4⟩; obtain rfl := validIs_unique HR.out hr'; clear hr'; obtain ⟨hc4, hf4⟩ := bcell hb4; have hs4 := hb4.size; have t4 : w.heap.size < w4.heap.size := (by omega)))
  go_wp2
  go_ret
  exact ⟨by simp, (hX.drew.trans (hb3.mono (by show w.heap.size ≤ W.heap.size; omega))).trans (hb4.mono (by omega))⟩
end Go.Proofs.Ytogofbncdggigaa
