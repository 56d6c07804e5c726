/-
  Misses at a right system; the length of its list.
-/
import Derived.Test.YtnmnfbibjghjhaaDoorDo
import Derived.Test.YtnmnfbibjghjhaaDoorDt
import Derived.Test.YtnmnfbibjghjhaaDoorDta
import Derived.Test.YtnmnfbibjghjhaaDoorDw
import Derived.Test.YtnmnfbibjghjhaaDoorDwb
namespace Go.Proofs.YtnmnfbibjghjhaaDoor
open Go.RowKit Dig

theorem flat_le {α : Type} (f : Nat → List α) (B : Nat) (h : ∀ i, (f i).length ≤ B) : ∀ c, ((List.range c).flatMap f).length ≤ B * c
  | 0 => by simp
  | c + 1 => by
    rw [flat_succ, List.length_append, Nat.mul_succ]
    have := flat_le f B h c
    have := h c
    omega
theorem miss_len (k : Nat) (ws : List Nat) (n : Nat) (hn : n ≤ 30) : (missList k ws n).length ≤ 100000 := by
  have h1 : ∀ i a, (missRow k ws n i a 10).length ≤ 10 := fun i a => by
    unfold missRow
    rw [List.length_map]
    exact range_filter_le _ 10
  have h2 : ∀ i, (missSq k ws n i 10).length ≤ 10 * 10 := fun i => flat_le _ 10 (h1 i) 10
  unfold missList
  split
  · simp
  · have := flat_le (fun i => if i = 0 then [] else missSq k ws n i 10) 100 (fun i => by
      show (if i = 0 then [] else missSq k ws n i 10).length ≤ 100
      split
      · simp
      · exact h2 i) (2 * n)
    unfold missTo
    omega
theorem MissAt.drew {W : World} {v : Value} {l : List Miss4} (h : MissAt W v l) : MissAt W.drew v l := h.below (Nat.le_refl _) (Below.refl _ W).drew
theorem misses_ok {k : Nat} {ws : List Nat} (hok : SysOk k ws) (v : Value) (n : Nat) (w : World) (hs : SysIn w k (ints ws) v) (h1 : 1 ≤ n) (h2 : n ≤ 30) :
    Calls Tryd.prog 21 #[.agg #[.int .u8 k, v], .int .i64 n] w fun e w' => ∃ p c, e = .returned (.tuple #[.slice p (missList k ws n).length c, .int .i64 0]) ∧ MissAt w' (.slice p (missList k ws n).length c) (missList k ws n) ∧ Below w.heap.size w w' := by
  have he : missErr k (ints ws) (n : Int) = 0 := by
    unfold missErr
    rw [right_of hok, if_neg (by decide), if_neg (by omega)]
  refine (misses_any k (ints ws) v n w hs).mono ?_
  rintro e w' ⟨hc, hb⟩
  rcases hc with ⟨_, v', rfl, ho⟩ | ⟨h, _⟩
  · rw [natsOf_cast, Int.toNat_natCast] at ho
    obtain ⟨p, c, rfl⟩ := ownsRow_form ho
    exact ⟨p, c, rfl, MissAt.of_owns ho, hb⟩
  · exact absurd he h
end Go.Proofs.YtnmnfbibjghjhaaDoor
