/-
  The walk of exchanged; the contracts at the systems Perm and Luhn.
-/
import Derived.Test.YtnmnfbibjghjhaaDoorDo
import Derived.Test.YtnmnfbibjghjhaaDoorDv
namespace Go.Proofs.YtnmnfbibjghjhaaDoor
open Go.RowKit Dig

theorem ByteRow.drew {B : Nat} {W : World} {l : List Nat} (h : ByteRow W B l) : ByteRow W.drew B l := h.below (Nat.le_refl _) (Below.refl _ W).drew
set_option maxHeartbeats 4000000 in
theorem exch_any (s : ByteArray) (i : Nat) {a b : Nat} (w : World) (hi : i + 1 < s.size) (hl : s.size ≤ 999) (ha : (tx s)[i]? = some a) (hb : (tx s)[i + 1]? = some b) :
    Calls Tryd.prog 29 #[.string s, .int .i64 i] w fun e w' => ∃ S, e = .returned (.string S) ∧ tx S = swp (tx s) i a b ∧ Below w.heap.size w w' := by
  obtain ⟨cap, W, hrun, hrow, hB, hsz⟩ := conv_bytes s w
  have htl := tx_len s
  have ha256 := tx_small s a (List.mem_of_getElem? ha)
  have hb256 := tx_small s b (List.mem_of_getElem? hb)
  have hr2 := ((hrow.set (i := i) (by omega) hb256).set (i := i + 1) (by rw [List.length_set]; omega) ha256).drew
  obtain ⟨S, hrun2, hS⟩ := conv_text (cap := cap) hr2 (show (((tx s).set i b).set (i + 1) a).length = s.size by rw [List.length_set, List.length_set, htl])
  have c1 := hrow.cell i a ha
  have c2 := hrow.cell (i + 1) b hb
  have f1 := hrow.open' i (by omega)
  have f2 := hrow.open' (i + 1) (by omega)
  have hii : (i : Int) < (s.size : Int) := by omega
  have hij : (i : Int) + 1 < (s.size : Int) := by omega
  have hij0 : 0 ≤ (i : Int) + 1 := by omega
  have hwr : IntKind.i64.wrap ((i : Int) + 1) = (i : Int) + 1 := by rw [IntKind.wrap_i64]; omega
  have hto : ((i : Int) + 1).toNat = i + 1 := by omega
  have v0 := hrow.lt
  have HB := Lib.hid hB
  have HS := Lib.hid hS
  clear hrow hB hS hr2
  go_enter Tryd.func29, Tryd.ntmps29
  go_upto_region 2 with fail
  go_region
  go_wp2
  go_ret
  exact ⟨S, rfl, HS.out, ((HB.out.setCell (Nat.le_refl _) _).setCell (Nat.le_refl _) _).drew⟩

section
variable (w : World)
theorem append4 (s : ByteArray) (hs : SysIn w 4 (ints []) (.slice none 0 0)) (hl : s.size ≤ 999) :
    Calls Tryd.prog 13 #[.agg #[.int .u8 4, .slice none 0 0], .string s] w fun e w' => ∃ S : ByteArray, e = .returned (.tuple #[.string S, .int .i64 (checkErr 4 (ints []) (tx s) : Nat)]) ∧ (checkErr 4 (ints []) (tx s) = 0 → tx S = tx s ++ [checkVal 4 (ints []) (tx s)]) ∧ Below w.heap.size w w' :=
  append_any 4 (ints []) (.slice none 0 0) s w hs hl
theorem passes4 (s : ByteArray) (hs : SysIn w 4 (ints []) (.slice none 0 0)) (hl : s.size ≤ 999) :
    Calls Tryd.prog 17 #[.agg #[.int .u8 4, .slice none 0 0], .string s] w fun e w' => e = .returned (.bool (testB 4 (ints []) (tx s))) ∧ Below w.heap.size w w' :=
  passes_any 4 (ints []) (.slice none 0 0) s w hs hl
theorem misses4 (n : Nat) (hs : SysIn w 4 (ints []) (.slice none 0 0)) (h1 : 1 ≤ n) (h2 : n ≤ 30) :
    Calls Tryd.prog 21 #[.agg #[.int .u8 4, .slice none 0 0], .int .i64 n] w fun e w' => ∃ p c, e = .returned (.tuple #[.slice p 0 c, .int .i64 0]) ∧ Below w.heap.size w w' := by
  have he : missErr 4 (ints []) (n : Int) = 0 := by
    unfold missErr
    rw [show rightB 4 (ints []) = true from rfl, if_neg (by decide), if_neg (by omega)]
  refine (misses_any 4 (ints []) (.slice none 0 0) n w hs).mono ?_
  rintro e w' ⟨hc, hb⟩
  rcases hc with ⟨_, v', rfl, ho⟩ | ⟨h, _⟩
  · rw [show missList 4 (natsOf (ints [])) (n : Int).toNat = [] from if_pos rfl] at ho
    obtain ⟨p, c, rfl⟩ := ownsRow_form ho
    exact ⟨p, c, rfl, hb⟩
  · exact absurd he h
theorem append3 (s : ByteArray) (hs : SysIn w 3 (ints []) (.slice none 0 0)) (hl : s.size ≤ 999) :
    Calls Tryd.prog 13 #[.agg #[.int .u8 3, .slice none 0 0], .string s] w fun e w' => ∃ S : ByteArray, e = .returned (.tuple #[.string S, .int .i64 (checkErr 3 (ints []) (tx s) : Nat)]) ∧ (checkErr 3 (ints []) (tx s) = 0 → tx S = tx s ++ [checkVal 3 (ints []) (tx s)]) ∧ Below w.heap.size w w' :=
  append_any 3 (ints []) (.slice none 0 0) s w hs hl
theorem passes3 (s : ByteArray) (hs : SysIn w 3 (ints []) (.slice none 0 0)) (hl : s.size ≤ 999) :
    Calls Tryd.prog 17 #[.agg #[.int .u8 3, .slice none 0 0], .string s] w fun e w' => e = .returned (.bool (testB 3 (ints []) (tx s))) ∧ Below w.heap.size w w' :=
  passes_any 3 (ints []) (.slice none 0 0) s w hs hl
theorem misses3 (n : Nat) (hs : SysIn w 3 (ints []) (.slice none 0 0)) (h1 : 1 ≤ n) (h2 : n ≤ 30) :
    Calls Tryd.prog 21 #[.agg #[.int .u8 3, .slice none 0 0], .int .i64 n] w fun e w' => ∃ p c, e = .returned (.tuple #[.slice p (n - 1 : Nat) c, .int .i64 0]) ∧ w'.ownsRow w.heap.size 50 4 (.slice p (n - 1 : Nat) c) (n - 1) (missCells ((List.range (n - 1)).map fun j => (true, j + 1, 0, 9))) ∧ Below w.heap.size w w' := by
  have he : missErr 3 (ints []) (n : Int) = 0 := by
    unfold missErr
    rw [show rightB 3 (ints []) = true from rfl, if_neg (by decide), if_neg (by omega)]
  refine (misses_any 3 (ints []) (.slice none 0 0) n w hs).mono ?_
  rintro e w' ⟨hc, hb⟩
  rcases hc with ⟨_, v', rfl, ho⟩ | ⟨h, _⟩
  · rw [show missList 3 (natsOf (ints [])) (n : Int).toNat = (List.range (n - 1)).map fun j => (true, j + 1, 0, 9) from luhn_misses n, List.length_map, List.length_range] at ho
    obtain ⟨p, c, rfl⟩ := ownsRow_form ho
    exact ⟨p, c, rfl, ho, hb⟩
  · exact absurd he h
end
end Go.Proofs.YtnmnfbibjghjhaaDoor
