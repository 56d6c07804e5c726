/-
  The walks of shown, Right and values.
-/
import Derived.Test.YtnmnfbibjghjhaaDoorDe
namespace Go.Proofs.YtnmnfbibjghjhaaDoor
open Go.RowKit Dig

def shownB (x : Nat) : Nat := if x = 10 then 88 else 48 + x
set_option maxHeartbeats 1000000 in
theorem shown_any (x : Nat) (w : World) (hx : x < 11) : Calls Tryd.prog 34 #[.int .i64 x] w fun e w' => e = .returned (.int .u8 (shownB x : Nat)) ∧ w' = w := by
  rcases (by omega : x = 0 ∨ x = 1 ∨ x = 2 ∨ x = 3 ∨ x = 4 ∨ x = 5 ∨ x = 6 ∨ x = 7 ∨ x = 8 ∨ x = 9 ∨ x = 10) with rfl | rfl | rfl | rfl | rfl | rfl | rfl | rfl | rfl | rfl | rfl
  all_goals
    go_enter Tryd.func34, Tryd.ntmps34
    go_wp2
    go_ret
    exact ⟨rfl, rfl⟩

/-- The bytes of a text. -/
def tx (s : ByteArray) : List Nat := s.data.toList.map UInt8.toNat
theorem tx_len (s : ByteArray) : (tx s).length = s.size := by simp [tx]

theorem tx_at (s : ByteArray) (m : Nat) (h : m < s.size) : (tx s)[m]? = some (s[m]'h).toNat := by
  unfold tx
  rw [List.getElem?_map, Array.getElem?_toList, Array.getElem?_eq_getElem (by exact h)]
  rfl
theorem tx_rev (s : ByteArray) (j : Nat) (h : j < s.size) : (tx s).reverse[j]? = (tx s)[s.size - 1 - j]? := by
  rw [List.getElem?_reverse (by rw [tx_len]; exact h), tx_len]
theorem vals_step {l : List Nat} {j c : Nat} (h : l[j]? = some c) : natCells ((l.take (j + 1)).map chVal) = natCells ((l.take j).map chVal) ++ [.int .i64 ((chVal c : Nat) : Int)] := by
  rw [take_snoc h]; simp [natCells]
theorem ok_step {x : Bool} {l : List Nat} {j c : Nat} (h : l[j]? = some c) (hc : chOk x j c) (hok : ∀ q d, q < j → l[q]? = some d → chOk x q d) : ∀ q d, q < j + 1 → l[q]? = some d → chOk x q d := fun q d hq hd => by
  by_cases e : q = j
  · subst e; rw [h] at hd; cases hd; exact hc
  · exact hok q d (by omega) hd

set_option maxHeartbeats 8000000 in
theorem values_any (s : ByteArray) (x : Bool) (w : World) (hl : s.size ≤ 1000) :
    Calls Tryd.prog 35 #[.string s, .bool x] w fun e w' => ((txOk x (tx s) ∧ ∃ v, e = .returned (.tuple #[v, .bool true]) ∧ w'.ownsRow w.heap.size 3 1 v (tx s).length (natCells (vals (tx s)))) ∨
      (¬ txOk x (tx s) ∧ e = .returned (.tuple #[.slice none 0 0, .bool false]))) ∧ Below w.heap.size w w' := by
  obtain ⟨i0, hi, hi0, hi1, hi2⟩ := info_parts Tryd.info3
  obtain ⟨n, hn⟩ : ∃ n, s.size = n := ⟨_, rfl⟩
  have htl := tx_len s
  rw [hn] at htl hl
  go_enter Tryd.func35, Tryd.ntmps35
  go_wp2_with (at_make; refine wpList_make_own _ rfl _ _ 23 rfl w.heap.size 3 i0 (.int .i64 0) 1 Tryd.underlying23 hi hi0 hi1 _ _ _ n rfl rfl rfl (by rw [hi2]; omega) (by unfold maxLen; omega) (Nat.le_refl _) ?_; intro w1 ho1 hg1)
  have hB1 : Below w.heap.size w w1 := (Below.refl _ w).grown hg1 (Nat.le_refl _) (fun j hj => by cases hj)
  go_loopw [6, 7] (fun ov iv wr => ∃ j : Nat, iv = .int .i64 ((n : Int) - 1 - (j : Int)) ∧ j ≤ n ∧ (∀ q c, q < j → (tx s).reverse[q]? = some c → chOk x q c) ∧ wr.ownsRow w.heap.size 3 1 ov j (natCells (((tx s).reverse.take j).map chVal)) ∧ Below w.heap.size w wr)
    (fun _ iv _ => (intOf iv + 1).toNat)
  case atStart => exact ⟨0, by go_num, by omega, fun q c hq => by omega, ho1, hB1⟩
  case round =>
    clear ho1 hg1 hB1
    obtain ⟨j, rfl, hj, hok, xo, xB⟩ := hrel
    obtain ⟨pp, cp, rfl⟩ := ownsRow_form xo
    by_cases hlt : j < n
    · obtain ⟨m, hm⟩ : ∃ m : Nat, (n : Int) - 1 - (j : Int) = (m : Int) := ⟨n - 1 - j, by omega⟩
      have hm2 := Lib.hid (show m = n - 1 - j by omega)
      have hmi : (m : Int) < (n : Int) := by omega
      have hmn : m < n := by omega
      rw [hm]
      have hms : m < s.size := by rw [hn]; exact hmn
      obtain ⟨c, hc⟩ : ∃ c : Nat, (s[m]'hms).toNat = c := ⟨_, rfl⟩
      have hcc : (tx s).reverse[j]? = some c := by rw [tx_rev s j (by omega), hn, ← hm2.out, tx_at s m hms, hc]
      have hc256 : c < 256 := by rw [← hc]; exact UInt8.toNat_lt _
      have HC := Lib.hid hcc
      have HOK := Lib.hid hok
      clear hcc hok
      by_cases hdig : 48 ≤ c ∧ c ≤ 57
      · obtain ⟨hd0, hd1⟩ := hdig
        have hd0i : (48 : Int) ≤ (c : Int) := by omega
        have hd1i : (c : Int) ≤ 57 := by omega
        have h88 : ((c : Int) == 88) = false := by rw [beq_eq_false_iff_ne]; omega
        cases x
        · go_wp2_with (at_builtin; refine wpList_append_own _ rfl _ _ 23 rfl w.heap.size 3 i0 (.int .i64 0) 1 8 Tryd.underlying23 hi hi0 hi1 hi2 rfl (by decide) _ _ _ rfl (xo.alloc _) ⟨wr.heap.size, 0, none⟩ 1 1 [.int .i64 ((c : Int) - 48)] rfl rfl ((BlockAt.new wr #[.int .i64 ((c : Int) - 48)] 3).newCells rfl) (by intro u hu; rw [List.mem_singleton.1 hu]; rfl) (by unfold maxLen; omega) (by omega) (by simp; have := xB.size; omega) ?_; intro v' w4 hown' hgrow _)
          go_roundw
          case rel => exact ⟨j + 1, by go_num, by omega, ok_step HC.out (.inl ⟨hd0, hd1⟩) HOK.out, by rw [vals_step HC.out, show ((chVal _ : Nat) : Int) = (c : Int) - 48 from by unfold chVal; rw [if_neg (by omega)]; omega]; exact hown', (xB.alloc xB.size _).grown hgrow (by simp; have := xB.size; omega) (fun j hj => ownsRow_base xo j hj)⟩
          case measure => simp [intOf] <;> omega
        · go_wp2_with (at_builtin; refine wpList_append_own _ rfl _ _ 23 rfl w.heap.size 3 i0 (.int .i64 0) 1 8 Tryd.underlying23 hi hi0 hi1 hi2 rfl (by decide) _ _ _ rfl (xo.alloc _) ⟨wr.heap.size, 0, none⟩ 1 1 [.int .i64 ((c : Int) - 48)] rfl rfl ((BlockAt.new wr #[.int .i64 ((c : Int) - 48)] 3).newCells rfl) (by intro u hu; rw [List.mem_singleton.1 hu]; rfl) (by unfold maxLen; omega) (by omega) (by simp; have := xB.size; omega) ?_; intro v' w4 hown' hgrow _)
          go_roundw
          case rel => exact ⟨j + 1, by go_num, by omega, ok_step HC.out (.inl ⟨hd0, hd1⟩) HOK.out, by rw [vals_step HC.out, show ((chVal _ : Nat) : Int) = (c : Int) - 48 from by unfold chVal; rw [if_neg (by omega)]; omega]; exact hown', (xB.alloc xB.size _).grown hgrow (by simp; have := xB.size; omega) (fun j hj => ownsRow_base xo j hj)⟩
          case measure => simp [intOf] <;> omega
      · by_cases h88 : c = 88
        · subst h88
          cases x
          · go_wp2
            go_ret2
            exact ⟨.inr ⟨fun h => absurd (h _ _ HC.out) (by unfold chOk; simp), rfl⟩, xB⟩
          · by_cases hj0 : j = 0
            · have hme : ((m : Int) == (n : Int) - 1) = true := by rw [beq_iff_eq]; omega
              go_wp2_with (at_builtin; refine wpList_append_own _ rfl _ _ 23 rfl w.heap.size 3 i0 (.int .i64 0) 1 8 Tryd.underlying23 hi hi0 hi1 hi2 rfl (by decide) _ _ _ rfl (xo.alloc _) ⟨wr.heap.size, 0, none⟩ 1 1 [.int .i64 (10)] rfl rfl ((BlockAt.new wr #[.int .i64 (10)] 3).newCells rfl) (by intro u hu; rw [List.mem_singleton.1 hu]; rfl) (by unfold maxLen; omega) (by omega) (by simp; have := xB.size; omega) ?_; intro v' w4 hown' hgrow _)
              go_roundw
              case rel => exact ⟨j + 1, by go_num, by omega, ok_step HC.out (.inr ⟨rfl, rfl, hj0⟩) HOK.out, by rw [vals_step HC.out, show ((chVal _ : Nat) : Int) = 10 from by rfl]; exact hown', (xB.alloc xB.size _).grown hgrow (by simp; have := xB.size; omega) (fun j hj => ownsRow_base xo j hj)⟩
              case measure => simp [intOf] <;> omega
            · have hme : ((m : Int) == (n : Int) - 1) = false := by rw [beq_eq_false_iff_ne]; omega
              go_wp2
              go_ret2
              exact ⟨.inr ⟨fun h => absurd (h _ _ HC.out) (by unfold chOk; omega), rfl⟩, xB⟩
        · have h88i : ((c : Int) == 88) = false := by rw [beq_eq_false_iff_ne]; omega
          have hbad : ¬ chOk x j c := by unfold chOk; omega
          by_cases h48 : c < 48
          · have h48i : (c : Int) < 48 := by omega
            cases x
            · go_wp2
              go_ret2
              exact ⟨.inr ⟨fun h => absurd (h _ _ HC.out) (by exact hbad), rfl⟩, xB⟩
            · go_wp2
              go_ret2
              exact ⟨.inr ⟨fun h => absurd (h _ _ HC.out) (by exact hbad), rfl⟩, xB⟩
          · have h48i : ¬ (c : Int) < 48 := by omega
            have h57i : (57 : Int) < (c : Int) := by omega
            cases x
            · go_wp2
              go_ret2
              exact ⟨.inr ⟨fun h => absurd (h _ _ HC.out) (by exact hbad), rfl⟩, xB⟩
            · go_wp2
              go_ret2
              exact ⟨.inr ⟨fun h => absurd (h _ _ HC.out) (by exact hbad), rfl⟩, xB⟩
    · obtain rfl : j = n := by omega
      have hneg : ¬ (0 : Int) ≤ ((j : Int) - 1 - (j : Int)) := by omega
      have HOK := Lib.hid hok
      clear hok
      go_wp2
      go_ret2
      refine ⟨.inl ⟨fun q c hq => HOK.out q c (by have := (List.getElem?_eq_some_iff.1 hq).1; rw [List.length_reverse, htl] at this; exact this) hq, _, rfl, ?_⟩, xB⟩
      rw [List.take_of_length_le (by rw [List.length_reverse, htl]; exact Nat.le_refl _)] at xo
      exact xo
end Go.Proofs.YtnmnfbibjghjhaaDoor
