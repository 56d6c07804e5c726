/-
  The walk of awake: the examples of the chapter.
-/
import Derived.Test.YtnmnfbibjghjhaaDoorDl
import Derived.Test.YtnmnfbibjghjhaaDoorDn
namespace Go.Proofs.YtnmnfbibjghjhaaDoor
open Go.RowKit Dig

/-- The systems of the examples, as they lie. -/
structure AwMem (W : World) (n : Nat) : Prop where
  tabs : Tabs W
  b0 : BlockAt W n #[.int .i64 3, .int .i64 1] 3
  b1 : BlockAt W (n + 1) #[.int .u8 1, .slice (some ⟨n, 0, none⟩) 2 2] 25
  b2 : BlockAt W (n + 2) #[.int .i64 2, .int .i64 3, .int .i64 4, .int .i64 5, .int .i64 6, .int .i64 7, .int .i64 8, .int .i64 9, .int .i64 10] 3
  b3 : BlockAt W (n + 3) #[.int .u8 2, .slice (some ⟨(n + 2), 0, none⟩) 9 9] 25
  b4 : BlockAt W (n + 4) #[.int .i64 5] 3
  b5 : BlockAt W (n + 5) #[.int .u8 1, .slice (some ⟨(n + 4), 0, none⟩) 1 1] 25
  b6 : BlockAt W (n + 6) #[.int .i64 1] 3
  b7 : BlockAt W (n + 7) #[.int .u8 2, .slice (some ⟨(n + 6), 0, none⟩) 1 1] 25
  b8 : BlockAt W (n + 8) #[.int .u8 3, .slice none 0 0] 25
  b9 : BlockAt W (n + 9) #[.int .u8 4, .slice none 0 0] 25
theorem AwMem.below {W W' : World} {n : Nat} (h : AwMem W n) (hb : Below W.heap.size W W') : AwMem W' n :=
  ⟨h.tabs.below (Nat.le_refl _) hb, h.b0.below hb, h.b1.below hb, h.b2.below hb, h.b3.below hb, h.b4.below hb, h.b5.below hb, h.b6.below hb, h.b7.below hb, h.b8.below hb, h.b9.below hb⟩
theorem AwMem.ean {W : World} {n : Nat} (h : AwMem W n) : SysIn W 1 [3, 1] (.slice (some ⟨n, 0, none⟩) 2 2) := ⟨(NatRow.of_block (vs := [3, 1]) (c := 2) h.b0 rfl).int, h.tabs⟩
theorem AwMem.isbn {W : World} {n : Nat} (h : AwMem W n) : SysIn W 2 [2, 3, 4, 5, 6, 7, 8, 9, 10] (.slice (some ⟨(n + 2), 0, none⟩) 9 9) := ⟨(NatRow.of_block (vs := [2, 3, 4, 5, 6, 7, 8, 9, 10]) (c := 9) h.b2 rfl).int, h.tabs⟩
theorem AwMem.five {W : World} {n : Nat} (h : AwMem W n) : SysIn W 1 [5] (.slice (some ⟨(n + 4), 0, none⟩) 1 1) := ⟨(NatRow.of_block (vs := [5]) (c := 1) h.b4 rfl).int, h.tabs⟩
theorem AwMem.one {W : World} {n : Nat} (h : AwMem W n) : SysIn W 2 [1] (.slice (some ⟨(n + 6), 0, none⟩) 1 1) := ⟨(NatRow.of_block (vs := [1]) (c := 1) h.b6 rfl).int, h.tabs⟩
theorem AwMem.luhn {W : World} {n : Nat} (h : AwMem W n) : SysIn W 3 [] (.slice none 0 0) := ⟨⟨none, 0, rfl, .inl rfl⟩, h.tabs⟩
theorem AwMem.perm {W : World} {n : Nat} (h : AwMem W n) : SysIn W 4 [] (.slice none 0 0) := ⟨⟨none, 0, rfl, .inl rfl⟩, h.tabs⟩
theorem aw_c0 : checkVal 1 [3, 1] (tx ⟨#[52, 48, 48, 54, 51, 56, 49, 51, 51, 51, 57, 51]⟩) = 49 ∧ checkErr 1 [3, 1] (tx ⟨#[52, 48, 48, 54, 51, 56, 49, 51, 51, 51, 57, 51]⟩) = 0 := by decide +kernel
theorem aw_c1 : checkVal 2 [2, 3, 4, 5, 6, 7, 8, 9, 10] (tx ⟨#[48, 51, 48, 54, 52, 48, 54, 49, 53]⟩) = 50 ∧ checkErr 2 [2, 3, 4, 5, 6, 7, 8, 9, 10] (tx ⟨#[48, 51, 48, 54, 52, 48, 54, 49, 53]⟩) = 0 := by decide +kernel
theorem aw_c2 : checkVal 2 [2, 3, 4, 5, 6, 7, 8, 9, 10] (tx ⟨#[48, 56, 48, 52, 52, 50, 57, 53, 55]⟩) = 88 ∧ checkErr 2 [2, 3, 4, 5, 6, 7, 8, 9, 10] (tx ⟨#[48, 56, 48, 52, 52, 50, 57, 53, 55]⟩) = 0 := by decide +kernel
theorem aw_c3 : checkVal 3 [] (tx ⟨#[55, 57, 57, 50, 55, 51, 57, 56, 55, 49]⟩) = 51 ∧ checkErr 3 [] (tx ⟨#[55, 57, 57, 50, 55, 51, 57, 56, 55, 49]⟩) = 0 := by decide +kernel
theorem aw_c4 : checkVal 4 [] (tx ⟨#[50, 51, 54]⟩) = 51 ∧ checkErr 4 [] (tx ⟨#[50, 51, 54]⟩) = 0 := by decide +kernel
theorem aw_t0 : testB 4 [] (tx ⟨#[50, 51, 54, 51]⟩) = true ∧ chkErr 4 [] (tx ⟨#[50, 51, 54, 51]⟩) = 0 := by decide +kernel
theorem aw_t1 : testB 4 [] (tx ⟨#[50, 54, 51, 51]⟩) = false ∧ chkErr 4 [] (tx ⟨#[50, 54, 51, 51]⟩) = 0 := by decide +kernel
theorem aw_u0 : testB 4 [] (tx ⟨#[49]⟩) = false ∧ chkErr 4 [] (tx ⟨#[49]⟩) = 161 := by decide +kernel
theorem aw_u1 : testB 2 [2, 3, 4, 5, 6, 7, 8, 9, 10] (tx ⟨#[88, 49]⟩) = false ∧ chkErr 2 [2, 3, 4, 5, 6, 7, 8, 9, 10] (tx ⟨#[88, 49]⟩) = 161 := by decide +kernel
theorem aw_q0 : QIs (tx ⟨#[50, 51, 63, 51]⟩) (some 2) := ⟨rfl, by decide⟩
theorem aw_f0 : fillOut 4 [] (tx ⟨#[50, 51, 63, 51]⟩) (some 2) = tx ⟨#[54]⟩ ∧ fillErr 4 [] (tx ⟨#[50, 51, 63, 51]⟩) (some 2) = 0 := by decide +kernel
theorem aw_q1 : QIs (tx ⟨#[49, 63]⟩) (some 1) := ⟨rfl, by decide⟩
theorem aw_f1 : fillOut 2 [1] (tx ⟨#[49, 63]⟩) (some 1) = tx ⟨#[88]⟩ ∧ fillErr 2 [1] (tx ⟨#[49, 63]⟩) (some 1) = 0 := by decide +kernel
theorem aw_q2 : QIs (tx ⟨#[63, 48]⟩) (some 0) := ⟨rfl, by decide⟩
theorem aw_f2 : fillOut 1 [5] (tx ⟨#[63, 48]⟩) (some 0) = tx ⟨#[48, 50, 52, 54, 56]⟩ ∧ fillErr 1 [5] (tx ⟨#[63, 48]⟩) (some 0) = 0 := by decide +kernel
theorem aw_m0 : missErr 3 [] 2 = 0 ∧ missList 3 (natsOf []) (Int.toNat 2) = [(true, 1, 0, 9)] := by decide +kernel
theorem aw_m1 : missErr 1 [5] 1 = 0 ∧ (missList 1 (natsOf [5]) (Int.toNat 1)).length = 20 ∧ (missCells (missList 1 (natsOf [5]) (Int.toNat 1))).take 4 = [.bool false, .int .i64 1, .int .i64 0, .int .i64 2] := ⟨by decide +kernel, by decide +kernel, rfl⟩
theorem aw_n0 : (missCells (missList 1 (natsOf [5]) (Int.toNat 1)))[0]? = some (.bool false) := by kernel_rfl
theorem aw_n1 : (missCells (missList 1 (natsOf [5]) (Int.toNat 1)))[1]? = some (.int .i64 1) := by kernel_rfl
theorem aw_n2 : (missCells (missList 1 (natsOf [5]) (Int.toNat 1)))[2]? = some (.int .i64 0) := by kernel_rfl
theorem aw_n3 : (missCells (missList 1 (natsOf [5]) (Int.toNat 1)))[3]? = some (.int .i64 2) := by kernel_rfl

set_option maxRecDepth 100000 in
set_option maxHeartbeats 16000000 in
theorem dawake_any (w : World) (ht : Tabs w) : Calls Tryd.prog 18 #[] w fun e w' => e = .returned (.bool true) ∧ Below w.heap.size w w' := by
  have HT := Lib.hid ht
  clear ht
  go_enter Tryd.func18, Tryd.ntmps18
  go_wp2_with fail
  obtain ⟨W, hW⟩ : ∃ W, ((((((((((w.alloc (.cells #[.int .i64 3, .int .i64 1] 3)).alloc (.cells #[.int .u8 1, .slice (some ⟨w.heap.size, 0, none⟩) 2 2] 25)).alloc (.cells #[.int .i64 2, .int .i64 3, .int .i64 4, .int .i64 5, .int .i64 6, .int .i64 7, .int .i64 8, .int .i64 9, .int .i64 10] 3)).alloc (.cells #[.int .u8 2, .slice (some ⟨(w.heap.size + 2), 0, none⟩) 9 9] 25)).alloc (.cells #[.int .i64 5] 3)).alloc (.cells #[.int .u8 1, .slice (some ⟨(w.heap.size + 4), 0, none⟩) 1 1] 25)).alloc (.cells #[.int .i64 1] 3)).alloc (.cells #[.int .u8 2, .slice (some ⟨(w.heap.size + 6), 0, none⟩) 1 1] 25)).alloc (.cells #[.int .u8 3, .slice none 0 0] 25)).alloc (.cells #[.int .u8 4, .slice none 0 0] 25)) = W := ⟨_, rfl⟩
  have hX : Below w.heap.size w W := by rw [← hW]; repeat (first | exact Below.refl _ _ | (with_reducible refine Below.alloc ?_ (by first | exact Nat.le_refl _ | (simp <;> omega)) _))
  have hA : AwMem W w.heap.size := by
    refine ⟨HT.out.below (Nat.le_refl _) hX, ?_, ?_, ?_, ?_, ?_, ?_, ?_, ?_, ?_, ?_⟩
    all_goals
      rw [← hW]
      repeat (first | (with_reducible refine BlockAt.new_at (by first | rfl | (simp; done))) | (with_reducible refine BlockAt.alloc ?_ _))
  rw [hW]
  clear hW
  obtain ⟨p0, p1, _, _⟩ := hA.b1.two
  have v0 := hA.b1.lt
  go_wp2_with fail
  refine (check_any 1 [3, 1] _ ⟨#[52, 48, 48, 54, 51, 56, 49, 51, 51, 51, 57, 51]⟩ _ hA.ean (by decide)).mono ?_
  rintro e w0 ⟨rfl, hb⟩
  rw [aw_c0.1, aw_c0.2]
  have hX2 := hX.trans (hb.mono hX.size)
  have hA2 := hA.below hb
  clear hX hA hb p0 p1 v0
  have hX := hX2
  have hA := hA2
  clear hX2 hA2
  obtain ⟨p0, p1, _, _⟩ := hA.b3.two
  have v0 := hA.b3.lt
  go_wp2_with fail
  refine (check_any 2 [2, 3, 4, 5, 6, 7, 8, 9, 10] _ ⟨#[48, 51, 48, 54, 52, 48, 54, 49, 53]⟩ _ hA.isbn (by decide)).mono ?_
  rintro e w1 ⟨rfl, hb⟩
  rw [aw_c1.1, aw_c1.2]
  have hX2 := hX.trans (hb.mono hX.size)
  have hA2 := hA.below hb
  clear hX hA hb p0 p1 v0
  have hX := hX2
  have hA := hA2
  clear hX2 hA2
  obtain ⟨p0, p1, _, _⟩ := hA.b3.two
  have v0 := hA.b3.lt
  go_wp2_with fail
  refine (check_any 2 [2, 3, 4, 5, 6, 7, 8, 9, 10] _ ⟨#[48, 56, 48, 52, 52, 50, 57, 53, 55]⟩ _ hA.isbn (by decide)).mono ?_
  rintro e w2 ⟨rfl, hb⟩
  rw [aw_c2.1, aw_c2.2]
  have hX2 := hX.trans (hb.mono hX.size)
  have hA2 := hA.below hb
  clear hX hA hb p0 p1 v0
  have hX := hX2
  have hA := hA2
  clear hX2 hA2
  obtain ⟨p0, p1, _, _⟩ := hA.b8.two
  have v0 := hA.b8.lt
  go_wp2_with fail
  refine (check_any 3 [] _ ⟨#[55, 57, 57, 50, 55, 51, 57, 56, 55, 49]⟩ _ hA.luhn (by decide)).mono ?_
  rintro e w3 ⟨rfl, hb⟩
  rw [aw_c3.1, aw_c3.2]
  have hX2 := hX.trans (hb.mono hX.size)
  have hA2 := hA.below hb
  clear hX hA hb p0 p1 v0
  have hX := hX2
  have hA := hA2
  clear hX2 hA2
  obtain ⟨p0, p1, _, _⟩ := hA.b9.two
  have v0 := hA.b9.lt
  go_wp2_with fail
  refine (check_any 4 [] _ ⟨#[50, 51, 54]⟩ _ hA.perm (by decide)).mono ?_
  rintro e w4 ⟨rfl, hb⟩
  rw [aw_c4.1, aw_c4.2]
  have hX2 := hX.trans (hb.mono hX.size)
  have hA2 := hA.below hb
  clear hX hA hb p0 p1 v0
  have hX := hX2
  have hA := hA2
  clear hX2 hA2
  obtain ⟨p0, p1, _, _⟩ := hA.b9.two
  have v0 := hA.b9.lt
  go_wp2_with fail
  refine (test_any 4 [] _ ⟨#[50, 51, 54, 51]⟩ _ hA.perm (by decide)).mono ?_
  rintro e wt0 ⟨rfl, hb⟩
  rw [aw_t0.1, aw_t0.2]
  have hX2 := hX.trans (hb.mono hX.size)
  have hA2 := hA.below hb
  clear hX hA hb p0 p1 v0
  have hX := hX2
  have hA := hA2
  clear hX2 hA2
  obtain ⟨p0, p1, _, _⟩ := hA.b9.two
  have v0 := hA.b9.lt
  go_wp2_with fail
  refine (test_any 4 [] _ ⟨#[50, 54, 51, 51]⟩ _ hA.perm (by decide)).mono ?_
  rintro e wt1 ⟨rfl, hb⟩
  rw [aw_t1.1, aw_t1.2]
  have hX2 := hX.trans (hb.mono hX.size)
  have hA2 := hA.below hb
  clear hX hA hb p0 p1 v0
  have hX := hX2
  have hA := hA2
  clear hX2 hA2
  obtain ⟨p0, p1, _, _⟩ := hA.b8.two
  have v0 := hA.b8.lt
  go_wp2_with fail
  refine (misses_any 3 [] _ 2 _ hA.luhn).mono ?_
  rintro e wm ⟨hcase, hb⟩
  rcases hcase with ⟨_, v0', rfl, ho⟩ | ⟨hne, _⟩
  rotate_left
  · exact absurd aw_m0.1 hne
  rw [aw_m0.2] at ho
  obtain ⟨g, cc, rfl, hg⟩ := ownsRow_pos ho (by decide)
  have hX2 := hX.trans (hb.mono hX.size)
  have hA2 := hA.below hb
  clear hX hA hb p0 p1 v0
  have hX := hX2
  have hA := hA2
  clear hX2 hA2
  obtain ⟨p0, p1, _, _⟩ := hA.b5.two
  have v0 := hA.b5.lt
  go_wp2_with fail
  refine (misses_any 1 [5] _ 1 _ hA.five).mono ?_
  rintro e wn ⟨hcase, hb⟩
  rcases hcase with ⟨_, v1', rfl, ho1⟩ | ⟨hne, _⟩
  rotate_left
  · exact absurd aw_m1.1 hne
  rw [aw_m1.2.1] at ho1
  obtain ⟨g1, cc1, rfl, hg1⟩ := ownsRow_pos ho1 (by decide)
  have ho2 := ownsRow_none ho hb
  have hX2 := hX.trans (hb.mono hX.size)
  have hA2 := hA.below hb
  clear hX hA hb p0 p1 v0
  have hX := hX2
  have hA := hA2
  clear hX2 hA2
  have ca0 := ho2.cellAt 0 (by decide)
  rw [show (missCells [((true, 1, 0, 9) : Miss4)])[0]? = some (.bool true) from rfl] at ca0
  have cb0 := ho1.cellAt 0 (by decide)
  rw [aw_n0] at cb0
  have ca1 := ho2.cellAt 1 (by decide)
  rw [show (missCells [((true, 1, 0, 9) : Miss4)])[1]? = some (.int .i64 1) from rfl] at ca1
  have cb1 := ho1.cellAt 1 (by decide)
  rw [aw_n1] at cb1
  have ca2 := ho2.cellAt 2 (by decide)
  rw [show (missCells [((true, 1, 0, 9) : Miss4)])[2]? = some (.int .i64 0) from rfl] at ca2
  have cb2 := ho1.cellAt 2 (by decide)
  rw [aw_n2] at cb2
  have ca3 := ho2.cellAt 3 (by decide)
  rw [show (missCells [((true, 1, 0, 9) : Miss4)])[3]? = some (.int .i64 9) from rfl] at ca3
  have cb3 := ho1.cellAt 3 (by decide)
  rw [aw_n3] at cb3
  clear ho ho1 ho2
  obtain ⟨p0, p1, _, _⟩ := hA.b9.two
  have v0 := hA.b9.lt
  go_wp2_with fail
  refine (fill_any 4 [] _ ⟨#[50, 51, 63, 51]⟩ _ hA.perm (by decide)).mono ?_
  rintro e wf0 ⟨q, S0, hq, rfl, hS, hb⟩
  obtain rfl := hq.unique aw_q0
  rw [aw_f0.1] at hS
  obtain rfl := tx_inj hS
  rw [aw_f0.2]
  clear hS hq
  have hX2 := hX.trans (hb.mono hX.size)
  have hA2 := hA.below hb
  clear hX hA hb p0 p1 v0 ca0 ca1 ca2 ca3 cb0 cb1 cb2 cb3
  have hX := hX2
  have hA := hA2
  clear hX2 hA2
  obtain ⟨p0, p1, _, _⟩ := hA.b7.two
  have v0 := hA.b7.lt
  go_wp2_with fail
  refine (fill_any 2 [1] _ ⟨#[49, 63]⟩ _ hA.one (by decide)).mono ?_
  rintro e wf1 ⟨q, S1, hq, rfl, hS, hb⟩
  obtain rfl := hq.unique aw_q1
  rw [aw_f1.1] at hS
  obtain rfl := tx_inj hS
  rw [aw_f1.2]
  clear hS hq
  have hX2 := hX.trans (hb.mono hX.size)
  have hA2 := hA.below hb
  clear hX hA hb p0 p1 v0
  have hX := hX2
  have hA := hA2
  clear hX2 hA2
  obtain ⟨p0, p1, _, _⟩ := hA.b5.two
  have v0 := hA.b5.lt
  go_wp2_with fail
  refine (fill_any 1 [5] _ ⟨#[63, 48]⟩ _ hA.five (by decide)).mono ?_
  rintro e wf2 ⟨q, S2, hq, rfl, hS, hb⟩
  obtain rfl := hq.unique aw_q2
  rw [aw_f2.1] at hS
  obtain rfl := tx_inj hS
  rw [aw_f2.2]
  clear hS hq
  have hX2 := hX.trans (hb.mono hX.size)
  have hA2 := hA.below hb
  clear hX hA hb p0 p1 v0
  have hX := hX2
  have hA := hA2
  clear hX2 hA2
  obtain ⟨p0, p1, _, _⟩ := hA.b9.two
  have v0 := hA.b9.lt
  go_wp2_with fail
  refine (test_any 4 [] _ ⟨#[49]⟩ _ hA.perm (by decide)).mono ?_
  rintro e wu0 ⟨rfl, hb⟩
  rw [aw_u0.1, aw_u0.2]
  have hX2 := hX.trans (hb.mono hX.size)
  have hA2 := hA.below hb
  clear hX hA hb p0 p1 v0
  have hX := hX2
  have hA := hA2
  clear hX2 hA2
  obtain ⟨p0, p1, _, _⟩ := hA.b3.two
  have v0 := hA.b3.lt
  go_wp2_with fail
  refine (test_any 2 [2, 3, 4, 5, 6, 7, 8, 9, 10] _ ⟨#[88, 49]⟩ _ hA.isbn (by decide)).mono ?_
  rintro e wu1 ⟨rfl, hb⟩
  rw [aw_u1.1, aw_u1.2]
  have hX2 := hX.trans (hb.mono hX.size)
  have hA2 := hA.below hb
  clear hX hA hb p0 p1 v0
  have hX := hX2
  have hA := hA2
  clear hX2 hA2
  go_wp2
  go_ret
  exact ⟨rfl, hX⟩
end Go.Proofs.YtnmnfbibjghjhaaDoor
