/-
  The walk of texts: Check, Append, Test and Fill beside the reference.
-/
import Derived.Test.YtnmnfbibjghjhaaDoorEe
import Derived.Test.YtnmnfbibjghjhaaDoorEf
namespace Go.Proofs.YtnmnfbibjghjhaaDoor
open Go.RowKit Dig

set_option maxHeartbeats 4000000 in
theorem append2_any (k : Nat) (ws : List Int) (v : Value) (s : ByteArray) (w : World) (hs : SysIn w k ws v) (hl : s.size ≤ 999) :
    Calls Tryd.prog 13 #[.agg #[.int .u8 k, v], .string s] w fun e w' => ∃ S : ByteArray, e = .returned (.tuple #[.string S, .int .i64 (checkErr k ws (tx s) : Nat)]) ∧ S = (if checkErr k ws (tx s) = 0 then s ++ ⟨#[UInt8.ofNat (checkVal k ws (tx s))]⟩ else ⟨#[]⟩) ∧ Below w.heap.size w w' := by
  have HS := Lib.hid hs
  obtain ⟨⟨p, c, rfl, _⟩, _⟩ := hs
  obtain ⟨E, hE⟩ : ∃ E, checkErr k ws (tx s) = E := ⟨_, rfl⟩
  obtain ⟨C, hC⟩ : ∃ C, checkVal k ws (tx s) = C := ⟨_, rfl⟩
  rw [hE, hC]
  have hC256 : C < 256 := by rw [← hC]; exact checkVal_lt k ws (tx s)
  have H1 := Lib.hid hE
  have H2 := Lib.hid hC
  clear hE hC
  have hX : Below w.heap.size w (w.alloc (.cells #[.int .u8 k, .slice p ws.length c] 25)) := (Below.refl _ w).alloc (Nat.le_refl _) _
  go_enter Tryd.func13, Tryd.ntmps13
  go_wp2_with fail
  refine (check_any k ws _ s _ (HS.out.below (Nat.le_refl _) hX) hl).mono ?_
  rintro e w1 ⟨rfl, hb1⟩
  rw [H1.out, H2.out]
  by_cases h0 : E = 0
  · subst h0
    have hconv := conv_one w1 C hC256
    go_wp2
    go_ret2
    exact ⟨_, rfl, (by first | rfl | rw [if_pos rfl]), (hX.trans (hb1.mono (by simp))).alloc (by have := hb1.size; simp at this; omega) _⟩
  · have h0i : ((E : Int) == 0) = false := by rw [beq_eq_false_iff_ne]; omega
    have HE := Lib.hid h0
    clear h0
    go_wp2
    go_ret2
    exact ⟨_, rfl, (by first | rfl | rw [if_neg HE.out]), hX.trans (hb1.mono (by simp))⟩

set_option maxRecDepth 100000 in
set_option maxHeartbeats 16000000 in
theorem texts_any (k : Nat) (ws : List Int) (v : Value) (s : ByteArray) (w : World) (hs : SysIn w k ws v) (hl : s.size ≤ 900) :
    Calls Tryd.prog 28 #[.agg #[.int .u8 k, v], .string s] w fun e w' => e = .returned (.bool true) ∧ Below w.heap.size w w' := by
  have HS := Lib.hid hs
  obtain ⟨⟨p, c, rfl, _⟩, _⟩ := hs
  obtain ⟨E, hE⟩ : ∃ E, checkErr k ws (tx s) = E := ⟨_, rfl⟩
  obtain ⟨V, hV⟩ : ∃ V, checkVal k ws (tx s) = V := ⟨_, rfl⟩
  obtain ⟨F, hF⟩ : ∃ F, chkErr k ws (tx s) = F := ⟨_, rfl⟩
  obtain ⟨B, hB⟩ : ∃ B, testB k ws (tx s) = B := ⟨_, rfl⟩
  have hV256 : V < 256 := by rw [← hV]; exact checkVal_lt k ws (tx s)
  have HE := Lib.hid hE
  have HV := Lib.hid hV
  have HF := Lib.hid hF
  have HB := Lib.hid hB
  clear hE hV hF hB
  have hS1z : ¬ 9223372036854775807 < s.size + 1 := by omega
  have x0 : BlockAt (w.alloc (.cells #[.int .u8 k, .slice p ws.length c] 25)) w.heap.size #[.int .u8 k, .slice p ws.length c] 25 := BlockAt.new w _ 25
  have hY : Below w.heap.size w (w.alloc (.cells #[.int .u8 k, .slice p ws.length c] 25)) := (Below.refl _ w).alloc (Nat.le_refl _) _
  have HXB := Lib.hid x0
  have hY0 := Below.refl (w.alloc (.cells #[.int .u8 k, .slice p ws.length c] 25)).heap.size (w.alloc (.cells #[.int .u8 k, .slice p ws.length c] 25))
  go_enter Tryd.func28, Tryd.ntmps28
  go_wp2_with fail
  refine (check_any k ws _ s _ (HS.out.below (Nat.le_refl _) hY) (by omega)).mono ?_
  rintro e w1 ⟨rfl, hb⟩
  rw [HE.out, HV.out]
  have x1 := x0.below hb
  have hY1 := hY.trans (hb.mono (by simp))
  clear x0 hY hb HXB hY0
  obtain ⟨p0, p1, _, _⟩ := x1.two
  have v0 := x1.lt
  go_wp2_with fail
  refine (rcheck_any k ws _ s _ (HS.out.below (Nat.le_refl _) hY1).row hl).mono ?_
  rintro e w2 ⟨rfl, hb⟩
  rw [HE.out, HV.out]
  have x2 := x1.below hb
  have hY2 := hY1.trans (hb.mono (Nat.le_of_lt v0))
  clear x1 hY1 hb p0 p1 v0
  obtain ⟨p0, p1, _, _⟩ := x2.two
  have v0 := x2.lt
  go_wp2_with fail
  refine (append2_any k ws _ s _ (HS.out.below (Nat.le_refl _) hY2) (by omega)).mono ?_
  rintro e w3 ⟨Sa, rfl, hSa, hb⟩
  rw [HE.out]
  rw [HE.out, HV.out] at hSa
  have x3 := x2.below hb
  have hY3 := hY2.trans (hb.mono (Nat.le_of_lt v0))
  clear x2 hY2 hb p0 p1 v0
  by_cases h0 : E = 0
  · rw [if_pos h0] at hSa
    subst hSa
    subst h0
    have hconv := conv_one w3 V hV256
    obtain ⟨p0, p1, _, _⟩ := (x3.alloc (.cells #[.int .u8 (V : Int)] 5)).two
    have x4 := x3.alloc (.cells #[.int .u8 (V : Int)] 5)
    have hY4 := hY3.alloc hY3.size (.cells #[.int .u8 (V : Int)] 5)
    clear x3 hY3 p0 p1
    have x3 := x4
    have hY3 := hY4
    clear x4 hY4
    obtain ⟨p0, p1, _, _⟩ := x3.two
    have v0 := x3.lt
    go_wp2_with fail
    refine (test_any k ws _ s _ (HS.out.below (Nat.le_refl _) hY3) (by omega)).mono ?_
    rintro e w4 ⟨rfl, hb⟩
    rw [HF.out, HB.out]
    have x4 := x3.below hb
    have hY4 := hY3.trans (hb.mono (Nat.le_of_lt v0))
    clear x3 hY3 hb p0 p1 v0
    obtain ⟨p0, p1, _, _⟩ := x4.two
    have v0 := x4.lt
    go_wp2_with fail
    refine (rtest_any k ws _ s _ (HS.out.below (Nat.le_refl _) hY4).row (by omega)).mono ?_
    rintro e w5 ⟨rfl, hb⟩
    rw [HF.out, HB.out]
    have x5 := x4.below hb
    have hY5 := hY4.trans (hb.mono (Nat.le_of_lt v0))
    clear x4 hY4 hb p0 p1 v0
    obtain ⟨p0, p1, _, _⟩ := x5.two
    have v0 := x5.lt
    go_wp2_with fail
    refine (fill_any k ws _ s _ (HS.out.below (Nat.le_refl _) hY5) (by omega)).mono ?_
    rintro e w6 ⟨q1, Sf, hq1, rfl, hSf, hb⟩
    obtain ⟨G, hG⟩ : ∃ G, fillErr k ws (tx s) q1 = G := ⟨_, rfl⟩
    rw [hG]
    have HQ1 := Lib.hid hq1
    have HSf := Lib.hid hSf
    have HG := Lib.hid hG
    clear hq1 hSf hG
    have x6 := x5.below hb
    have hY6 := hY5.trans (hb.mono (Nat.le_of_lt v0))
    clear x5 hY5 hb p0 p1 v0
    obtain ⟨p0, p1, _, _⟩ := x6.two
    have v0 := x6.lt
    go_wp2_with fail
    refine (rfill_any k ws _ s _ (HS.out.below (Nat.le_refl _) hY6).row hl).mono ?_
    rintro e w7 ⟨q2, Sg, hq2, rfl, hSg, hb⟩
    obtain rfl := hq2.unique HQ1.out
    obtain rfl : Sg = Sf := tx_inj (by rw [hSg, HSf.out])
    rw [HG.out]
    clear hq2 hSg
    have x7 := x6.below hb
    have hY7 := hY6.trans (hb.mono (Nat.le_of_lt v0))
    clear x6 hY6 hb p0 p1 v0
    go_wp2
    go_ret
    exact ⟨rfl, hY7⟩
  · rw [if_neg h0] at hSa
    subst hSa
    have h0b : ((E : Int) == 0) = false := by rw [beq_eq_false_iff_ne]; omega
    clear h0
    obtain ⟨p0, p1, _, _⟩ := x3.two
    have v0 := x3.lt
    go_wp2_with fail
    refine (test_any k ws _ s _ (HS.out.below (Nat.le_refl _) hY3) (by omega)).mono ?_
    rintro e w4 ⟨rfl, hb⟩
    rw [HF.out, HB.out]
    have x4 := x3.below hb
    have hY4 := hY3.trans (hb.mono (Nat.le_of_lt v0))
    clear x3 hY3 hb p0 p1 v0
    obtain ⟨p0, p1, _, _⟩ := x4.two
    have v0 := x4.lt
    go_wp2_with fail
    refine (rtest_any k ws _ s _ (HS.out.below (Nat.le_refl _) hY4).row (by omega)).mono ?_
    rintro e w5 ⟨rfl, hb⟩
    rw [HF.out, HB.out]
    have x5 := x4.below hb
    have hY5 := hY4.trans (hb.mono (Nat.le_of_lt v0))
    clear x4 hY4 hb p0 p1 v0
    obtain ⟨p0, p1, _, _⟩ := x5.two
    have v0 := x5.lt
    go_wp2_with fail
    refine (fill_any k ws _ s _ (HS.out.below (Nat.le_refl _) hY5) (by omega)).mono ?_
    rintro e w6 ⟨q1, Sf, hq1, rfl, hSf, hb⟩
    obtain ⟨G, hG⟩ : ∃ G, fillErr k ws (tx s) q1 = G := ⟨_, rfl⟩
    rw [hG]
    have HQ1 := Lib.hid hq1
    have HSf := Lib.hid hSf
    have HG := Lib.hid hG
    clear hq1 hSf hG
    have x6 := x5.below hb
    have hY6 := hY5.trans (hb.mono (Nat.le_of_lt v0))
    clear x5 hY5 hb p0 p1 v0
    obtain ⟨p0, p1, _, _⟩ := x6.two
    have v0 := x6.lt
    go_wp2_with fail
    refine (rfill_any k ws _ s _ (HS.out.below (Nat.le_refl _) hY6).row hl).mono ?_
    rintro e w7 ⟨q2, Sg, hq2, rfl, hSg, hb⟩
    obtain rfl := hq2.unique HQ1.out
    obtain rfl : Sg = Sf := tx_inj (by rw [hSg, HSf.out])
    rw [HG.out]
    clear hq2 hSg
    have x7 := x6.below hb
    have hY7 := hY6.trans (hb.mono (Nat.le_of_lt v0))
    clear x6 hY6 hb p0 p1 v0
    go_wp2
    go_ret
    exact ⟨rfl, hY7⟩
end Go.Proofs.YtnmnfbibjghjhaaDoor
