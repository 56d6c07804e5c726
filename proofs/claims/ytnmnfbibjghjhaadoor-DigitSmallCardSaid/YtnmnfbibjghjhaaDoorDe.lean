/-
  The walks of last, shown and Right.
-/
import Derived.Deep.Cut
import Derived.Deep.CutRange
import Derived.Deep.RegionHeld3
import Derived.Test.YtnmnfbibjghjhaaDoorDd
namespace Go.Proofs.YtnmnfbibjghjhaaDoor
open Go.RowKit Dig

theorem Tabs.drewN {W : World} (h : Tabs W) (n : Nat) : Tabs (W.drewN n) := h
theorem invFirst : ∀ r < 10, ∀ x < 10, prod r x = 0 → inv r = x := by decide

theorem index_arr (r i : Nat) (hi : i < 10) (W : World) : (Instr.index 76 (.agg #[.int .i64 ((prod r 0 : Nat) : Int), .int .i64 ((prod r 1 : Nat) : Int), .int .i64 ((prod r 2 : Nat) : Int), .int .i64 ((prod r 3 : Nat) : Int), .int .i64 ((prod r 4 : Nat) : Int), .int .i64 ((prod r 5 : Nat) : Int), .int .i64 ((prod r 6 : Nat) : Int), .int .i64 ((prod r 7 : Nat) : Int), .int .i64 ((prod r 8 : Nat) : Int), .int .i64 ((prod r 9 : Nat) : Int)]) (.int .i64 (i : Int))).run Tryd.prog W = .ok (.int .i64 ((prod r i : Nat) : Int)) W := by
  rcases (by omega : i = 0 ∨ i = 1 ∨ i = 2 ∨ i = 3 ∨ i = 4 ∨ i = 5 ∨ i = 6 ∨ i = 7 ∨ i = 8 ∨ i = 9) with rfl | rfl | rfl | rfl | rfl | rfl | rfl | rfl | rfl | rfl
  all_goals kernel_rfl

set_option maxHeartbeats 4000000 in
theorem last_any (k : Nat) (ws vs : List Nat) (sv lv : Value) (w : World) (hs : SysAt w k ws sv) (hr : NatRow w lv vs) (hl : vs.length ≤ 100) (hv : ∀ v ∈ vs, v ≤ 10) (hv4 : k = 4 → ∀ v ∈ vs, v < 10) :
    Calls Tryd.prog 36 #[.agg #[.int .u8 k, sv], lv] w fun e w' => e = .returned (.int .i64 (lastOf k ws vs : Nat)) ∧ Below w.heap.size w w' := by
  have HS := Lib.hid hs
  have HR := Lib.hid hr
  obtain ⟨_, ⟨sp, sc, rfl, _⟩, _⟩ := hs
  obtain ⟨p, c, rfl, _⟩ := hr
  go_enter Tryd.func36, Tryd.ntmps36
  go_wp2_with fail
  have x0 : BlockAt (w.alloc (.cells #[.int .u8 k, .slice sp ws.length sc] 25)) w.heap.size #[.int .u8 k, .slice sp ws.length sc] 25 := BlockAt.new w _ 25
  have hX : Below w.heap.size w (w.alloc (.cells #[.int .u8 k, .slice sp ws.length sc] 25)) := (Below.refl _ w).alloc (Nat.le_refl _) _
  refine (result_any k ws vs _ _ _ (HS.out.below (Nat.le_refl _) hX) (HR.out.below (Nat.le_refl _) hX) hl hv hv4).mono ?_
  rintro e w2 ⟨rfl, hb2⟩
  have x2 := x0.below hb2
  have hX2 := hX.trans (hb2.mono (by simp))
  clear x0 hX hb2
  obtain ⟨p0, p1, _, _⟩ := x2.two
  have v0 := x2.lt
  by_cases h4 : k = 4
  · have hk4 : ((k : Int) == 4) = true := by rw [beq_iff_eq]; omega
    have hres : result k ws vs < 10 := by rw [h4]; unfold result; rw [if_pos rfl]; exact permFrom_lt vs 0 0 (by decide) (hv4 h4)
    have hlast : lastOf k ws vs = inv (result k ws vs) := by unfold lastOf; rw [if_pos h4]
    obtain ⟨r, hre⟩ : ∃ r, result k ws vs = r := ⟨_, rfl⟩
    rw [hre] at hres hlast ⊢
    have HL := Lib.hid hlast
    have hT := (HS.out.tabs.below (Nat.le_refl _) hX2).2
    clear hre hlast
    have hri : (r : Int) < 10 := by omega
    have hrow : ∀ y : Nat, y < 10 → w2.cell? ⟨1, r * 10 + y, none⟩ = some (.int .i64 ((prod r y : Nat) : Int)) := fun y hy => hT r y hres hy
    clear hT
    have c0 : w2.cell? ⟨1, r * 10, none⟩ = some (.int .i64 ((prod r 0 : Nat) : Int)) := hrow 0 (by decide)
    have c1 := hrow 1 (by decide)
    have c2 := hrow 2 (by decide)
    have c3 := hrow 3 (by decide)
    have c4 := hrow 4 (by decide)
    have c5 := hrow 5 (by decide)
    have c6 := hrow 6 (by decide)
    have c7 := hrow 7 (by decide)
    have c8 := hrow 8 (by decide)
    have c9 := hrow 9 (by decide)
    clear hrow
    go_wp2_with fail
    clear c0 c1 c2 c3 c4 c5 c6 c7 c8 c9
    have hAi := fun i hi => index_arr r i hi w2
    obtain ⟨A, hA⟩ : ∃ A, Value.agg #[.int .i64 ((prod r 0 : Nat) : Int), .int .i64 ((prod r 1 : Nat) : Int), .int .i64 ((prod r 2 : Nat) : Int), .int .i64 ((prod r 3 : Nat) : Int), .int .i64 ((prod r 4 : Nat) : Int), .int .i64 ((prod r 5 : Nat) : Int), .int .i64 ((prod r 6 : Nat) : Int), .int .i64 ((prod r 7 : Nat) : Int), .int .i64 ((prod r 8 : Nat) : Int), .int .i64 ((prod r 9 : Nat) : Int)] = A := ⟨_, rfl⟩
    rw [hA]
    rw [hA] at hAi
    clear hA
    go_loopw [17] (fun iv wz => ∃ i : Nat, iv = .int .i64 i ∧ i ≤ 10 ∧ Hid (∀ j < i, prod r j ≠ 0) ∧ wz = w2)
      (fun iv _ => 10 - (intOf iv).toNat)
    case atStart => exact ⟨0, rfl, by omega, Lib.hid (fun j hj => by omega), rfl⟩
    case round =>
      obtain ⟨i, rfl, hi, hno, rfl⟩ := hrel
      by_cases h10 : i = 10
      · exact absurd (prod_inv2 r hres) (hno.out _ (by rw [h10]; exact inv_lt r hres))
      · obtain ⟨q, hq⟩ : ∃ q, prod r i = q := ⟨_, rfl⟩
        have hidx := hAi i (by omega)
        rw [hq] at hidx
        have hii : (i : Int) < 10 := by omega
        by_cases hz : q = 0
        · have HI := Lib.hid (invFirst r hres i (by omega) (hq.trans hz))
          subst hz
          clear hno hq hAi
          go_wp2
          go_ret
          exact ⟨by rw [HL.out, HI.out]; rfl, ⟨hX2.os, hX2.tape, hX2.output, hX2.size, hX2.block⟩⟩
        · have HN : Hid (∀ j < i + 1, prod r j ≠ 0) := Lib.hid (fun j hj => by
            by_cases e : j = i
            · rw [e, hq]; exact hz
            · exact hno.out j (by omega))
          have hzb : ((q : Int) == 0) = false := by rw [beq_eq_false_iff_ne]; omega
          clear hno hq hAi
          go_wp2
          go_roundw
          case rel => exact ⟨i + 1, by go_num, by omega, HN, trivial⟩
          case measure => simp [intOf]; omega
  · have hk4 : ((k : Int) == 4) = false := by rw [beq_eq_false_iff_ne]; omega
    have hmp := modOf_ge k
    have hml := modOf_le k
    have hlast : lastOf k ws vs = (modOf k - result k ws vs) % modOf k := by unfold lastOf; rw [if_neg h4]
    have hrlt : result k ws vs < modOf k := by unfold result; rw [if_neg h4]; exact Nat.mod_lt _ (modOf_pos k)
    obtain ⟨r, hre⟩ : ∃ r, result k ws vs = r := ⟨_, rfl⟩
    obtain ⟨M, hM⟩ : ∃ M, modOf k = M := ⟨_, rfl⟩
    rw [hre, hM] at hlast
    rw [hre, hM] at hrlt
    rw [hre]
    rw [hM] at hmp hml
    have HL := Lib.hid hlast
    have hM2 : modOf (Int.toNat (k : Int)) = M := by rw [Int.toNat_natCast]; exact hM
    clear hre hlast hM
    have hmz : ((M : Int) == 0) = false := by rw [beq_eq_false_iff_ne]; omega
    have hMn : ¬ M = 0 := by omega
    have hMi : ¬ (M : Int) = 0 := by omega
    have hw0 : IntKind.i64.wrap ((M : Int) - (r : Int)) = ((M - r : Nat) : Int) := by rw [IntKind.wrap_i64]; omega
    have hw2 : IntKind.i64.wrap ((((M - r : Nat) : Int)).tmod (M : Int)) = (((M - r) % M : Nat) : Int) := by
      rw [Int.tmod_eq_emod_of_nonneg (by omega), ← Int.natCast_emod, IntKind.wrap_i64]
      have := Nat.mod_lt (M - r) (show 0 < M by omega)
      omega
    go_upto_region 9 with fail
    go_region_held3 (fun w' => w'.cell? ⟨w.heap.size, 0, none⟩ = some (.int .u8 k) ∧ w'.cell? ⟨w.heap.size, 1, none⟩ = some (.slice sp ws.length sc)) (go_keep)
      (first
        | (go_at_call 38; refine (mod_any k _ _ (by omega)).mono ?_; rintro e w4 ⟨rfl, hb4⟩; rw [hM2]; have y4 : BlockAt w4 w.heap.size #[.int .u8 k, .slice sp ws.length sc] 25 := BlockAt.below (by first | exact y3 | exact y3.drew) hb4; obtain ⟨a0, a1, _, _⟩ := y4.two; have v4 := y4.lt)
        | (go_at_call 38; refine (mod_any k _ _ (by omega)).mono ?_; rintro e w3 ⟨rfl, hb3⟩; rw [hM2]; have y3 : BlockAt w3 w.heap.size #[.int .u8 k, .slice sp ws.length sc] 25 := BlockAt.below (by first | exact x2 | exact x2.drew) hb3; obtain ⟨a0, a1, _, _⟩ := y3.two; have v3 := y3.lt))
    go_wp2
    go_ret
    exact ⟨by rw [HL.out]; rfl, (hX2.drew.trans (hb3.mono (by show w.heap.size ≤ w2.heap.size; omega))).trans (hb4.mono (by show w.heap.size ≤ w3.heap.size; omega))⟩
end Go.Proofs.YtnmnfbibjghjhaaDoor
