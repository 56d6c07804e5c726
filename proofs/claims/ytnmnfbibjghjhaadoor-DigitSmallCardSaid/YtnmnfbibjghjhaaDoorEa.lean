/-
  The reference's walks: turn, product, sum, Passes.
-/
import Derived.Test.YtnmnfbibjghjhaaDoorDo
namespace Go.Proofs.YtnmnfbibjghjhaaDoor
open Go.RowKit Dig

set_option maxHeartbeats 4000000 in
theorem rturn_any (x : Nat) (w : World) (hx : x < 10) :
    Calls Tryd.prog 51 #[.int .i64 x] w fun e w' => e = .returned (.int .i64 (turn1 x : Nat)) ∧ Below w.heap.size w w' := by
  rcases (by omega : x = 0 ∨ x = 1 ∨ x = 2 ∨ x = 3 ∨ x = 4 ∨ x = 5 ∨ x = 6 ∨ x = 7 ∨ x = 8 ∨ x = 9) with rfl | rfl | rfl | rfl | rfl | rfl | rfl | rfl | rfl | rfl
  all_goals
    go_enter Tryd.func51, Tryd.ntmps51
    go_wp2
    go_ret
    exact ⟨by kernel_rfl, Below.refl _ w⟩
theorem prod_def : ∀ x < 10, ∀ y < 10, prod x y = if x < 5 then (if y < 5 then (x + y) % 5 else 5 + (x + y) % 5) else (if y < 5 then 5 + (x + 5 - y) % 5 else (x + 5 - y) % 5) := by decide
set_option maxHeartbeats 4000000 in
theorem rproduct_any (x y : Nat) (w : World) (hx : x < 10) (hy : y < 10) :
    Calls Tryd.prog 52 #[.int .i64 x, .int .i64 y] w fun e w' => e = .returned (.int .i64 (prod x y : Nat)) ∧ Below w.heap.size w w' := by
  have hd := prod_def x hx y hy
  have hw1 : IntKind.i64.wrap ((x : Int) + (y : Int)) = (x : Int) + (y : Int) := by rw [IntKind.wrap_i64]; omega
  have hw2 : IntKind.i64.wrap ((x : Int) + 5) = (x : Int) + 5 := by rw [IntKind.wrap_i64]; omega
  have hw3 : IntKind.i64.wrap ((x : Int) + 5 - (y : Int)) = (x : Int) + 5 - (y : Int) := by rw [IntKind.wrap_i64]; omega
  obtain ⟨q, hq⟩ : ∃ q, (x + y) % 5 = q := ⟨_, rfl⟩
  obtain ⟨r, hr⟩ : ∃ r, (x + 5 - y) % 5 = r := ⟨_, rfl⟩
  have ht1 : ((x : Int) + (y : Int)).tmod 5 = (q : Int) := by rw [Int.tmod_eq_emod_of_nonneg (by omega)]; omega
  have ht2 : 5 ≤ x → ((x : Int) + 5 - (y : Int)).tmod 5 = (r : Int) := fun h => by rw [Int.tmod_eq_emod_of_nonneg (by omega)]; omega
  have he1 : ((x : Int) + (y : Int)) % 5 = (q : Int) := by omega
  have he2 : 5 ≤ x → ((x : Int) + 5 - (y : Int)) % 5 = (r : Int) := fun h => by omega
  have hq5 : q < 5 := by omega
  have hr5 : r < 5 := by omega
  have hw4 : IntKind.i64.wrap (q : Int) = (q : Int) := by rw [IntKind.wrap_i64]; omega
  have hw5 : IntKind.i64.wrap (r : Int) = (r : Int) := by rw [IntKind.wrap_i64]; omega
  have hw6 : IntKind.i64.wrap (5 + (q : Int)) = 5 + (q : Int) := by rw [IntKind.wrap_i64]; omega
  have hw7 : IntKind.i64.wrap (5 + (r : Int)) = 5 + (r : Int) := by rw [IntKind.wrap_i64]; omega
  have HT2 := Lib.hid ht2
  have HE2 := Lib.hid he2
  clear ht2 he2
  rw [hq, hr] at hd
  obtain ⟨P, hP⟩ : ∃ P, prod x y = P := ⟨_, rfl⟩
  rw [hP] at hd ⊢
  clear hq hr hP
  by_cases h1 : x < 5
  · have h1i : (x : Int) < 5 := by omega
    rw [if_pos h1] at hd
    by_cases h2 : y < 5
    · have h2i : (y : Int) < 5 := by omega
      rw [if_pos h2] at hd
      subst hd
      go_enter Tryd.func52, Tryd.ntmps52
      go_wp2
      go_ret
      exact ⟨rfl, Below.refl _ w⟩
    · have h2i : ¬ (y : Int) < 5 := by omega
      rw [if_neg h2] at hd
      subst hd
      go_enter Tryd.func52, Tryd.ntmps52
      go_wp2
      go_ret
      exact ⟨by show _ = Ending.returned (Value.int IntKind.i64 ((5 + q : Nat) : Int)); rw [Int.natCast_add]; rfl, Below.refl _ w⟩
  · have h1i : ¬ (x : Int) < 5 := by omega
    rw [if_neg h1] at hd
    have ht2 := HT2.out (by omega)
    have he2 := HE2.out (by omega)
    by_cases h2 : y < 5
    · have h2i : (y : Int) < 5 := by omega
      rw [if_pos h2] at hd
      subst hd
      go_enter Tryd.func52, Tryd.ntmps52
      go_wp2
      go_ret
      exact ⟨by show _ = Ending.returned (Value.int IntKind.i64 ((5 + r : Nat) : Int)); rw [Int.natCast_add]; rfl, Below.refl _ w⟩
    · have h2i : ¬ (y : Int) < 5 := by omega
      rw [if_neg h2] at hd
      subst hd
      go_enter Tryd.func52, Tryd.ntmps52
      go_wp2
      go_ret
      exact ⟨rfl, Below.refl _ w⟩

theorem sum_snoc (k : Nat) (ws vs : List Nat) (p x : Nat) (h : vs[p]? = some x) : sumFrom k ws 0 (vs.take (p + 1)) = sumFrom k ws 0 (vs.take p) + worth k ws p x := by
  have hl := (List.getElem?_eq_some_iff.1 h).1
  rw [List.take_add_one, h, Option.toList_some, sumFrom_append, List.length_take, Nat.min_eq_left (by omega), Nat.zero_add]
  show sumFrom k ws 0 (vs.take p) + (worth k ws p x + 0) = _
  rw [Nat.add_zero]
set_option maxHeartbeats 8000000 in
theorem rsum_any (k : Nat) (ws vs : List Nat) (wv vv : Value) (w : World) (hk : (k = 3 ∧ ∀ v ∈ vs, v < 10) ∨ (k ≠ 3 ∧ 1 ≤ ws.length ∧ ws.length ≤ 10 ∧ ∀ u ∈ ws, u ≤ 10)) (hw : NatRow w wv ws) (hv : NatRow w vv vs) (hl : vs.length ≤ 31) (h10 : ∀ v ∈ vs, v ≤ 10) :
    Calls Tryd.prog 50 #[.int .u8 k, wv, vv] w fun e w' => e = .returned (.int .i64 (sumFrom k ws 0 vs : Nat)) ∧ Below w.heap.size w w' := by
  obtain ⟨p, c, rfl, hws⟩ := hw
  obtain ⟨q, d, rfl, hvs⟩ := hv
  have HW := Lib.hid hws
  have HV := Lib.hid hvs
  have HK := Lib.hid hk
  have H10 := Lib.hid h10
  obtain ⟨n, hn⟩ : ∃ n, vs.length = n := ⟨_, rfl⟩
  obtain ⟨m, hm⟩ : ∃ m, ws.length = m := ⟨_, rfl⟩
  rw [hn] at hl ⊢
  rw [hm] at hk ⊢
  have HN := Lib.hid hn
  have HM := Lib.hid hm
  clear hws hvs h10 hn hm
  go_enter Tryd.func50, Tryd.ntmps50
  go_wp2
  go_loopw [7, 8] (fun ov iv wr => ∃ i s : Nat, iv = .int .i64 i ∧ i ≤ n ∧ ov = .int .i64 s ∧ s ≤ 100 * i ∧ Hid (s = sumFrom k ws 0 (vs.take i)) ∧ Below w.heap.size w wr)
    (fun _ iv _ => n - (intOf iv).toNat)
  case atStart => exact ⟨0, 0, rfl, by omega, rfl, by omega, Lib.hid rfl, Below.refl _ w⟩
  case round =>
    obtain ⟨i, s, rfl, hi, rfl, hs, hsum, hY⟩ := hrel
    have hwi : IntKind.i64.wrap ((i : Int) + 1) = (i : Int) + 1 := by rw [IntKind.wrap_i64]; omega
    by_cases hin : i < n
    · have hini : (i : Int) < (n : Int) := by omega
      obtain ⟨x, hx⟩ : ∃ x, vs[i]? = some x := ⟨_, List.getElem?_eq_getElem (by rw [HN.out]; exact hin)⟩
      obtain ⟨b, o, rfl, hbl, hcx⟩ : ∃ b o, q = some ⟨b, o, none⟩ ∧ b < w.heap.size ∧ w.cell? ⟨b, o + i, none⟩ = some (.int .i64 (x : Int)) := by
        rcases HV.out with h0 | ⟨b, o, hq, hb, hc⟩
        · rw [h0] at hx; cases hx
        · exact ⟨b, o, hq, hb, hc i x hx⟩
      have hcx := (hY.cell (p := ⟨b, o + i, none⟩) hbl).trans hcx
      have hx10 := H10.out x (List.mem_of_getElem? hx)
      have hstep := sum_snoc k ws vs i x hx
      rw [← hsum.out] at hstep
      obtain ⟨W, hW⟩ : ∃ W, worth k ws i x = W := ⟨_, rfl⟩
      rw [hW] at hstep
      rcases hk with ⟨rfl, hx9⟩ | ⟨hk3, hm1, hm10, hu⟩
      · have hx9 := hx9 x (List.mem_of_getElem? hx)
        have hWd : dbl i x = W := hW
        have HSt := Lib.hid hstep
        clear hx hstep hW
        unfold dbl at hWd
        by_cases hp : i % 2 = 0
        · rw [if_pos hp] at hWd
          have hp2 : ((i : Int) % 2 == 1) = false := by rw [beq_eq_false_iff_ne]; omega
          have hp3 : ¬ (i : Int) % 2 = 1 := by omega
          have hws : IntKind.i64.wrap ((s : Int) + (x : Int)) = (s : Int) + (x : Int) := by rw [IntKind.wrap_i64]; omega
          clear hp
          go_wp2
          go_roundw
          case rel => exact ⟨i + 1, s + x, by go_num, by omega, by go_num, by omega, Lib.hid (by rw [HSt.out, hWd]), hY⟩
          case measure => simp [intOf] <;> omega
        · rw [if_neg hp] at hWd
          have hp2 : (i : Int) % 2 = 1 := by omega
          have hxx : IntKind.i64.wrap ((x : Int) + (x : Int)) = (x : Int) + (x : Int) := by rw [IntKind.wrap_i64]; omega
          clear hp
          by_cases h9 : 9 < x + x
          · have h9i : (9 : Int) < (x : Int) + (x : Int) := by omega
            have hx2 : IntKind.i64.wrap ((x : Int) + (x : Int) - 9) = (W : Int) := by rw [IntKind.wrap_i64]; omega
            have hws : IntKind.i64.wrap ((s : Int) + (W : Int)) = (s : Int) + (W : Int) := by rw [IntKind.wrap_i64]; omega
            have HWd := Lib.hid hWd
            clear hWd
            go_wp2
            go_roundw
            case rel => exact ⟨i + 1, s + W, by go_num, by omega, by go_num, by have := HWd.out; omega, Lib.hid (by rw [HSt.out]), hY⟩
            case measure => simp [intOf] <;> omega
          · have h9i : ¬ (9 : Int) < (x : Int) + (x : Int) := by omega
            obtain ⟨y, hy⟩ : ∃ y, x + x = y := ⟨_, rfl⟩
            have hyi : (x : Int) + (x : Int) = (y : Int) := by omega
            have h9j : ¬ (9 : Int) < (y : Int) := by omega
            have hyW : y = W := by omega
            have hws : IntKind.i64.wrap ((s : Int) + (y : Int)) = (s : Int) + (y : Int) := by rw [IntKind.wrap_i64]; omega
            have HWd := Lib.hid hyW
            clear hWd hy hyW
            go_wp2
            go_roundw
            case rel => exact ⟨i + 1, s + y, by go_num, by omega, by go_num, by omega, Lib.hid (by rw [HSt.out, HWd.out]), hY⟩
            case measure => simp [intOf] <;> omega
      · have hWd : wt ws i * x = W := by rw [← hW]; unfold worth; rw [if_neg hk3]
        have hk3b : ((k : Int) == 3) = false := by rw [beq_eq_false_iff_ne]; omega
        have hk3c : ((k : Int) != 3) = true := by rw [bne_iff_ne]; omega
        have hk3i : ¬ (k : Int) = 3 := by omega
        have HSt := Lib.hid hstep
        clear hx hstep hW
        by_cases hp : i = 0
        · have hW1 : x = W := by rw [← hWd]; unfold wt; rw [if_pos hp, Nat.one_mul]
          have hpi : ¬ 0 < (i : Int) := by omega
          have hws : IntKind.i64.wrap ((s : Int) + (x : Int)) = (s : Int) + (x : Int) := by rw [IntKind.wrap_i64]; omega
          have HWd := Lib.hid hW1
          clear hWd hW1 hp
          go_wp2
          go_roundw
          case rel => exact ⟨i + 1, s + x, by go_num, by omega, by go_num, by omega, Lib.hid (by rw [HSt.out, HWd.out]), hY⟩
          case measure => simp [intOf] <;> omega
        · have hpi : 0 < (i : Int) := by omega
          obtain ⟨j, hj⟩ : ∃ j, j = (i - 1) % ws.length := ⟨_, rfl⟩
          have hjl : j < ws.length := by rw [hj]; exact Nat.mod_lt _ (by rw [HM.out]; omega)
          obtain ⟨u, hu0⟩ : ∃ u, ws[j]? = some u := ⟨_, List.getElem?_eq_getElem hjl⟩
          have hwt : wt ws i = u := by unfold wt; rw [if_neg hp, ← hj, List.getD_eq_getElem?_getD, hu0]; rfl
          obtain ⟨b2, o2, rfl, hbl2, hcu⟩ : ∃ b o, p = some ⟨b, o, none⟩ ∧ b < w.heap.size ∧ w.cell? ⟨b, o + j, none⟩ = some (.int .i64 (u : Int)) := by
            rcases HW.out with h0 | ⟨b, o, hq, hb, hc⟩
            · rw [h0] at hu0; cases hu0
            · exact ⟨b, o, hq, hb, hc j u hu0⟩
          have hcu := (hY.cell (p := ⟨b2, o2 + j, none⟩) hbl2).trans hcu
          have hu10 := hu u (List.mem_of_getElem? hu0)
          have hmod : ((i : Int) - 1).tmod (m : Int) = (j : Int) := by
            rw [Int.tmod_eq_emod_of_nonneg (by omega), hj, HM.out]
            have : (i : Int) - 1 = ((i - 1 : Nat) : Int) := by omega
            rw [this]; rfl
          have hmw : (IntKind.i64.wrap ((i : Int) - 1)).tmod (m : Int) = (j : Int) := by rw [show IntKind.i64.wrap ((i : Int) - 1) = (i : Int) - 1 from by rw [IntKind.wrap_i64]; omega]; exact hmod
          have hmw2 : IntKind.i64.wrap ((IntKind.i64.wrap ((i : Int) - 1)).tmod (m : Int)) = (j : Int) := by rw [hmw, IntKind.wrap_i64]; rw [HM.out] at hjl; omega
          have hmod2 : ((i : Int) - 1) % (m : Int) = (j : Int) := by
            rw [← hmod, Int.tmod_eq_emod_of_nonneg (by omega)]
          have hlz : ((m : Int) == 0) = false := by rw [beq_eq_false_iff_ne]; omega
          have hlz2 : ¬ (m : Int) = 0 := by omega
          have hjli : (j : Int) < (m : Int) := by rw [HM.out] at hjl; omega
          rw [hwt] at hWd
          have hW100 : W ≤ 100 := by
            rw [← hWd]
            exact Nat.le_trans (Nat.mul_le_mul hu10 hx10) (by decide)
          have hmul : IntKind.i64.wrap ((x : Int) * (u : Int)) = (W : Int) := by
            rw [← Int.natCast_mul, Nat.mul_comm, hWd, IntKind.wrap_i64]; omega
          have hws : IntKind.i64.wrap ((s : Int) + (W : Int)) = (s : Int) + (W : Int) := by rw [IntKind.wrap_i64]; omega
          clear hWd hj hu0 hwt hp hu
          go_wp2
          go_roundw
          case rel => exact ⟨i + 1, s + W, by go_num, by omega, by go_num, by omega, Lib.hid (by rw [HSt.out]), hY⟩
          case measure => simp [intOf] <;> omega
    · have hini : ¬ (i : Int) < (n : Int) := by omega
      go_wp2
      go_ret
      refine ⟨?_, hY⟩
      rw [List.take_of_length_le (by rw [HN.out]; omega)] at hsum
      rw [← hsum.out]
      rfl
end Go.Proofs.YtnmnfbibjghjhaaDoor
