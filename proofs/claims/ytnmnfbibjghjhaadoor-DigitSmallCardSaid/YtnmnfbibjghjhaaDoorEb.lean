/-
  The reference's walks: Passes, Right.
-/
import Derived.Test.YtnmnfbibjghjhaaDoorEa
namespace Go.Proofs.YtnmnfbibjghjhaaDoor
open Go.RowKit Dig

theorem turnN_eight : ∀ (n x : Nat), x < 10 → turnN (n + 8) x = turnN n x
  | 0, x, h => turn_eight x h
  | n + 1, x, h => by
    show turn1 (turnN (n + 8) x) = turn1 (turnN n x)
    rw [turnN_eight n x h]
theorem turnN_mod (n x : Nat) (h : x < 10) : turnN n x = turnN (n % 8) x := by
  have key : ∀ q r, turnN (r + 8 * q) x = turnN r x := fun q r => by
    induction q with
    | zero => rfl
    | succ q ih =>
      rw [show r + 8 * (q + 1) = r + 8 * q + 8 from by omega, turnN_eight _ x h]
      exact ih
  have := key (n / 8) (n % 8)
  rwa [show n % 8 + 8 * (n / 8) = n from by omega] at this
theorem perm_snoc (vs : List Nat) (p x : Nat) (h : vs[p]? = some x) : permFrom 0 0 (vs.take (p + 1)) = prod (permFrom 0 0 (vs.take p)) (turnN (p % 8) x) := by
  have hl := (List.getElem?_eq_some_iff.1 h).1
  rw [List.take_add_one, h, Option.toList_some, permFrom_append, List.length_take, Nat.min_eq_left (by omega), Nat.zero_add]
  rfl
set_option maxHeartbeats 8000000 in
theorem rpasses_any (k : Nat) (ws vs : List Nat) (wv vv : Value) (w : World) (hok : SysOk k ws) (hw : NatRow w wv ws) (hv : NatRow w vv vs) (hl : vs.length ≤ 31) (h10 : ∀ v ∈ vs, v ≤ 10) (h9 : k ≠ 2 → ∀ v ∈ vs, v < 10) :
    Calls Tryd.prog 47 #[.int .u8 k, wv, vv] w fun e w' => e = .returned (.bool (result k ws vs == 0)) ∧ Below w.heap.size w w' := by
  by_cases h4 : k = 4
  · subst h4
    have h9 := h9 (by decide)
    have hres : result 4 ws vs = permFrom 0 0 vs := if_pos rfl
    rw [hres]
    obtain ⟨q, d, rfl, hvs⟩ := hv
    have HV := Lib.hid hvs
    have H9 := Lib.hid h9
    obtain ⟨n, hn⟩ : ∃ n, vs.length = n := ⟨_, rfl⟩
    rw [hn] at hl ⊢
    have HN := Lib.hid hn
    clear hvs h9 h10 hn hres
    rw [show ((4 : Nat) : Int) = 4 from rfl]
    go_enter Tryd.func47, Tryd.ntmps47
    go_wp2_with fail
    go_loopw [7, 8] (fun ov iv wr => ∃ i s : Nat, iv = .int .i64 i ∧ i ≤ n ∧ ov = .int .i64 s ∧ s < 10 ∧ Hid (s = permFrom 0 0 (vs.take i)) ∧ Below w.heap.size w wr)
      (fun _ iv _ => n - (intOf iv).toNat)
    case atStart => exact ⟨0, 0, rfl, by omega, rfl, by omega, Lib.hid rfl, Below.refl _ w⟩
    case round =>
      obtain ⟨i, s, rfl, hi, rfl, hs, hsum, hY⟩ := hrel
      have hwi : IntKind.i64.wrap ((i : Int) + 1) = (i : Int) + 1 := by rw [IntKind.wrap_i64]; omega
      by_cases hin : i < n
      · have hini : (i : Int) < (n : Int) := by omega
        obtain ⟨x, hx⟩ : ∃ x, vs[i]? = some x := ⟨_, List.getElem?_eq_getElem (by rw [HN.out]; exact hin)⟩
        obtain ⟨b, o, rfl, hbl, hcx⟩ : ∃ b o, q = some ⟨b, o, none⟩ ∧ b < w.heap.size ∧ w.cell? ⟨b, o + i, none⟩ = some (.int .i64 (x : Int)) := by
          rcases HV.out with h0 | ⟨b, o, hq, hb, hc⟩
          · rw [h0] at hx; cases hx
          · exact ⟨b, o, hq, hb, hc i x hx⟩
        have hcx := (hY.cell (p := ⟨b, o + i, none⟩) hbl).trans hcx
        have hx9 := H9.out x (List.mem_of_getElem? hx)
        have HSt : Hid (permFrom 0 0 (vs.take (i + 1)) = prod s (turnN i x)) := Lib.hid (by rw [perm_snoc vs i x hx, ← hsum.out, ← turnN_mod i x hx9])
        clear hx
        obtain ⟨wq, hwq⟩ : ∃ wq, wq = wr := ⟨_, rfl⟩
        subst hwq
        go_wp2_with fail
        go_loopw [9, 10] (fun xv jv wr => ∃ j y : Nat, jv = .int .i64 j ∧ j ≤ i ∧ xv = .int .i64 y ∧ y < 10 ∧ Hid (y = turnN j x) ∧ Below w.heap.size w wr)
          (fun _ jv _ => i - (intOf jv).toNat)
        case atStart => exact ⟨0, x, rfl, by omega, rfl, hx9, Lib.hid rfl, hY⟩
        case round =>
          clear hY
          obtain ⟨j, y, rfl, hj, rfl, hy, hyt, hY⟩ := hrel
          by_cases hji : j < i
          · have hjii : (j : Int) < (i : Int) := by omega
            go_wp2_with fail
            refine (rturn_any y _ hy).mono ?_
            rintro e w2 ⟨rfl, hb2⟩
            have hY2 := hY.trans (hb2.mono hY.size)
            have hlt := turn_lt y hy
            obtain ⟨z, hz⟩ : ∃ z, turn1 y = z := ⟨_, rfl⟩
            rw [hz] at hlt ⊢
            have HZ : Hid (z = turnN (j + 1) x) := Lib.hid (by rw [← hz, hyt.out]; rfl)
            clear hz hY hb2
            go_wp2
            go_roundw
            case rel => exact ⟨j + 1, z, by go_num, by omega, rfl, hlt, HZ, hY2⟩
            case measure => simp [intOf] <;> omega
          · have hjii : ¬ (j : Int) < (i : Int) := by omega
            have hje : j = i := by omega
            go_wp2_with fail
            refine (rproduct_any s y _ hs hy).mono ?_
            rintro e w2 ⟨rfl, hb2⟩
            have hY2 := hY.trans (hb2.mono hY.size)
            have hlt := prod_lt s hs y hy
            obtain ⟨z, hz⟩ : ∃ z, prod s y = z := ⟨_, rfl⟩
            rw [hz] at hlt ⊢
            have HZ : Hid (z = permFrom 0 0 (vs.take (i + 1))) := Lib.hid (by rw [HSt.out, ← hz, hyt.out, hje])
            clear hz hY hb2 hje
            go_wp2
            go_roundw
            case rel => exact ⟨i + 1, z, by go_num, by omega, rfl, hlt, HZ, hY2⟩
            case measure => simp [intOf] <;> omega
      · have hini : ¬ (i : Int) < (n : Int) := by omega
        rw [List.take_of_length_le (by rw [HN.out]; omega)] at hsum
        by_cases h0 : s = 0
        · have h0i : (s : Int) = 0 := by omega
          have HB : Hid ((s == 0) = true) := Lib.hid (by rw [h0]; rfl)
          clear h0
          go_wp2
          go_ret
          exact ⟨by rw [← hsum.out, HB.out]; rfl, hY⟩
        · have h0b : ((s : Int) == 0) = false := by rw [beq_eq_false_iff_ne]; omega
          have HB : Hid ((s == 0) = false) := Lib.hid (beq_eq_false_iff_ne.2 h0)
          clear h0
          go_wp2
          go_ret
          exact ⟨by rw [← hsum.out, HB.out]; rfl, hY⟩
  · have hs := rsum_any k ws vs wv vv w (by
      rcases hok with ⟨h, _⟩ | ⟨h, h1, h2, h3⟩
      · have hk3 : k = 3 := by omega
        exact .inl ⟨hk3, h9 (by omega)⟩
      · exact .inr ⟨by omega, h1, h2, fun u hu => by have := (h3 u hu).2; have := modOf_le k; omega⟩) hw hv hl h10
    obtain ⟨_, _, rfl, _⟩ := hw
    obtain ⟨_, _, rfl, _⟩ := hv
    have hres : result k ws vs = sumFrom k ws 0 vs % modOf k := if_neg h4
    rw [hres]
    obtain ⟨s, hse⟩ : ∃ s, sumFrom k ws 0 vs = s := ⟨_, rfl⟩
    rw [hse] at hs ⊢
    have HS := Lib.hid hs
    have h4i : ((k : Int) == 4) = false := by rw [beq_eq_false_iff_ne]; omega
    have h4j : ((k : Int) != 4) = true := by rw [bne_iff_ne]; omega
    have h4k : ¬ (k : Int) = 4 := by omega
    clear hs hse hres h10 h9 hok
    by_cases h2 : k = 2
    · subst h2
      have hm : modOf 2 = 11 := rfl
      rw [hm]
      obtain ⟨R, hR⟩ : ∃ R, s % 11 = R := ⟨_, rfl⟩
      rw [hR]
      have ht : (s : Int).tmod 11 = (R : Int) := by rw [Int.tmod_eq_emod_of_nonneg (by omega)]; omega
      have he : (s : Int) % 11 = (R : Int) := by omega
      have hwR : IntKind.i64.wrap (R : Int) = (R : Int) := by rw [IntKind.wrap_i64]; omega
      clear hR
      go_enter Tryd.func47, Tryd.ntmps47
      go_wp2_with fail
      refine HS.out.mono ?_
      rintro e w2 ⟨rfl, hb2⟩
      by_cases h0 : R = 0
      · have h0i : (R : Int) = 0 := by omega
        have HB : Hid ((R == 0) = true) := Lib.hid (by rw [h0]; rfl)
        clear h0
        go_wp2
        go_ret
        exact ⟨by rw [HB.out]; rfl, hb2⟩
      · have h0b : ((R : Int) == 0) = false := by rw [beq_eq_false_iff_ne]; omega
        have HB : Hid ((R == 0) = false) := Lib.hid (beq_eq_false_iff_ne.2 h0)
        clear h0
        go_wp2
        go_ret
        exact ⟨by rw [HB.out]; rfl, hb2⟩
    · have h2i : ((k : Int) == 2) = false := by rw [beq_eq_false_iff_ne]; omega
      have h2k : ¬ (k : Int) = 2 := by omega
      have hm : modOf k = 10 := by unfold modOf; rw [if_neg h2]
      rw [hm]
      obtain ⟨R, hR⟩ : ∃ R, s % 10 = R := ⟨_, rfl⟩
      rw [hR]
      have ht : (s : Int).tmod 10 = (R : Int) := by rw [Int.tmod_eq_emod_of_nonneg (by omega)]; omega
      have he : (s : Int) % 10 = (R : Int) := by omega
      have hwR : IntKind.i64.wrap (R : Int) = (R : Int) := by rw [IntKind.wrap_i64]; omega
      clear hR hm h2 h4
      go_enter Tryd.func47, Tryd.ntmps47
      go_wp2_with fail
      refine HS.out.mono ?_
      rintro e w2 ⟨rfl, hb2⟩
      by_cases h0 : R = 0
      · have h0i : (R : Int) = 0 := by omega
        have HB : Hid ((R == 0) = true) := Lib.hid (by rw [h0]; rfl)
        clear h0
        go_wp2
        go_ret
        exact ⟨by rw [HB.out]; rfl, hb2⟩
      · have h0b : ((R : Int) == 0) = false := by rw [beq_eq_false_iff_ne]; omega
        have HB : Hid ((R == 0) = false) := Lib.hid (beq_eq_false_iff_ne.2 h0)
        clear h0
        go_wp2
        go_ret
        exact ⟨by rw [HB.out]; rfl, hb2⟩

set_option maxHeartbeats 8000000 in
theorem rright_any (k : Nat) (ws : List Int) (v : Value) (w : World) (hr : IntRow w v ws) :
    Calls Tryd.prog 27 #[.int .u8 k, v] w fun e w' => e = .returned (.bool (rightB k ws)) ∧ Below w.heap.size w w' := by
  obtain ⟨p, c, rfl, hcs⟩ := hr
  have hX := Below.refl w.heap.size w
  by_cases h34 : k = 3 ∨ k = 4
  · have hR : rightB k ws = decide (ws.length = 0) := by unfold rightB; rw [if_pos h34]
    rw [hR]
    obtain ⟨n, hn⟩ : ∃ n, ws.length = n := ⟨_, rfl⟩
    rw [hn]
    clear hcs hR hn
    by_cases h0 : n = 0
    · have h0i : (n : Int) = 0 := by omega
      have HB : Hid (decide (n = 0) = true) := Lib.hid (decide_eq_true h0)
      rcases h34 with rfl | rfl
      all_goals
        clear h0
        go_enter Tryd.func27, Tryd.ntmps27
        go_wp2
        go_ret
        exact ⟨by rw [HB.out]; rfl, hX⟩
    · have h0b : ((n : Int) == 0) = false := by rw [beq_eq_false_iff_ne]; omega
      have HB : Hid (decide (n = 0) = false) := Lib.hid (decide_eq_false h0)
      rcases h34 with rfl | rfl
      all_goals
        clear h0
        go_enter Tryd.func27, Tryd.ntmps27
        go_wp2
        go_ret
        exact ⟨by rw [HB.out]; rfl, hX⟩
  · by_cases h12 : k = 1 ∨ k = 2
    · have hR : rightB k ws = decide (1 ≤ ws.length ∧ ws.length ≤ 10 ∧ ∀ w ∈ ws, 1 ≤ w ∧ w < (modOf k : Nat)) := by unfold rightB; rw [if_neg h34, if_pos h12]
      rw [hR]
      obtain ⟨D, hD⟩ : ∃ D : Bool, decide (1 ≤ ws.length ∧ ws.length ≤ 10 ∧ ∀ w ∈ ws, 1 ≤ w ∧ w < (modOf k : Nat)) = D := ⟨_, rfl⟩
      rw [hD]
      have HD := Lib.hid hD
      obtain ⟨n, hn⟩ : ∃ n, ws.length = n := ⟨_, rfl⟩
      rw [hn]
      have HN := Lib.hid hn
      have HC := Lib.hid hcs
      clear hcs hR hn hD h34
      have hfalse : (∃ x ∈ ws, x < 1 ∨ (modOf k : Int) ≤ x) ∨ n = 0 ∨ 10 < n → D = false := fun h => by
        rw [← HD.out]
        refine decide_eq_false fun hh => ?_
        rw [HN.out] at hh
        rcases h with ⟨x, hx, h⟩ | h | h
        · have := hh.2.2 x hx
          omega
        · omega
        · omega
      have HF := Lib.hid hfalse
      clear hfalse
      by_cases h0 : n = 0
      · have h0i : (n : Int) = 0 := by omega
        have hDf := HF.out (.inr (.inl h0))
        subst hDf
        clear h0
        rcases h12 with rfl | rfl
        all_goals
          go_enter Tryd.func27, Tryd.ntmps27
          go_wp2
          go_ret
          exact ⟨rfl, hX⟩
      · have h0b : ((n : Int) == 0) = false := by rw [beq_eq_false_iff_ne]; omega
        by_cases h10 : 10 < n
        · have h10i : (10 : Int) < (n : Int) := by omega
          have hDf := HF.out (.inr (.inr h10))
          subst hDf
          clear h0
          rcases h12 with rfl | rfl
          all_goals
            go_enter Tryd.func27, Tryd.ntmps27
            go_wp2
            go_ret
            exact ⟨rfl, hX⟩
        · have h10i : (n : Int) ≤ 10 := by omega
          have h10j : ¬ (10 : Int) < (n : Int) := by omega
          have main : ∀ M, modOf k = M → ((k = 1 ∧ M = 10) ∨ (k = 2 ∧ M = 11)) → Calls Tryd.prog 27 #[.int .u8 k, .slice p n c] w fun e w' => e = .returned (.bool D) ∧ Below w.heap.size w w' := by
            intro M hM hcase
            have HM := Lib.hid hM
            clear hM h12
            rcases hcase with ⟨rfl, rfl⟩ | ⟨rfl, rfl⟩
            all_goals
              (first | rw [show ((1 : Nat) : Int) = 1 from rfl] | rw [show ((2 : Nat) : Int) = 2 from rfl])
              go_enter Tryd.func27, Tryd.ntmps27
              go_wp2_with fail
              go_loopw [5] (fun iv wr => ∃ i : Nat, iv = .int .i64 i ∧ i ≤ n ∧ Hid (∀ q x, q < i → ws[q]? = some x → 1 ≤ x ∧ x < (modOf _ : Nat)) ∧ Below w.heap.size w wr)
                (fun iv _ => n - (intOf iv).toNat)
              case atStart => exact ⟨0, rfl, by omega, Lib.hid (fun q x hq => by omega), hX⟩
              case round =>
                obtain ⟨i, rfl, hi, hok, hY⟩ := hrel
                have hwi : IntKind.i64.wrap ((i : Int) + 1) = (i : Int) + 1 := by rw [IntKind.wrap_i64]; omega
                by_cases hlt : i < n
                · have hlti : (i : Int) < (n : Int) := by omega
                  obtain ⟨x, hx⟩ : ∃ x, ws[i]? = some x := ⟨_, List.getElem?_eq_getElem (by rw [HN.out]; exact hlt)⟩
                  obtain ⟨b, o, rfl, hbl, hcx⟩ : ∃ b o, p = some ⟨b, o, none⟩ ∧ b < w.heap.size ∧ w.cell? ⟨b, o + i, none⟩ = some (.int .i64 x) := by
                    rcases HC.out with h0 | ⟨b, o, hq, hb, hc⟩
                    · rw [h0] at hx; cases hx
                    · exact ⟨b, o, hq, hb, hc i x hx⟩
                  have hcx := (hY.cell (p := ⟨b, o + i, none⟩) hbl).trans hcx
                  have hfx := fun h => HF.out (.inl ⟨x, List.mem_of_getElem? hx, h⟩)
                  have HFX := Lib.hid hfx
                  have HXX := Lib.hid hx
                  clear hx hfx
                  by_cases h1 : x < 1
                  · have hDf := HFX.out (.inl h1)
                    subst hDf
                    go_wp2
                    go_ret
                    exact ⟨rfl, hY⟩
                  · have h1i : (1 : Int) ≤ x := by omega
                    by_cases h11 : 10 < x
                    · have hDf := HFX.out (.inr (by rw [HM.out]; omega))
                      subst hDf
                      go_wp2
                      go_ret
                      exact ⟨rfl, hY⟩
                    · have h11i : x ≤ 10 := by omega
                      by_cases hx10 : x = 10
                      · have hx10b : (x == 10) = true := by rw [beq_iff_eq]; exact hx10
                        first
                          | (have hDf := HFX.out (.inr (by rw [HM.out, hx10]; decide))
                             subst hDf
                             subst hx10
                             go_wp2
                             go_ret
                             exact ⟨rfl, hY⟩)
                          | (have HOK2 : Hid (∀ q x, q < i + 1 → ws[q]? = some x → 1 ≤ x ∧ x < (modOf _ : Nat)) := Lib.hid (fun q y hq hy => by
                               by_cases e : q = i
                               · subst e; rw [HXX.out] at hy; cases hy; exact ⟨h1i, by rw [HM.out]; omega⟩
                               · exact hok.out q y (by omega) hy)
                             subst hx10
                             go_wp2
                             go_roundw
                             case rel => exact ⟨i + 1, by go_num, by omega, HOK2, hY⟩
                             case measure => simp [intOf] <;> omega)
                      · have hx10b : (x == 10) = false := by rw [beq_eq_false_iff_ne]; exact hx10
                        have HOK2 : Hid (∀ q x, q < i + 1 → ws[q]? = some x → 1 ≤ x ∧ x < (modOf _ : Nat)) := Lib.hid (fun q y hq hy => by
                          by_cases e : q = i
                          · subst e; rw [HXX.out] at hy; cases hy; exact ⟨h1i, by rw [HM.out]; omega⟩
                          · exact hok.out q y (by omega) hy)
                        go_wp2
                        go_roundw
                        case rel => exact ⟨i + 1, by go_num, by omega, HOK2, hY⟩
                        case measure => simp [intOf] <;> omega
                · have hii : ¬ (i : Int) < (n : Int) := by omega
                  have hDt : D = true := by
                    rw [← HD.out]
                    refine decide_eq_true ⟨by rw [HN.out]; omega, by rw [HN.out]; omega, fun x hx => ?_⟩
                    obtain ⟨q, hq, hqe⟩ := List.getElem_of_mem hx
                    exact hok.out q x (by rw [HN.out] at hq; omega) (by rw [List.getElem?_eq_getElem hq, hqe])
                  subst hDt
                  go_wp2
                  go_ret
                  exact ⟨rfl, hY⟩
          rcases h12 with rfl | rfl
          · exact main 10 rfl (.inl ⟨rfl, rfl⟩)
          · exact main 11 rfl (.inr ⟨rfl, rfl⟩)
    · have hR : rightB k ws = false := by unfold rightB; rw [if_neg h34, if_neg h12]
      rw [hR]
      have hk1 : ((k : Int) == 1) = false := by rw [beq_eq_false_iff_ne]; omega
      have hk2 : ((k : Int) == 2) = false := by rw [beq_eq_false_iff_ne]; omega
      have hk3 : ((k : Int) == 3) = false := by rw [beq_eq_false_iff_ne]; omega
      have hk4 : ((k : Int) == 4) = false := by rw [beq_eq_false_iff_ne]; omega
      have hk1n : ((k : Int) != 1) = true := by rw [bne_iff_ne]; omega
      have hk2n : ((k : Int) != 2) = true := by rw [bne_iff_ne]; omega
      clear hcs hR
      go_enter Tryd.func27, Tryd.ntmps27
      go_wp2
      go_ret
      exact ⟨rfl, hX⟩
end Go.Proofs.YtnmnfbibjghjhaaDoor
