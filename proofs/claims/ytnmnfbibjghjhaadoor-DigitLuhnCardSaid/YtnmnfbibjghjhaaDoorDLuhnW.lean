/-
  The walk of DigitLuhn.
-/
import Derived.Test.YtnmnfbibjghjhaaDoorDta
import Derived.Test.YtnmnfbibjghjhaaDoorDw
namespace Go.Proofs.YtnmnfbibjghjhaaDoor
open Go.RowKit Dig

theorem missCells_get : ∀ (l : List Miss4) (j : Nat) (x : Miss4), l[j]? = some x → ∀ r, r < 4 → (missCells l)[j * 4 + r]? = x.cells[r]?
  | [], j, x, h, _, _ => by simp at h
  | y :: l, 0, x, h, r, hr => by
    simp only [List.getElem?_cons_zero, Option.some.injEq] at h
    subst h
    show (y.cells ++ missCells l)[0 * 4 + r]? = _
    rw [List.getElem?_append_left (by show 0 * 4 + r < 4; omega), Nat.zero_mul, Nat.zero_add]
  | y :: l, j + 1, x, h, r, hr => by
    rw [List.getElem?_cons_succ] at h
    show (y.cells ++ missCells l)[(j + 1) * 4 + r]? = _
    rw [List.getElem?_append_right (by show 4 ≤ (j + 1) * 4 + r; omega), show (j + 1) * 4 + r - y.cells.length = j * 4 + r from by show (j + 1) * 4 + r - 4 = _; omega]
    exact missCells_get l j x h r hr
theorem luhn_cells {W : World} {base M cm : Nat} {pm : Option Addr} (h : W.ownsRow base 50 4 (.slice pm M cm) M (missCells ((List.range M).map fun j => (true, j + 1, 0, 9)))) {j : Nat} (hj : j < M) :
    ∃ g, (g < W.heap.size ∧ W.cell? ⟨g, j * 4, none⟩ = some (.bool true)) ∧ W.cell? ⟨g, j * 4 + 1, none⟩ = some (.int .i64 ((j : Int) + 1)) ∧ W.cell? ⟨g, j * 4 + 2, none⟩ = some (.int .i64 0) ∧ W.cell? ⟨g, j * 4 + 3, none⟩ = some (.int .i64 9) ∧ pm = some ⟨g, 0, none⟩ := by
  obtain ⟨g, c, he, _⟩ := ownsRow_pos h (by omega)
  simp only [Value.slice.injEq, true_and] at he
  obtain ⟨rfl, rfl⟩ := he
  have hget : ((List.range M).map fun j => ((true, j + 1, 0, 9) : Miss4))[j]? = some (true, j + 1, 0, 9) := by
    rw [List.getElem?_map, List.getElem?_range hj]; rfl
  have key := fun r hr => missCells_get _ j _ hget r hr
  have cell : ∀ r v, (missCells ((List.range M).map fun j => ((true, j + 1, 0, 9) : Miss4)))[j * 4 + r]? = some v → W.cell? ⟨g, j * 4 + r, none⟩ = some v := fun r v e => by
    have := h.cells (g := g) rfl (j * 4 + r) v e
    rw [addr_add, Nat.zero_add] at this
    exact this
  exact ⟨g, ⟨(h.lt g rfl).2, cell 0 _ (key 0 (by decide))⟩, cell 1 _ (key 1 (by decide)), cell 2 _ (key 2 (by decide)), cell 3 _ (key 3 (by decide)), rfl⟩

set_option maxRecDepth 100000 in
set_option maxHeartbeats 16000000 in
theorem digitluhn_any (pl : List Nat) (pv : Value) (w : World) (hp : ByteSrc w pv pl) (ht : Tabs w) :
    Calls Tryd.prog 11 #[pv] w fun e w' => e = .returned (.bool true) ∧ Below w.heap.size w w' := by
  have HP := Lib.hid hp
  obtain ⟨_, pp, pc, rfl, _⟩ := hp
  have hsys : ∀ W' : World, Below w.heap.size w W' → SysIn W' 3 (ints []) (.slice none 0 0) := fun W' h => ⟨(NatRow.nil W').int, ht.below (Nat.le_refl _) h⟩
  have HSY := Lib.hid hsys
  have HOK : Hid (SysOk 3 []) := Lib.hid (.inl ⟨.inl rfl, rfl⟩)
  clear ht hsys
  have x0 : BlockAt (w.alloc (.cells #[.int .u8 3, .slice none 0 0] 25)) w.heap.size #[.int .u8 3, .slice none 0 0] 25 := BlockAt.new w _ 25
  have hY : Below w.heap.size w (w.alloc (.cells #[.int .u8 3, .slice none 0 0] 25)) := (Below.refl _ w).alloc (Nat.le_refl _) _
  go_enter Tryd.func11, Tryd.ntmps11
  go_wp2_with fail
  refine (payload_any pl _ _ (HP.out.below (Nat.le_refl _) hY)).mono ?_
  rintro e w2 ⟨S1, rfl, hS1, hb2⟩
  have x2 := x0.below hb2
  have hY2 := hY.trans (hb2.mono (by simp))
  clear x0 hY hb2
  obtain ⟨hpl1, hpl2, hpd⟩ := payOf_ok pl
  obtain ⟨t, hte⟩ : ∃ t, payOf pl = t := ⟨_, rfl⟩
  rw [hte] at hpl1 hpl2 hpd hS1
  have hSz : S1.size = t.length := by rw [← tx_len S1, hS1]
  obtain ⟨hce, hpass, _⟩ := pay_pass HOK.out hpl1 hpl2 hpd
  obtain ⟨C, hC⟩ : ∃ C, checkVal 3 (ints []) t = C := ⟨_, rfl⟩
  rw [hC] at hpass
  have HC := Lib.hid hC
  have HCE := Lib.hid hce
  have HPS := Lib.hid hpass
  have HS1 := Lib.hid hS1
  clear hS1 hpd hte hC hce hpass
  obtain ⟨p0, p1, _, _⟩ := x2.two
  have v0 := x2.lt
  go_wp2_with fail
  refine (append3 _ S1 (HSY.out _ hY2) (by omega)).mono ?_
  rintro e w3 ⟨S2, rfl, hS2, hb3⟩
  rw [HS1.out, HCE.out]
  rw [HS1.out, HC.out] at hS2
  have hS2 := hS2 HCE.out
  have x3 := x2.below hb3
  have hY3 := hY2.trans (hb3.mono (Nat.le_of_lt v0))
  clear x2 hY2 hb3 p0 p1 v0
  obtain ⟨T, hT⟩ : ∃ T, t ++ [C] = T := ⟨_, rfl⟩
  have HTx : Hid (tx S2 = T) := Lib.hid (by rw [hS2, hT])
  have hPass := HPS.out
  rw [hT] at hPass
  have HPa := Lib.hid hPass
  obtain ⟨m, hm⟩ : ∃ m, S1.size = m := ⟨_, rfl⟩
  have hS2z : S2.size = m + 1 := by rw [← tx_len S2, HTx.out, ← hT, List.length_append, ← hSz, hm]; rfl
  have hTn : T.length = m + 1 := by rw [← hS2z, ← tx_len S2, HTx.out]
  have hm1 : 1 ≤ m := by omega
  have hm30 : m ≤ 30 := by omega
  have hwm : IntKind.i64.wrap ((m : Int) + 1) = (m : Int) + 1 := by rw [IntKind.wrap_i64]; omega
  clear hPass hT HPS hS2 hSz
  have hmI : (1 : Int) ≤ (m : Int) := by omega
  obtain ⟨p0, p1, _, _⟩ := x3.two
  have v0 := x3.lt
  go_wp2_with fail
  refine (passes3 _ S2 (HSY.out _ hY3) (by omega)).mono ?_
  rintro e w4 ⟨rfl, hb4⟩
  rw [HTx.out, show testB 3 (ints []) T = true from HPa.out.test]
  have x4 := x3.below hb4
  have hY4 := hY3.trans (hb4.mono (Nat.le_of_lt v0))
  clear x3 hY3 hb4 p0 p1 v0
  go_wp2_with fail
  go_loopw [7] (fun iv wr => ∃ i : Nat, iv = .int .i64 i ∧ i ≤ m + 1 ∧ BlockAt wr w.heap.size #[.int .u8 3, .slice none 0 0] 25 ∧ Below w.heap.size w wr)
    (fun iv _ => m + 1 - (intOf iv).toNat)
  case atStart => exact ⟨0, rfl, by omega, x4, hY4⟩
  case round =>
    clear x4 hY4
    obtain ⟨i, rfl, hi, x0, hY⟩ := hrel
    by_cases hlt : i < m + 1
    · have hlti : (i : Int) < (m : Int) + 1 := by omega
      obtain ⟨d, hd⟩ : ∃ d, T[i]? = some d := ⟨_, List.getElem?_eq_getElem (by omega)⟩
      have hmS : i < S2.size := by omega
      have hci : (S2[i]'hmS).toNat = d := by
        have := tx_at S2 i hmS
        rw [HTx.out, hd] at this
        exact (Option.some.inj this).symm
      have HD := Lib.hid hd
      clear hd
      go_wp2_with fail
      go_loopw [8] (fun cv wr => ∃ x : Nat, cv = .int .u8 x ∧ 48 ≤ x ∧ x ≤ 58 ∧ BlockAt wr w.heap.size #[.int .u8 3, .slice none 0 0] 25 ∧ Below w.heap.size w wr)
        (fun cv _ => 58 - (intOf cv).toNat)
      case atStart => exact ⟨48, rfl, by omega, by omega, x0, hY⟩
      case round =>
        clear x0 hY
        obtain ⟨x, rfl, hx48, hx58, x0, hY⟩ := hrel
        obtain ⟨p0, p1, _, _⟩ := x0.two
        have v0 := x0.lt
        have hx48i : (48 : Int) ≤ (x : Int) := by omega
        have hwx : IntKind.u8.wrap ((x : Int) + 1) = (x : Int) + 1 := by rw [IntKind.wrap_u8]; omega
        by_cases hx57 : x ≤ 57
        · have hx57i : (x : Int) ≤ 57 := by omega
          by_cases hxd : x = d
          · have hxdi : (x : Int) = (d : Int) := by omega
            subst hxd
            go_upto_region 12 with fail
            go_quiet (fail)
            go_wp2
            go_roundw
            case rel => exact ⟨x + 1, by go_num, by omega, by omega, x0, ⟨hY.os, hY.tape, hY.output, hY.size, hY.block⟩⟩
            case measure => simp [intOf] <;> omega
          · have hxdi : ¬ (x : Int) = (d : Int) := by omega
            have hxdj : ¬ (d : Int) = (x : Int) := by omega
            have hxdb : ((x : Int) == (d : Int)) = false := by rw [beq_eq_false_iff_ne]; exact hxdi
            have hxdc : ((x : Int) != (d : Int)) = true := by rw [bne_iff_ne]; exact hxdi
            have htest : testB 3 (ints []) (T.set i x) = false := by
              have := HPa.out.other (by decide) HD.out (x := x - 48) (by omega) (by unfold shownB; rw [if_neg (by omega)]; omega)
              unfold shownB at this
              rw [if_neg (by omega), show 48 + (x - 48) = x from by omega] at this
              exact this
            have HTE := Lib.hid htest
            clear htest
            go_upto_region 12 with fail
            go_region_held3 (fun w' => w'.cell? ⟨w.heap.size, 0, none⟩ = some (.int .u8 3) ∧ w'.cell? ⟨w.heap.size, 1, none⟩ = some (.slice none 0 0)) (go_keep)
              (first
                | (go_at_call 16; with_reducible refine (put_any S2 i x _ (by omega) (by omega) (by omega)).mono ?_; rintro e w5 ⟨S3, rfl, hS3, hb5⟩; have y5 : BlockAt w5 w.heap.size #[.int .u8 3, .slice none 0 0] 25 := BlockAt.below (by first | exact x0 | exact x0.drew) hb5; obtain ⟨a0, a1, _, _⟩ := y5.two; have v5 := y5.lt; have hY5 : Below w.heap.size w w5 := (by first | exact below_next hY v0 hb5 | exact below_next2 hY v0 hb5))
                | (go_at_call 17; with_reducible refine (passes3 _ S3 (HSY.out _ hY5) (by rw [← tx_len S3, hS3, List.length_set, tx_len]; omega)).mono ?_; rintro e w6 ⟨rfl, hb6⟩; rw [hS3, HTx.out, HTE.out]; have y6 : BlockAt w6 w.heap.size #[.int .u8 3, .slice none 0 0] 25 := BlockAt.below (by first | exact y5 | exact y5.drew) hb6; obtain ⟨a0, a1, _, _⟩ := y6.two; have v6 := y6.lt; have hY6 : Below w.heap.size w w6 := (by first | exact below_next hY5 v5 hb6 | exact below_next2 hY5 v5 hb6)))
            clear x0 hY y5 hY5 hb5 hb6 p0 p1 v0 v5 a0 a1 hS3
            go_wp2
            go_roundw
            case rel => exact ⟨x + 1, by go_num, by omega, by omega, y6, hY6⟩
            case measure => simp [intOf] <;> omega
        · have hx57i : ¬ (x : Int) ≤ 57 := by omega
          have hwi : IntKind.i64.wrap ((i : Int) + 1) = (i : Int) + 1 := by rw [IntKind.wrap_i64]; omega
          by_cases hlast : i + 1 < m + 1
          · have hlasti : (i : Int) + 1 < (m : Int) + 1 := by omega
            have hi0 : (0 : Int) ≤ (i : Int) + 1 := by omega
            have hto : ((i : Int) + 1).toNat = i + 1 := by omega
            obtain ⟨d2, hd2⟩ : ∃ d2, T[i + 1]? = some d2 := ⟨_, List.getElem?_eq_getElem (by omega)⟩
            have hmS2 : i + 1 < S2.size := by omega
            have hci2 : (S2[i + 1]'hmS2).toNat = d2 := by
              have := tx_at S2 (i + 1) hmS2
              rw [HTx.out, hd2] at this
              exact (Option.some.inj this).symm
            have hddg := HPa.out.good
            have hd48 : 48 ≤ d ∧ d ≤ 57 := by
              rcases hddg i d HD.out with h | ⟨h, _⟩
              · exact h
              · cases h
            have hd482 : 48 ≤ d2 ∧ d2 ≤ 57 := by
              rcases hddg (i + 1) d2 hd2 with h | ⟨h, _⟩
              · exact h
              · cases h
            have hcd : chVal d = d - 48 := by unfold chVal; rw [if_neg (by omega)]
            have hcd2 : chVal d2 = d2 - 48 := by unfold chVal; rw [if_neg (by omega)]
            have htest : testB 3 (ints []) (swp T i d d2) = decide (d = d2 ∨ (d = 48 ∧ d2 = 57) ∨ (d = 57 ∧ d2 = 48)) := by
              rw [HPa.out.swap (by decide) HD.out hd2 hd48 hd482, luhn_swap _ (by omega) (by omega), hcd, hcd2]
              exact decide_eq_decide.2 (by omega)
            have HTE := Lib.hid htest
            have HD2 := Lib.hid hd2
            clear hd2 htest hcd hcd2 hddg
            by_cases hdd : d = d2
            · have hddi : (d : Int) = (d2 : Int) := by omega
              subst hdd
              by_cases h48 : d = 48
              · have h48i : (d : Int) = 48 := by omega
                have h57i : ¬ (d : Int) = 57 := by omega
                have HT1 : Hid (decide (d = d ∨ (d = 48 ∧ d = 57) ∨ (d = 57 ∧ d = 48)) = true) := Lib.hid (decide_eq_true (.inl rfl))
                go_upto_region 16 with fail
                go_region_held3 (fun w' => w'.cell? ⟨w.heap.size, 0, none⟩ = some (.int .u8 3) ∧ w'.cell? ⟨w.heap.size, 1, none⟩ = some (.slice none 0 0)) (go_keep)
                  (first
                    | (go_at_call 29; with_reducible refine (exch_any S2 i _ (by omega) (by omega) (by rw [HTx.out]; exact HD.out) (by rw [HTx.out]; exact HD2.out)).mono ?_; rintro e w5 ⟨S3, rfl, hS3, hb5⟩; have y5 : BlockAt w5 w.heap.size #[.int .u8 3, .slice none 0 0] 25 := BlockAt.below (by first | exact x0 | exact x0.drew) hb5; obtain ⟨a0, a1, _, _⟩ := y5.two; have v5 := y5.lt; have hY5 : Below w.heap.size w w5 := (by first | exact below_next hY v0 hb5 | exact below_next2 hY v0 hb5))
                    | (go_at_call 17; with_reducible refine (passes3 _ S3 (HSY.out _ hY5) (by rw [← tx_len S3, hS3, swp_len, tx_len]; omega)).mono ?_; rintro e w6 ⟨rfl, hb6⟩; rw [hS3, HTx.out, HTE.out, HT1.out]; have y6 : BlockAt w6 w.heap.size #[.int .u8 3, .slice none 0 0] 25 := BlockAt.below (by first | exact y5 | exact y5.drew) hb6; obtain ⟨a0, a1, _, _⟩ := y6.two; have v6 := y6.lt; have hY6 : Below w.heap.size w w6 := (by first | exact below_next hY5 v5 hb6 | exact below_next2 hY5 v5 hb6)))
                all_goals
                  clear x0 hY y5 hY5 hb5 hb6 p0 p1 v0 v5 a0 a1 hS3
                  go_wp2
                  go_roundw
                  case rel => exact ⟨i + 1, by go_num, by omega, y6, hY6⟩
                  case measure => simp [intOf] <;> omega
              · have h48i : ¬ (d : Int) = 48 := by omega
                have HT1 : Hid (decide (d = d ∨ (d = 48 ∧ d = 57) ∨ (d = 57 ∧ d = 48)) = true) := Lib.hid (decide_eq_true (.inl rfl))
                by_cases h57 : d = 57
                · have h57i : (d : Int) = 57 := by omega
                  go_upto_region 16 with fail
                  go_region_held3 (fun w' => w'.cell? ⟨w.heap.size, 0, none⟩ = some (.int .u8 3) ∧ w'.cell? ⟨w.heap.size, 1, none⟩ = some (.slice none 0 0)) (go_keep)
                    (first
                      | (go_at_call 29; with_reducible refine (exch_any S2 i _ (by omega) (by omega) (by rw [HTx.out]; exact HD.out) (by rw [HTx.out]; exact HD2.out)).mono ?_; rintro e w5 ⟨S3, rfl, hS3, hb5⟩; have y5 : BlockAt w5 w.heap.size #[.int .u8 3, .slice none 0 0] 25 := BlockAt.below (by first | exact x0 | exact x0.drew) hb5; obtain ⟨a0, a1, _, _⟩ := y5.two; have v5 := y5.lt; have hY5 : Below w.heap.size w w5 := (by first | exact below_next hY v0 hb5 | exact below_next2 hY v0 hb5))
                      | (go_at_call 17; with_reducible refine (passes3 _ S3 (HSY.out _ hY5) (by rw [← tx_len S3, hS3, swp_len, tx_len]; omega)).mono ?_; rintro e w6 ⟨rfl, hb6⟩; rw [hS3, HTx.out, HTE.out, HT1.out]; have y6 : BlockAt w6 w.heap.size #[.int .u8 3, .slice none 0 0] 25 := BlockAt.below (by first | exact y5 | exact y5.drew) hb6; obtain ⟨a0, a1, _, _⟩ := y6.two; have v6 := y6.lt; have hY6 : Below w.heap.size w w6 := (by first | exact below_next hY5 v5 hb6 | exact below_next2 hY5 v5 hb6)))
                  all_goals
                    clear x0 hY y5 hY5 hb5 hb6 p0 p1 v0 v5 a0 a1 hS3
                    go_wp2
                    go_roundw
                    case rel => exact ⟨i + 1, by go_num, by omega, y6, hY6⟩
                    case measure => simp [intOf] <;> omega
                · have h57i : ¬ (d : Int) = 57 := by omega
                  go_upto_region 16 with fail
                  go_region_held3 (fun w' => w'.cell? ⟨w.heap.size, 0, none⟩ = some (.int .u8 3) ∧ w'.cell? ⟨w.heap.size, 1, none⟩ = some (.slice none 0 0)) (go_keep)
                    (first
                      | (go_at_call 29; with_reducible refine (exch_any S2 i _ (by omega) (by omega) (by rw [HTx.out]; exact HD.out) (by rw [HTx.out]; exact HD2.out)).mono ?_; rintro e w5 ⟨S3, rfl, hS3, hb5⟩; have y5 : BlockAt w5 w.heap.size #[.int .u8 3, .slice none 0 0] 25 := BlockAt.below (by first | exact x0 | exact x0.drew) hb5; obtain ⟨a0, a1, _, _⟩ := y5.two; have v5 := y5.lt; have hY5 : Below w.heap.size w w5 := (by first | exact below_next hY v0 hb5 | exact below_next2 hY v0 hb5))
                      | (go_at_call 17; with_reducible refine (passes3 _ S3 (HSY.out _ hY5) (by rw [← tx_len S3, hS3, swp_len, tx_len]; omega)).mono ?_; rintro e w6 ⟨rfl, hb6⟩; rw [hS3, HTx.out, HTE.out, HT1.out]; have y6 : BlockAt w6 w.heap.size #[.int .u8 3, .slice none 0 0] 25 := BlockAt.below (by first | exact y5 | exact y5.drew) hb6; obtain ⟨a0, a1, _, _⟩ := y6.two; have v6 := y6.lt; have hY6 : Below w.heap.size w w6 := (by first | exact below_next hY5 v5 hb6 | exact below_next2 hY5 v5 hb6)))
                  all_goals
                    clear x0 hY y5 hY5 hb5 hb6 p0 p1 v0 v5 a0 a1 hS3
                    go_wp2
                    go_roundw
                    case rel => exact ⟨i + 1, by go_num, by omega, y6, hY6⟩
                    case measure => simp [intOf] <;> omega
            · have hddi : ¬ (d : Int) = (d2 : Int) := by omega
              have hddb : ((d : Int) == (d2 : Int)) = false := by rw [beq_eq_false_iff_ne]; exact hddi
              have hddc : ((d : Int) != (d2 : Int)) = true := by rw [bne_iff_ne]; exact hddi
              by_cases h1 : d = 48 ∧ d2 = 57
              · have h1i : (d : Int) = 48 := by omega
                have h2i : (d2 : Int) = 57 := by omega
                have HT1 : Hid (decide (d = d2 ∨ (d = 48 ∧ d2 = 57) ∨ (d = 57 ∧ d2 = 48)) = true) := Lib.hid (decide_eq_true (.inr (.inl h1)))
                clear hddi hddb hddc
                go_upto_region 16 with fail
                refine wp_region_noPanic ?_
                refine wp_region_held_drew (S := (fun w' => w'.cell? ⟨w.heap.size, 0, none⟩ = some (.int .u8 3) ∧ w'.cell? ⟨w.heap.size, 1, none⟩ = some (.slice none 0 0))) (by kernel_rfl) ?_ (fun hHeld => ?_)
                · (try dsimp only)
                  go_keep
                refine rt0 (v := ?_) (by kernel_rfl) (by kernel_rfl) (by kernel_rfl) (fun _ _ _ h => h) (by rfl) hHeld ?_ ?_
                rotate_left
                · intro w' hSw
                  (try dsimp only at hSw)
                  go_simp <;> with_reducible rfl
                (try simp only [Act.put, List.setIfInBounds_toArray, List.set_cons_zero, List.set_cons_succ])
                refine rt1 (v := ?_) (by kernel_rfl) (by kernel_rfl) (by kernel_rfl) (fun _ _ _ h => h) (by rfl) hHeld ?_ ?_
                rotate_left
                · intro w' hSw
                  (try dsimp only at hSw)
                  go_simp <;> with_reducible rfl
                (try simp only [Act.put, List.setIfInBounds_toArray, List.set_cons_zero, List.set_cons_succ])
                refine rt2 (v := ?_) (by kernel_rfl) (by kernel_rfl) (by kernel_rfl) (fun _ _ _ h => h) (by rfl) hHeld ?_ ?_
                rotate_left
                · intro w' hSw
                  (try dsimp only at hSw)
                  go_simp <;> with_reducible rfl
                (try simp only [Act.put, List.setIfInBounds_toArray, List.set_cons_zero, List.set_cons_succ])
                refine rt5 (v := ?_) (by kernel_rfl) (by kernel_rfl) (by kernel_rfl) (fun _ _ _ h => h) (by rfl) hHeld ?_ ?_
                rotate_left
                · intro w' hSw
                  (try dsimp only at hSw)
                  go_simp <;> with_reducible rfl
                (try simp only [Act.put, List.setIfInBounds_toArray, List.set_cons_zero, List.set_cons_succ])
                refine rc3 (by kernel_rfl) (fun K hK => ?_)
                go_simp
                go_at_call 29
                with_reducible refine (exch_any S2 i _ (by omega) (by omega) (by rw [HTx.out]; exact HD.out) (by rw [HTx.out]; exact HD2.out)).mono ?_
                rintro e w5 ⟨S3, rfl, hS3, hb5⟩
                have y5 : BlockAt w5 w.heap.size #[.int .u8 3, .slice none 0 0] 25 := BlockAt.below (by first | exact x0 | exact x0.drew) hb5; obtain ⟨a0, a1, _, _⟩ := y5.two; have v5 := y5.lt; have hY5 : Below w.heap.size w w5 := (by first | exact below_next hY v0 hb5 | exact below_next2 hY v0 hb5)
                (try go_wp2_with fail)
                refine hK.out _ _ ?_ (fun hHeld => ?_)
                · (try dsimp only)
                  go_keep
                clear hK K
                (try simp only [Act.put, List.setIfInBounds_toArray, List.set_cons_zero, List.set_cons_succ])
                refine rc4 (by kernel_rfl) (fun K hK => ?_)
                go_simp
                go_at_call 17
                with_reducible refine (passes3 _ S3 (HSY.out _ hY5) (by rw [← tx_len S3, hS3, swp_len, tx_len]; omega)).mono ?_
                rintro e w6 ⟨rfl, hb6⟩
                rw [hS3, HTx.out, HTE.out, HT1.out]
                have y6 : BlockAt w6 w.heap.size #[.int .u8 3, .slice none 0 0] 25 := BlockAt.below (by first | exact y5 | exact y5.drew) hb6; obtain ⟨a0, a1, _, _⟩ := y6.two; have v6 := y6.lt; have hY6 : Below w.heap.size w w6 := (by first | exact below_next hY5 v5 hb6 | exact below_next2 hY5 v5 hb6)
                (try go_wp2_with fail)
                refine hK.out _ _ ?_ (fun hHeld => ?_)
                · (try dsimp only)
                  go_keep
                clear hK K
                (try simp only [Act.put, List.setIfInBounds_toArray, List.set_cons_zero, List.set_cons_succ])
                refine rt6 (v := ?_) (by kernel_rfl) (by kernel_rfl) (by kernel_rfl) (fun _ _ _ h => h) (by rfl) hHeld ?_ ?_
                rotate_left
                · intro w' hSw
                  (try dsimp only at hSw)
                  go_simp <;> with_reducible rfl
                (try simp only [Act.put, List.setIfInBounds_toArray, List.set_cons_zero, List.set_cons_succ])
                refine rs7 (by kernel_rfl) (by kernel_rfl) (by kernel_rfl) (fun _ _ _ h => h) (by rfl) hHeld ?_
                (try simp only [Act.put, List.setIfInBounds_toArray, List.set_cons_zero, List.set_cons_succ])
                refine rs8 (by kernel_rfl) (by kernel_rfl) (by kernel_rfl) (fun _ _ _ h => h) (by rfl) hHeld ?_
                (try simp only [Act.put, List.setIfInBounds_toArray, List.set_cons_zero, List.set_cons_succ])
                refine rs9 (by kernel_rfl) (by kernel_rfl) (by kernel_rfl) (fun _ _ _ h => h) (by rfl) hHeld ?_
                (try simp only [Act.put, List.setIfInBounds_toArray, List.set_cons_zero, List.set_cons_succ])
                refine rs10 (by kernel_rfl) (by kernel_rfl) (by kernel_rfl) (fun _ _ _ h => h) (by rfl) hHeld ?_
                (try simp only [Act.put, List.setIfInBounds_toArray, List.set_cons_zero, List.set_cons_succ])
                refine rs11 (by kernel_rfl) (by kernel_rfl) (by kernel_rfl) (fun _ _ _ h => h) (by rfl) hHeld ?_
                (try simp only [Act.put, List.setIfInBounds_toArray, List.set_cons_zero, List.set_cons_succ])
                refine rs12 (by kernel_rfl) (by kernel_rfl) (by kernel_rfl) (fun _ _ _ h => h) (by rfl) hHeld ?_
                (try simp only [Act.put, List.setIfInBounds_toArray, List.set_cons_zero, List.set_cons_succ])
                refine rs13 (by kernel_rfl) (by kernel_rfl) (by kernel_rfl) (fun _ _ _ h => h) (by rfl) hHeld ?_
                (try simp only [Act.put, List.setIfInBounds_toArray, List.set_cons_zero, List.set_cons_succ])
                refine rs14 (by kernel_rfl) (by kernel_rfl) (by kernel_rfl) (fun _ _ _ h => h) (by rfl) hHeld ?_
                (try simp only [Act.put, List.setIfInBounds_toArray, List.set_cons_zero, List.set_cons_succ])
                refine rt15 (v := ?_) (by kernel_rfl) (by kernel_rfl) (by kernel_rfl) (fun _ _ _ h => h) (by rfl) hHeld ?_ ?_
                rotate_left
                · intro w' hSw
                  (try dsimp only at hSw)
                  go_simp <;> with_reducible rfl
                (try simp only [Act.put, List.setIfInBounds_toArray, List.set_cons_zero, List.set_cons_succ])
                refine rt16 (v := ?_) (by kernel_rfl) (by kernel_rfl) (by kernel_rfl) (fun _ _ _ h => h) (by rfl) hHeld ?_ ?_
                rotate_left
                · intro w' hSw
                  (try dsimp only at hSw)
                  go_simp <;> with_reducible rfl
                (try simp only [Act.put, List.setIfInBounds_toArray, List.set_cons_zero, List.set_cons_succ])
                refine wpAnyH_done (by kernel_rfl) ?_ _
                refine NoPanic.normal ?_
                clear x0 hY y5 hY5 hb5 hb6 p0 p1 v0 v5 a0 a1 hS3
                go_wp2
                go_roundw
                case rel => exact ⟨i + 1, by go_num, by omega, y6, hY6⟩
                case measure => simp [intOf] <;> omega
              · by_cases h2 : d = 57 ∧ d2 = 48
                · have h1i : (d : Int) = 57 := by omega
                  have h2i : (d2 : Int) = 48 := by omega
                  have HT1 : Hid (decide (d = d2 ∨ (d = 48 ∧ d2 = 57) ∨ (d = 57 ∧ d2 = 48)) = true) := Lib.hid (decide_eq_true (.inr (.inr h2)))
                  clear hddi hddb hddc
                  go_upto_region 16 with fail
                  refine wp_region_noPanic ?_
                  refine wp_region_held_drew (S := (fun w' => w'.cell? ⟨w.heap.size, 0, none⟩ = some (.int .u8 3) ∧ w'.cell? ⟨w.heap.size, 1, none⟩ = some (.slice none 0 0))) (by kernel_rfl) ?_ (fun hHeld => ?_)
                  · (try dsimp only)
                    go_keep
                  refine rt0 (v := ?_) (by kernel_rfl) (by kernel_rfl) (by kernel_rfl) (fun _ _ _ h => h) (by rfl) hHeld ?_ ?_
                  rotate_left
                  · intro w' hSw
                    (try dsimp only at hSw)
                    go_simp <;> with_reducible rfl
                  (try simp only [Act.put, List.setIfInBounds_toArray, List.set_cons_zero, List.set_cons_succ])
                  refine rt1 (v := ?_) (by kernel_rfl) (by kernel_rfl) (by kernel_rfl) (fun _ _ _ h => h) (by rfl) hHeld ?_ ?_
                  rotate_left
                  · intro w' hSw
                    (try dsimp only at hSw)
                    go_simp <;> with_reducible rfl
                  (try simp only [Act.put, List.setIfInBounds_toArray, List.set_cons_zero, List.set_cons_succ])
                  refine rt2 (v := ?_) (by kernel_rfl) (by kernel_rfl) (by kernel_rfl) (fun _ _ _ h => h) (by rfl) hHeld ?_ ?_
                  rotate_left
                  · intro w' hSw
                    (try dsimp only at hSw)
                    go_simp <;> with_reducible rfl
                  (try simp only [Act.put, List.setIfInBounds_toArray, List.set_cons_zero, List.set_cons_succ])
                  refine rt5 (v := ?_) (by kernel_rfl) (by kernel_rfl) (by kernel_rfl) (fun _ _ _ h => h) (by rfl) hHeld ?_ ?_
                  rotate_left
                  · intro w' hSw
                    (try dsimp only at hSw)
                    go_simp <;> with_reducible rfl
                  (try simp only [Act.put, List.setIfInBounds_toArray, List.set_cons_zero, List.set_cons_succ])
                  refine rc3 (by kernel_rfl) (fun K hK => ?_)
                  go_simp
                  go_at_call 29
                  with_reducible refine (exch_any S2 i _ (by omega) (by omega) (by rw [HTx.out]; exact HD.out) (by rw [HTx.out]; exact HD2.out)).mono ?_
                  rintro e w5 ⟨S3, rfl, hS3, hb5⟩
                  have y5 : BlockAt w5 w.heap.size #[.int .u8 3, .slice none 0 0] 25 := BlockAt.below (by first | exact x0 | exact x0.drew) hb5; obtain ⟨a0, a1, _, _⟩ := y5.two; have v5 := y5.lt; have hY5 : Below w.heap.size w w5 := (by first | exact below_next hY v0 hb5 | exact below_next2 hY v0 hb5)
                  (try go_wp2_with fail)
                  refine hK.out _ _ ?_ (fun hHeld => ?_)
                  · (try dsimp only)
                    go_keep
                  clear hK K
                  (try simp only [Act.put, List.setIfInBounds_toArray, List.set_cons_zero, List.set_cons_succ])
                  refine rc4 (by kernel_rfl) (fun K hK => ?_)
                  go_simp
                  go_at_call 17
                  with_reducible refine (passes3 _ S3 (HSY.out _ hY5) (by rw [← tx_len S3, hS3, swp_len, tx_len]; omega)).mono ?_
                  rintro e w6 ⟨rfl, hb6⟩
                  rw [hS3, HTx.out, HTE.out, HT1.out]
                  have y6 : BlockAt w6 w.heap.size #[.int .u8 3, .slice none 0 0] 25 := BlockAt.below (by first | exact y5 | exact y5.drew) hb6; obtain ⟨a0, a1, _, _⟩ := y6.two; have v6 := y6.lt; have hY6 : Below w.heap.size w w6 := (by first | exact below_next hY5 v5 hb6 | exact below_next2 hY5 v5 hb6)
                  (try go_wp2_with fail)
                  refine hK.out _ _ ?_ (fun hHeld => ?_)
                  · (try dsimp only)
                    go_keep
                  clear hK K
                  (try simp only [Act.put, List.setIfInBounds_toArray, List.set_cons_zero, List.set_cons_succ])
                  refine rt6 (v := ?_) (by kernel_rfl) (by kernel_rfl) (by kernel_rfl) (fun _ _ _ h => h) (by rfl) hHeld ?_ ?_
                  rotate_left
                  · intro w' hSw
                    (try dsimp only at hSw)
                    go_simp <;> with_reducible rfl
                  (try simp only [Act.put, List.setIfInBounds_toArray, List.set_cons_zero, List.set_cons_succ])
                  refine rs7 (by kernel_rfl) (by kernel_rfl) (by kernel_rfl) (fun _ _ _ h => h) (by rfl) hHeld ?_
                  (try simp only [Act.put, List.setIfInBounds_toArray, List.set_cons_zero, List.set_cons_succ])
                  refine rs8 (by kernel_rfl) (by kernel_rfl) (by kernel_rfl) (fun _ _ _ h => h) (by rfl) hHeld ?_
                  (try simp only [Act.put, List.setIfInBounds_toArray, List.set_cons_zero, List.set_cons_succ])
                  refine rs9 (by kernel_rfl) (by kernel_rfl) (by kernel_rfl) (fun _ _ _ h => h) (by rfl) hHeld ?_
                  (try simp only [Act.put, List.setIfInBounds_toArray, List.set_cons_zero, List.set_cons_succ])
                  refine rs10 (by kernel_rfl) (by kernel_rfl) (by kernel_rfl) (fun _ _ _ h => h) (by rfl) hHeld ?_
                  (try simp only [Act.put, List.setIfInBounds_toArray, List.set_cons_zero, List.set_cons_succ])
                  refine rs11 (by kernel_rfl) (by kernel_rfl) (by kernel_rfl) (fun _ _ _ h => h) (by rfl) hHeld ?_
                  (try simp only [Act.put, List.setIfInBounds_toArray, List.set_cons_zero, List.set_cons_succ])
                  refine rs12 (by kernel_rfl) (by kernel_rfl) (by kernel_rfl) (fun _ _ _ h => h) (by rfl) hHeld ?_
                  (try simp only [Act.put, List.setIfInBounds_toArray, List.set_cons_zero, List.set_cons_succ])
                  refine rs13 (by kernel_rfl) (by kernel_rfl) (by kernel_rfl) (fun _ _ _ h => h) (by rfl) hHeld ?_
                  (try simp only [Act.put, List.setIfInBounds_toArray, List.set_cons_zero, List.set_cons_succ])
                  refine rs14 (by kernel_rfl) (by kernel_rfl) (by kernel_rfl) (fun _ _ _ h => h) (by rfl) hHeld ?_
                  (try simp only [Act.put, List.setIfInBounds_toArray, List.set_cons_zero, List.set_cons_succ])
                  refine rt15 (v := ?_) (by kernel_rfl) (by kernel_rfl) (by kernel_rfl) (fun _ _ _ h => h) (by rfl) hHeld ?_ ?_
                  rotate_left
                  · intro w' hSw
                    (try dsimp only at hSw)
                    go_simp <;> with_reducible rfl
                  (try simp only [Act.put, List.setIfInBounds_toArray, List.set_cons_zero, List.set_cons_succ])
                  refine rt16 (v := ?_) (by kernel_rfl) (by kernel_rfl) (by kernel_rfl) (fun _ _ _ h => h) (by rfl) hHeld ?_ ?_
                  rotate_left
                  · intro w' hSw
                    (try dsimp only at hSw)
                    go_simp <;> with_reducible rfl
                  (try simp only [Act.put, List.setIfInBounds_toArray, List.set_cons_zero, List.set_cons_succ])
                  refine wpAnyH_done (by kernel_rfl) ?_ _
                  refine NoPanic.normal ?_
                  clear x0 hY y5 hY5 hb5 hb6 p0 p1 v0 v5 a0 a1 hS3
                  go_wp2
                  go_roundw
                  case rel => exact ⟨i + 1, by go_num, by omega, y6, hY6⟩
                  case measure => simp [intOf] <;> omega
                · have HT1 : Hid (decide (d = d2 ∨ (d = 48 ∧ d2 = 57) ∨ (d = 57 ∧ d2 = 48)) = false) := Lib.hid (decide_eq_false (by omega))
                  by_cases h48 : d = 48
                  · have h1i : (d : Int) = 48 := by omega
                    have h2i : ¬ (d2 : Int) = 57 := by omega
                    have h3i : ¬ (d : Int) = 57 := by omega
                    have h2b : ((d2 : Int) == 57) = false := by rw [beq_eq_false_iff_ne]; exact h2i
                    go_upto_region 16 with fail
                    go_region_held3 (fun w' => w'.cell? ⟨w.heap.size, 0, none⟩ = some (.int .u8 3) ∧ w'.cell? ⟨w.heap.size, 1, none⟩ = some (.slice none 0 0)) (go_keep)
                      (first
                        | (go_at_call 29; with_reducible refine (exch_any S2 i _ (by omega) (by omega) (by rw [HTx.out]; exact HD.out) (by rw [HTx.out]; exact HD2.out)).mono ?_; rintro e w5 ⟨S3, rfl, hS3, hb5⟩; have y5 : BlockAt w5 w.heap.size #[.int .u8 3, .slice none 0 0] 25 := BlockAt.below (by first | exact x0 | exact x0.drew) hb5; obtain ⟨a0, a1, _, _⟩ := y5.two; have v5 := y5.lt; have hY5 : Below w.heap.size w w5 := (by first | exact below_next hY v0 hb5 | exact below_next2 hY v0 hb5))
                        | (go_at_call 17; with_reducible refine (passes3 _ S3 (HSY.out _ hY5) (by rw [← tx_len S3, hS3, swp_len, tx_len]; omega)).mono ?_; rintro e w6 ⟨rfl, hb6⟩; rw [hS3, HTx.out, HTE.out, HT1.out]; have y6 : BlockAt w6 w.heap.size #[.int .u8 3, .slice none 0 0] 25 := BlockAt.below (by first | exact y5 | exact y5.drew) hb6; obtain ⟨a0, a1, _, _⟩ := y6.two; have v6 := y6.lt; have hY6 : Below w.heap.size w w6 := (by first | exact below_next hY5 v5 hb6 | exact below_next2 hY5 v5 hb6)))
                    all_goals
                      clear x0 hY y5 hY5 hb5 hb6 p0 p1 v0 v5 a0 a1 hS3
                      go_wp2
                      go_roundw
                      case rel => exact ⟨i + 1, by go_num, by omega, y6, hY6⟩
                      case measure => simp [intOf] <;> omega
                  · have h1i : ¬ (d : Int) = 48 := by omega
                    by_cases h57 : d = 57
                    · have h57i : (d : Int) = 57 := by omega
                      have h2i : ¬ (d2 : Int) = 48 := by omega
                      have h2b : ((d2 : Int) == 48) = false := by rw [beq_eq_false_iff_ne]; exact h2i
                      go_upto_region 16 with fail
                      go_region_held3 (fun w' => w'.cell? ⟨w.heap.size, 0, none⟩ = some (.int .u8 3) ∧ w'.cell? ⟨w.heap.size, 1, none⟩ = some (.slice none 0 0)) (go_keep)
                        (first
                          | (go_at_call 29; with_reducible refine (exch_any S2 i _ (by omega) (by omega) (by rw [HTx.out]; exact HD.out) (by rw [HTx.out]; exact HD2.out)).mono ?_; rintro e w5 ⟨S3, rfl, hS3, hb5⟩; have y5 : BlockAt w5 w.heap.size #[.int .u8 3, .slice none 0 0] 25 := BlockAt.below (by first | exact x0 | exact x0.drew) hb5; obtain ⟨a0, a1, _, _⟩ := y5.two; have v5 := y5.lt; have hY5 : Below w.heap.size w w5 := (by first | exact below_next hY v0 hb5 | exact below_next2 hY v0 hb5))
                          | (go_at_call 17; with_reducible refine (passes3 _ S3 (HSY.out _ hY5) (by rw [← tx_len S3, hS3, swp_len, tx_len]; omega)).mono ?_; rintro e w6 ⟨rfl, hb6⟩; rw [hS3, HTx.out, HTE.out, HT1.out]; have y6 : BlockAt w6 w.heap.size #[.int .u8 3, .slice none 0 0] 25 := BlockAt.below (by first | exact y5 | exact y5.drew) hb6; obtain ⟨a0, a1, _, _⟩ := y6.two; have v6 := y6.lt; have hY6 : Below w.heap.size w w6 := (by first | exact below_next hY5 v5 hb6 | exact below_next2 hY5 v5 hb6)))
                      all_goals
                        clear x0 hY y5 hY5 hb5 hb6 p0 p1 v0 v5 a0 a1 hS3
                        go_wp2
                        go_roundw
                        case rel => exact ⟨i + 1, by go_num, by omega, y6, hY6⟩
                        case measure => simp [intOf] <;> omega
                    · have h57i : ¬ (d : Int) = 57 := by omega
                      go_upto_region 16 with fail
                      go_region_held3 (fun w' => w'.cell? ⟨w.heap.size, 0, none⟩ = some (.int .u8 3) ∧ w'.cell? ⟨w.heap.size, 1, none⟩ = some (.slice none 0 0)) (go_keep)
                        (first
                          | (go_at_call 29; with_reducible refine (exch_any S2 i _ (by omega) (by omega) (by rw [HTx.out]; exact HD.out) (by rw [HTx.out]; exact HD2.out)).mono ?_; rintro e w5 ⟨S3, rfl, hS3, hb5⟩; have y5 : BlockAt w5 w.heap.size #[.int .u8 3, .slice none 0 0] 25 := BlockAt.below (by first | exact x0 | exact x0.drew) hb5; obtain ⟨a0, a1, _, _⟩ := y5.two; have v5 := y5.lt; have hY5 : Below w.heap.size w w5 := (by first | exact below_next hY v0 hb5 | exact below_next2 hY v0 hb5))
                          | (go_at_call 17; with_reducible refine (passes3 _ S3 (HSY.out _ hY5) (by rw [← tx_len S3, hS3, swp_len, tx_len]; omega)).mono ?_; rintro e w6 ⟨rfl, hb6⟩; rw [hS3, HTx.out, HTE.out, HT1.out]; have y6 : BlockAt w6 w.heap.size #[.int .u8 3, .slice none 0 0] 25 := BlockAt.below (by first | exact y5 | exact y5.drew) hb6; obtain ⟨a0, a1, _, _⟩ := y6.two; have v6 := y6.lt; have hY6 : Below w.heap.size w w6 := (by first | exact below_next hY5 v5 hb6 | exact below_next2 hY5 v5 hb6)))
                      all_goals
                        clear x0 hY y5 hY5 hb5 hb6 p0 p1 v0 v5 a0 a1 hS3
                        go_wp2
                        go_roundw
                        case rel => exact ⟨i + 1, by go_num, by omega, y6, hY6⟩
                        case measure => simp [intOf] <;> omega
          · have hlasti : ¬ (i : Int) + 1 < (m : Int) + 1 := by omega
            have hlastj : ¬ (i : Int) < (m : Int) := by omega
            go_wp2
            go_roundw
            case rel => exact ⟨i + 1, by go_num, by omega, x0, hY⟩
            case measure => simp [intOf] <;> omega
    · have hlti : ¬ (i : Int) < (m : Int) + 1 := by omega
      obtain ⟨p0, p1, _, _⟩ := x0.two
      have v0 := x0.lt
      go_wp2_with fail
      refine (misses3 _ m (HSY.out _ hY) hm1 hm30).mono ?_
      rintro e w5 ⟨pm, cm, rfl, ho, hb5⟩
      have hY5 := hY.trans (hb5.mono (Nat.le_of_lt v0))
      obtain ⟨M, hM⟩ : ∃ M, m - 1 = M := ⟨_, rfl⟩
      rw [hM] at ho ⊢
      have hMi : (m : Int) - 1 = (M : Int) := by omega
      have hwm2 : IntKind.i64.wrap ((m : Int) - 1) = (M : Int) := by rw [IntKind.wrap_i64]; omega
      have hwrow : ∃ wb, wb = wr.heap.size := ⟨_, rfl⟩
      obtain ⟨wb, hwb⟩ := hwrow
      rw [← hwb] at ho
      have hwbl : w.heap.size < wb := by rw [hwb]; exact v0
      have HO := Lib.hid ho
      obtain ⟨wq, hwq⟩ : ∃ wq, wq = wr := ⟨_, rfl⟩
      subst hwq
      clear x0 hY hb5 p0 p1 v0 hM ho
      go_wp2_with fail
      go_loopw [126] (fun iv wr => ∃ j : Nat, iv = .int .i64 j ∧ j ≤ M ∧ Below w5.heap.size w5 wr)
        (fun iv _ => M - (intOf iv).toNat)
      case atStart => exact ⟨0, rfl, by omega, Below.refl _ _⟩
      case round =>
        obtain ⟨j, rfl, hj, hZ⟩ := hrel
        by_cases hjM : j < M
        · have hjMi : (j : Int) < (M : Int) := by omega
          have hjwr : IntKind.i64.wrap ((j : Int) + 1) = (j : Int) + 1 := by rw [IntKind.wrap_i64]; omega
          obtain ⟨g, c0, c1, c2, c3, hpm⟩ := luhn_cells HO.out hjM
          subst hpm
          have hgl := c0.1
          have c0 := (hZ.cell (p := ⟨g, j * 4, none⟩) hgl).trans c0.2
          have c1 := (hZ.cell (p := ⟨g, j * 4 + 1, none⟩) hgl).trans c1
          have c2 := (hZ.cell (p := ⟨g, j * 4 + 2, none⟩) hgl).trans c2
          have c3 := (hZ.cell (p := ⟨g, j * 4 + 3, none⟩) hgl).trans c3
          go_wp2
          go_roundw
          case rel => exact ⟨j + 1, by go_num, by omega, hZ.alloc hZ.size _⟩
          case measure => simp [intOf] <;> omega
        · have hjMi : ¬ (j : Int) < (M : Int) := by omega
          go_wp2_with fail
          have hY6 := hY5.trans (hZ.mono hY5.size)
          refine (dawake_any _ (HSY.out _ hY6).tabs).mono ?_
          rintro e w9 ⟨rfl, hb9⟩
          go_wp2
          go_ret
          exact ⟨rfl, hY6.trans (hb9.mono hY6.size)⟩
end Go.Proofs.YtnmnfbibjghjhaaDoor
