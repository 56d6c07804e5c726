/-
  The walk of DigitFinds.
-/
import Derived.Test.YtnmnfbibjghjhaaDoorDw
namespace Go.Proofs.YtnmnfbibjghjhaaDoor
open Go.RowKit Dig

set_option maxRecDepth 100000 in
set_option maxHeartbeats 16000000 in
theorem digitfinds_any (pl : List Nat) (pv : Value) (w : World) (hp : ByteSrc w pv pl) (ht : Tabs w) :
    Calls Tryd.prog 9 #[pv] w fun e w' => e = .returned (.bool true) ∧ Below w.heap.size w w' := by
  have HP := Lib.hid hp
  obtain ⟨_, pp, pc, rfl, _⟩ := hp
  have hsys : ∀ W' : World, Below w.heap.size w W' → SysIn W' 4 (ints []) (.slice none 0 0) := fun W' h => ⟨(NatRow.nil W').int, ht.below (Nat.le_refl _) h⟩
  have HSY := Lib.hid hsys
  have HOK : Hid (SysOk 4 []) := Lib.hid (.inl ⟨.inr rfl, rfl⟩)
  clear ht hsys
  have x0 : BlockAt (w.alloc (.cells #[.int .u8 4, .slice none 0 0] 25)) w.heap.size #[.int .u8 4, .slice none 0 0] 25 := BlockAt.new w _ 25
  have hY : Below w.heap.size w (w.alloc (.cells #[.int .u8 4, .slice none 0 0] 25)) := (Below.refl _ w).alloc (Nat.le_refl _) _
  go_enter Tryd.func9, Tryd.ntmps9
  go_wp2_with fail
  refine (payload_any pl _ _ (HP.out.below (Nat.le_refl _) hY)).mono ?_
  rintro e w2 ⟨S1, rfl, hS1, hb2⟩
  have x2 := x0.below hb2
  have hY2 := hY.trans (hb2.mono (by simp))
  clear x0 hY hb2
  obtain ⟨hpl1, hpl2, hpd⟩ := payOf_ok pl
  obtain ⟨t, hte⟩ : ∃ t, payOf pl = t := ⟨_, rfl⟩
  rw [hte] at hpl1 hpl2 hpd hS1
  have hSz : S1.size = t.length := by rw [← tx_len S1, hS1]
  obtain ⟨hce, hpass, _⟩ := pay_pass HOK.out hpl1 hpl2 hpd
  obtain ⟨C, hC⟩ : ∃ C, checkVal 4 (ints []) t = C := ⟨_, rfl⟩
  rw [hC] at hpass
  have HC := Lib.hid hC
  have HCE := Lib.hid hce
  have HPS := Lib.hid hpass
  have HS1 := Lib.hid hS1
  clear hS1 hpd hte hC hce hpass
  obtain ⟨p0, p1, _, _⟩ := x2.two
  have v0 := x2.lt
  go_wp2_with fail
  refine (append4 _ S1 (HSY.out _ hY2) (by omega)).mono ?_
  rintro e w3 ⟨S2, rfl, hS2, hb3⟩
  rw [HS1.out, HCE.out]
  rw [HS1.out, HC.out] at hS2
  have hS2 := hS2 HCE.out
  have x3 := x2.below hb3
  have hY3 := hY2.trans (hb3.mono (Nat.le_of_lt v0))
  clear x2 hY2 hb3 p0 p1 v0
  obtain ⟨T, hT⟩ : ∃ T, t ++ [C] = T := ⟨_, rfl⟩
  have HTx : Hid (tx S2 = T) := Lib.hid (by rw [hS2, hT])
  have hPass := HPS.out
  rw [hT] at hPass
  have HPa := Lib.hid hPass
  obtain ⟨m, hm⟩ : ∃ m, S1.size = m := ⟨_, rfl⟩
  have hS2z : S2.size = m + 1 := by rw [← tx_len S2, HTx.out, ← hT, List.length_append, ← hSz, hm]; rfl
  have hTn : T.length = m + 1 := by rw [← hS2z, ← tx_len S2, HTx.out]
  have hm1 : 1 ≤ m := by omega
  have hm30 : m ≤ 30 := by omega
  have hex : S2.extract 0 m = S1 := by
    apply tx_inj
    unfold tx
    rw [ByteArray.data_extract, Array.toList_extract, List.extract_eq_take_drop, List.drop_zero, Nat.sub_zero, List.map_take]
    show (tx S2).take m = tx S1
    rw [hS2, HS1.out, List.take_append_of_le_length (by omega), List.take_of_length_le (by omega)]
  have hsl : ∀ W : World, (Instr.slice 9 (.string S2) none (some (.int .i64 (m : Int))) none).run Tryd.prog W = .ok (.string S1) W := fun W => by
    have h1 : (m : Int) ≤ (S2.size : Int) := by omega
    clear hS2z
    go_simp
  have hwm : IntKind.i64.wrap ((m : Int) + 1) = (m : Int) + 1 := by rw [IntKind.wrap_i64]; omega
  clear hPass hT HPS hS2 hSz hex
  have hmI : (1 : Int) ≤ (m : Int) := by omega
  obtain ⟨p0, p1, _, _⟩ := x3.two
  have v0 := x3.lt
  go_wp2_with fail
  refine (passes4 _ S2 (HSY.out _ hY3) (by omega)).mono ?_
  rintro e w4 ⟨rfl, hb4⟩
  rw [HTx.out, show testB 4 (ints []) T = true from HPa.out.test]
  have x4 := x3.below hb4
  have hY4 := hY3.trans (hb4.mono (Nat.le_of_lt v0))
  clear x3 hY3 hb4 p0 p1 v0
  go_wp2_with fail
  go_loopw [7] (fun iv wr => ∃ i : Nat, iv = .int .i64 i ∧ i ≤ m + 1 ∧ BlockAt wr w.heap.size #[.int .u8 4, .slice none 0 0] 25 ∧ Below w.heap.size w wr)
    (fun iv _ => m + 1 - (intOf iv).toNat)
  case atStart => exact ⟨0, rfl, by omega, x4, hY4⟩
  case round =>
    clear x4 hY4
    obtain ⟨i, rfl, hi, x0, hY⟩ := hrel
    by_cases hlt : i < m + 1
    · have hlti : (i : Int) < (m : Int) + 1 := by omega
      obtain ⟨d, hd⟩ : ∃ d, T[i]? = some d := ⟨_, List.getElem?_eq_getElem (by omega)⟩
      have hmS : i < S2.size := by omega
      have hci : (S2[i]'hmS).toNat = d := by
        have := tx_at S2 i hmS
        rw [HTx.out, hd] at this
        exact (Option.some.inj this).symm
      have HD := Lib.hid hd
      clear hd
      go_wp2_with fail
      go_loopw [8] (fun cv wr => ∃ x : Nat, cv = .int .u8 x ∧ 48 ≤ x ∧ x ≤ 58 ∧ BlockAt wr w.heap.size #[.int .u8 4, .slice none 0 0] 25 ∧ Below w.heap.size w wr)
        (fun cv _ => 58 - (intOf cv).toNat)
      case atStart => exact ⟨48, rfl, by omega, by omega, x0, hY⟩
      case round =>
        clear x0 hY
        obtain ⟨x, rfl, hx48, hx58, x0, hY⟩ := hrel
        obtain ⟨p0, p1, _, _⟩ := x0.two
        have v0 := x0.lt
        have hx48i : (48 : Int) ≤ (x : Int) := by omega
        have hwx : IntKind.u8.wrap ((x : Int) + 1) = (x : Int) + 1 := by rw [IntKind.wrap_u8]; omega
        by_cases hx57 : x ≤ 57
        · have hx57i : (x : Int) ≤ 57 := by omega
          by_cases hxd : x = d
          · have hxdi : (x : Int) = (d : Int) := by omega
            subst hxd
            go_upto_region 12 with fail
            go_quiet (fail)
            go_wp2
            go_roundw
            case rel => exact ⟨x + 1, by go_num, by omega, by omega, x0, ⟨hY.os, hY.tape, hY.output, hY.size, hY.block⟩⟩
            case measure => simp [intOf] <;> omega
          · have hxdi : ¬ (x : Int) = (d : Int) := by omega
            have hxdj : ¬ (d : Int) = (x : Int) := by omega
            have hxdb : ((x : Int) == (d : Int)) = false := by rw [beq_eq_false_iff_ne]; exact hxdi
            have hxdc : ((x : Int) != (d : Int)) = true := by rw [bne_iff_ne]; exact hxdi
            have htest : testB 4 (ints []) (T.set i x) = false := by
              have := HPa.out.other (by decide) HD.out (x := x - 48) (by omega) (by unfold shownB; rw [if_neg (by omega)]; omega)
              unfold shownB at this
              rw [if_neg (by omega), show 48 + (x - 48) = x from by omega] at this
              exact this
            have HTE := Lib.hid htest
            clear htest
            go_upto_region 12 with fail
            go_region_held3 (fun w' => w'.cell? ⟨w.heap.size, 0, none⟩ = some (.int .u8 4) ∧ w'.cell? ⟨w.heap.size, 1, none⟩ = some (.slice none 0 0)) (go_keep)
              (first
                | (go_at_call 16; with_reducible refine (put_any S2 i x _ (by omega) (by omega) (by omega)).mono ?_; rintro e w5 ⟨S3, rfl, hS3, hb5⟩; have y5 : BlockAt w5 w.heap.size #[.int .u8 4, .slice none 0 0] 25 := BlockAt.below (by first | exact x0 | exact x0.drew) hb5; obtain ⟨a0, a1, _, _⟩ := y5.two; have v5 := y5.lt; have hY5 : Below w.heap.size w w5 := (by first | exact below_next hY v0 hb5 | exact below_next2 hY v0 hb5))
                | (go_at_call 17; with_reducible refine (passes4 _ S3 (HSY.out _ hY5) (by rw [← tx_len S3, hS3, List.length_set, tx_len]; omega)).mono ?_; rintro e w6 ⟨rfl, hb6⟩; rw [hS3, HTx.out, HTE.out]; have y6 : BlockAt w6 w.heap.size #[.int .u8 4, .slice none 0 0] 25 := BlockAt.below (by first | exact y5 | exact y5.drew) hb6; obtain ⟨a0, a1, _, _⟩ := y6.two; have v6 := y6.lt; have hY6 : Below w.heap.size w w6 := (by first | exact below_next hY5 v5 hb6 | exact below_next2 hY5 v5 hb6)))
            clear x0 hY y5 hY5 hb5 hb6 p0 p1 v0 v5 a0 a1 hS3
            go_wp2
            go_roundw
            case rel => exact ⟨x + 1, by go_num, by omega, by omega, y6, hY6⟩
            case measure => simp [intOf] <;> omega
        · have hx57i : ¬ (x : Int) ≤ 57 := by omega
          have hwi : IntKind.i64.wrap ((i : Int) + 1) = (i : Int) + 1 := by rw [IntKind.wrap_i64]; omega
          by_cases hlast : i + 1 < m + 1
          · have hlasti : (i : Int) + 1 < (m : Int) + 1 := by omega
            have hi0 : (0 : Int) ≤ (i : Int) + 1 := by omega
            have hto : ((i : Int) + 1).toNat = i + 1 := by omega
            obtain ⟨d2, hd2⟩ : ∃ d2, T[i + 1]? = some d2 := ⟨_, List.getElem?_eq_getElem (by omega)⟩
            have hmS2 : i + 1 < S2.size := by omega
            have hci2 : (S2[i + 1]'hmS2).toNat = d2 := by
              have := tx_at S2 (i + 1) hmS2
              rw [HTx.out, hd2] at this
              exact (Option.some.inj this).symm
            by_cases hdd : d = d2
            · have hddi : (d : Int) = (d2 : Int) := by omega
              subst hdd
              go_upto_region 14 with fail
              go_quiet (fail)
              go_wp2
              go_roundw
              case rel => exact ⟨i + 1, by go_num, by omega, x0, ⟨hY.os, hY.tape, hY.output, hY.size, hY.block⟩⟩
              case measure => simp [intOf] <;> omega
            · have hddi : ¬ (d : Int) = (d2 : Int) := by omega
              have hddb : ((d : Int) == (d2 : Int)) = false := by rw [beq_eq_false_iff_ne]; exact hddi
              have hddc : ((d : Int) != (d2 : Int)) = true := by rw [bne_iff_ne]; exact hddi
              have HTE : Hid (testB 4 (ints []) (swp T i d d2) = false) := Lib.hid (HPa.out.perm HD.out hd2 hdd)
              have HD2 := Lib.hid hd2
              clear hd2
              go_upto_region 14 with fail
              go_region_held3 (fun w' => w'.cell? ⟨w.heap.size, 0, none⟩ = some (.int .u8 4) ∧ w'.cell? ⟨w.heap.size, 1, none⟩ = some (.slice none 0 0)) (go_keep)
                (first
                  | (go_at_call 29; with_reducible refine (exch_any S2 i _ (by omega) (by omega) (by rw [HTx.out]; exact HD.out) (by rw [HTx.out]; exact HD2.out)).mono ?_; rintro e w5 ⟨S3, rfl, hS3, hb5⟩; have y5 : BlockAt w5 w.heap.size #[.int .u8 4, .slice none 0 0] 25 := BlockAt.below (by first | exact x0 | exact x0.drew) hb5; obtain ⟨a0, a1, _, _⟩ := y5.two; have v5 := y5.lt; have hY5 : Below w.heap.size w w5 := (by first | exact below_next hY v0 hb5 | exact below_next2 hY v0 hb5))
                  | (go_at_call 17; with_reducible refine (passes4 _ S3 (HSY.out _ hY5) (by rw [← tx_len S3, hS3, swp_len, tx_len]; omega)).mono ?_; rintro e w6 ⟨rfl, hb6⟩; rw [hS3, HTx.out, HTE.out]; have y6 : BlockAt w6 w.heap.size #[.int .u8 4, .slice none 0 0] 25 := BlockAt.below (by first | exact y5 | exact y5.drew) hb6; obtain ⟨a0, a1, _, _⟩ := y6.two; have v6 := y6.lt; have hY6 : Below w.heap.size w w6 := (by first | exact below_next hY5 v5 hb6 | exact below_next2 hY5 v5 hb6)))
              all_goals
                clear x0 hY y5 hY5 hb5 hb6 p0 p1 v0 v5 a0 a1 hS3
                go_wp2
                go_roundw
                case rel => exact ⟨i + 1, by go_num, by omega, y6, hY6⟩
                case measure => simp [intOf] <;> omega
          · have hlasti : ¬ (i : Int) + 1 < (m : Int) + 1 := by omega
            have hlastj : ¬ (i : Int) < (m : Int) := by omega
            go_upto_region 14 with fail
            go_quiet (fail)
            go_wp2
            go_roundw
            case rel => exact ⟨i + 1, by go_num, by omega, x0, ⟨hY.os, hY.tape, hY.output, hY.size, hY.block⟩⟩
            case measure => simp [intOf] <;> omega
    · have hlti : ¬ (i : Int) < (m : Int) + 1 := by omega
      obtain ⟨p0, p1, _, _⟩ := x0.two
      have v0 := x0.lt
      go_wp2_with fail
      refine (misses4 _ m (HSY.out _ hY) hm1 hm30).mono ?_
      rintro e w5 ⟨pm, cm, rfl, hb5⟩
      have hY5 := hY.trans (hb5.mono (Nat.le_of_lt v0))
      clear x0 hY hb5 p0 p1 v0
      go_wp2_with fail
      refine (dawake_any _ (HSY.out _ hY5).tabs).mono ?_
      rintro e w9 ⟨rfl, hb9⟩
      go_wp2
      go_ret
      exact ⟨rfl, hY5.trans (hb9.mono hY5.size)⟩
end Go.Proofs.YtnmnfbibjghjhaaDoor
