/-
  The walk of DigitOne.
-/
import Derived.Test.YtnmnfbibjghjhaaDoorDo
import Derived.Test.YtnmnfbibjghjhaaDoorDu
namespace Go.Proofs.YtnmnfbibjghjhaaDoor
open Go.RowKit Dig

/-- 's[1:]'. -/
theorem slice_from (s : ByteArray) (h1 : 1 ≤ s.size) (h2 : s.size ≤ 999) : ∃ D : ByteArray, tx D = (tx s).drop 1 ∧ ∀ W : World, (Instr.slice 9 (.string s) (some (.int .i64 1)) none none).run Tryd.prog W = .ok (.string D) W := by
  refine ⟨s.extract 1 s.size, ?_, fun W => ?_⟩
  · unfold tx
    rw [ByteArray.data_extract, Array.toList_extract, List.extract_eq_take_drop, List.take_of_length_le (by rw [List.length_drop, Array.length_toList]; exact Nat.le_refl _), List.map_drop]
  · have ha : (1 : Int) ≤ (s.size : Int) := by omega
    go_simp
set_option maxRecDepth 100000 in
set_option maxHeartbeats 16000000 in
theorem digitone_any (kd : Int) (wl pl : List Nat) (wv pv : Value) (w : World) (hk0 : 0 ≤ kd) (hk1 : kd < 256) (hw : ByteSrc w wv wl) (hp : ByteSrc w pv pl) (ht : Tabs w) :
    Calls Tryd.prog 6 #[.int .u8 kd, wv, pv] w fun e w' => e = .returned (.bool true) ∧ Below w.heap.size w w' := by
  have HW := Lib.hid hw
  have HP := Lib.hid hp
  have HT := Lib.hid ht
  obtain ⟨_, wp, wc, rfl, _⟩ := hw
  obtain ⟨_, pp, pc, rfl, _⟩ := hp
  clear ht
  go_enter Tryd.func6, Tryd.ntmps6
  go_wp2_with fail
  refine (anyone_any kd wl _ _ HW.out hk0 hk1).mono ?_
  rintro e w1 ⟨k, ws, q, c, hok, rfl, hN, hb1⟩
  have HN := Lib.hid hN
  have HOK := Lib.hid hok
  clear hN hok
  have hw1 := hb1.size
  have x0 : BlockAt (w1.alloc (.cells #[.int .u8 k, .slice q ws.length c] 25)) w1.heap.size #[.int .u8 k, .slice q ws.length c] 25 := BlockAt.new w1 _ 25
  have hY : Below w1.heap.size w1 (w1.alloc (.cells #[.int .u8 k, .slice q ws.length c] 25)) := (Below.refl _ w1).alloc (Nat.le_refl _) _
  have hsys : ∀ W' : World, Below w1.heap.size w1 W' → SysIn W' k (ints ws) (.slice q ws.length c) := fun W' h => ⟨(HN.out.below (Nat.le_refl _) h).int, (HT.out.below (Nat.le_refl _) hb1).below (Nat.le_refl _) h⟩
  have HSY := Lib.hid hsys
  clear hsys
  go_wp2_with fail
  refine (payload_any pl _ _ (HP.out.below (Nat.le_refl _) (hb1.trans (hY.mono hb1.size)))).mono ?_
  rintro e w2 ⟨S1, rfl, hS1, hb2⟩
  have x2 := x0.below hb2
  have hY2 := hY.trans (hb2.mono (by simp))
  clear x0 hY hb2
  obtain ⟨hpl1, hpl2, hpd⟩ := payOf_ok pl
  obtain ⟨t, hte⟩ : ∃ t, payOf pl = t := ⟨_, rfl⟩
  rw [hte] at hpl1 hpl2 hpd hS1
  have HS1 := Lib.hid hS1
  have hSz : S1.size = t.length := by rw [← tx_len S1, hS1]
  obtain ⟨hce, _, _⟩ := pay_pass HOK.out hpl1 hpl2 hpd
  have htest : ∀ x, x < 11 → testB k (ints ws) (t ++ [shownB x]) = decide (checkVal k (ints ws) t = shownB x) ∧ chkErr k (ints ws) (t ++ [shownB x]) = (if x = 10 ∧ k ≠ 2 then 161 else 0) := fun x hx => pay_test HOK.out hpl1 hpl2 hpd hx
  obtain ⟨C, hC⟩ : ∃ C, checkVal k (ints ws) t = C := ⟨_, rfl⟩
  rw [hC] at htest
  have HC := Lib.hid hC
  have HCE := Lib.hid hce
  have HTS := Lib.hid htest
  clear hS1 hpd hte hC hce htest
  have hS30 : S1.size ≤ 30 := by omega
  have hSnn : S1.size ≤ 999 := by omega
  have hS1l : 1 ≤ S1.size := by omega
  have hS1z : ¬ 9223372036854775807 < S1.size + 1 := by omega
  have hS1y : ¬ 9223372036854775807 < 1 + S1.size := by omega
  have hS1i : (1 : Int) ≤ (S1.size : Int) := by omega
  clear hSz
  obtain ⟨p0, p1, _, _⟩ := x2.two
  have v0 := x2.lt
  go_wp2_with fail
  refine (check_any k (ints ws) _ S1 _ (HSY.out _ hY2) (by omega)).mono ?_
  rintro e w3 ⟨rfl, hb3⟩
  rw [HS1.out, HC.out, HCE.out]
  have x3 := x2.below hb3
  have hY3 := hY2.trans (hb3.mono (Nat.le_of_lt v0))
  clear x2 hY2 hb3 p0 p1 v0
  go_wp2_with fail
  go_loopw [11] (fun xv wr => ∃ x : Nat, xv = .int .i64 x ∧ x ≤ 11 ∧ BlockAt wr w1.heap.size #[.int .u8 k, .slice q ws.length c] 25 ∧ Below w1.heap.size w1 wr)
    (fun xv _ => 11 - (intOf xv).toNat)
  case atStart => exact ⟨0, rfl, by omega, x3, hY3⟩
  case round =>
    clear x3 hY3
    obtain ⟨x, rfl, hx11, x0, hY⟩ := hrel
    obtain ⟨p0, p1, _, _⟩ := x0.two
    have v0 := x0.lt
    rcases (by omega : x = 0 ∨ x = 1 ∨ x = 2 ∨ x = 3 ∨ x = 4 ∨ x = 5 ∨ x = 6 ∨ x = 7 ∨ x = 8 ∨ x = 9 ∨ x = 10 ∨ x = 11) with rfl | rfl | rfl | rfl | rfl | rfl | rfl | rfl | rfl | rfl | rfl | rfl
    · have hx1 : testB k (ints ws) (t ++ [48]) = decide (C = 48) ∧ chkErr k (ints ws) (t ++ [48]) = 0 := by
        have := HTS.out 0 (by decide)
        rw [if_neg (fun e => by have h1 := e.1; omega)] at this
        exact this
      have HX := Lib.hid hx1
      clear hx1
      have hw1x : IntKind.i64.wrap 1 = 1 := by decide
      have hslx : ∀ W : World, (Instr.slice 9 (.string ⟨#[48, 49, 50, 51, 52, 53, 54, 55, 56, 57, 88]⟩) (some (.int .i64 0)) (some (.int .i64 1)) none).run Tryd.prog W = .ok (.string ⟨#[48]⟩) W := fun W => by kernel_rfl
      have hidx : ((⟨#[48, 49, 50, 51, 52, 53, 54, 55, 56, 57, 88]⟩ : ByteArray)[0]'(by decide)).toNat = 48 := by decide
      go_upto_region 9 with fail
      go_region_held3 (fun w' => w'.cell? ⟨w1.heap.size, 0, none⟩ = some (.int .u8 k) ∧ w'.cell? ⟨w1.heap.size, 1, none⟩ = some (.slice q ws.length c)) (go_keep)
        (first
          | (go_at_call 20; with_reducible refine (test_any k (ints ws) _ (S1 ++ ⟨#[48]⟩) _ (HSY.out _ hY.drew) (by rw [ByteArray.size_append, show (⟨#[48]⟩ : ByteArray).size = 1 from rfl]; omega)).mono ?_; rintro e w6 ⟨rfl, hb6⟩; rw [tx_append, HS1.out, show tx ⟨#[48]⟩ = [48] from rfl, HX.out.1, HX.out.2]; have y6 : BlockAt w6 w1.heap.size #[.int .u8 k, .slice q ws.length c] 25 := BlockAt.below (by first | exact x0 | exact x0.drew) hb6; obtain ⟨a0, a1, _, _⟩ := y6.two; have v6 := y6.lt; have hY6 : Below w1.heap.size w1 w6 := (by first | exact below_next hY v0 hb6 | exact below_next2 hY v0 hb6)))
      clear x0 hY hb6 p0 p1 v0
      by_cases hc : C = 48
      · have hd : decide (C = 48) = true := decide_eq_true hc
        have hde : (C : Int) = 48 := by omega
        rw [hd]
        clear hc hd
        go_wp2
        go_roundw
        case rel => exact ⟨1, by go_num, by omega, y6, hY6⟩
        case measure => simp [intOf]
      · have hd : decide (C = 48) = false := decide_eq_false hc
        have hde : ¬ (C : Int) = 48 := by omega
        have hde2 : ¬ (48 : Int) = (C : Int) := by omega
        have hde3 : ((C : Int) == 48) = false := by rw [beq_eq_false_iff_ne]; omega
        have hde4 : ((48 : Int) == (C : Int)) = false := by rw [beq_eq_false_iff_ne]; omega
        rw [hd]
        clear hc hd
        go_wp2
        go_roundw
        case rel => exact ⟨1, by go_num, by omega, y6, hY6⟩
        case measure => simp [intOf]
    · have hx1 : testB k (ints ws) (t ++ [49]) = decide (C = 49) ∧ chkErr k (ints ws) (t ++ [49]) = 0 := by
        have := HTS.out 1 (by decide)
        rw [if_neg (fun e => by have h1 := e.1; omega)] at this
        exact this
      have HX := Lib.hid hx1
      clear hx1
      have hw1x : IntKind.i64.wrap 2 = 2 := by decide
      have hslx : ∀ W : World, (Instr.slice 9 (.string ⟨#[48, 49, 50, 51, 52, 53, 54, 55, 56, 57, 88]⟩) (some (.int .i64 1)) (some (.int .i64 2)) none).run Tryd.prog W = .ok (.string ⟨#[49]⟩) W := fun W => by kernel_rfl
      have hidx : ((⟨#[48, 49, 50, 51, 52, 53, 54, 55, 56, 57, 88]⟩ : ByteArray)[1]'(by decide)).toNat = 49 := by decide
      go_upto_region 9 with fail
      go_region_held3 (fun w' => w'.cell? ⟨w1.heap.size, 0, none⟩ = some (.int .u8 k) ∧ w'.cell? ⟨w1.heap.size, 1, none⟩ = some (.slice q ws.length c)) (go_keep)
        (first
          | (go_at_call 20; with_reducible refine (test_any k (ints ws) _ (S1 ++ ⟨#[49]⟩) _ (HSY.out _ hY.drew) (by rw [ByteArray.size_append, show (⟨#[49]⟩ : ByteArray).size = 1 from rfl]; omega)).mono ?_; rintro e w6 ⟨rfl, hb6⟩; rw [tx_append, HS1.out, show tx ⟨#[49]⟩ = [49] from rfl, HX.out.1, HX.out.2]; have y6 : BlockAt w6 w1.heap.size #[.int .u8 k, .slice q ws.length c] 25 := BlockAt.below (by first | exact x0 | exact x0.drew) hb6; obtain ⟨a0, a1, _, _⟩ := y6.two; have v6 := y6.lt; have hY6 : Below w1.heap.size w1 w6 := (by first | exact below_next hY v0 hb6 | exact below_next2 hY v0 hb6)))
      clear x0 hY hb6 p0 p1 v0
      by_cases hc : C = 49
      · have hd : decide (C = 49) = true := decide_eq_true hc
        have hde : (C : Int) = 49 := by omega
        rw [hd]
        clear hc hd
        go_wp2
        go_roundw
        case rel => exact ⟨2, by go_num, by omega, y6, hY6⟩
        case measure => simp [intOf]
      · have hd : decide (C = 49) = false := decide_eq_false hc
        have hde : ¬ (C : Int) = 49 := by omega
        have hde2 : ¬ (49 : Int) = (C : Int) := by omega
        have hde3 : ((C : Int) == 49) = false := by rw [beq_eq_false_iff_ne]; omega
        have hde4 : ((49 : Int) == (C : Int)) = false := by rw [beq_eq_false_iff_ne]; omega
        rw [hd]
        clear hc hd
        go_wp2
        go_roundw
        case rel => exact ⟨2, by go_num, by omega, y6, hY6⟩
        case measure => simp [intOf]
    · have hx1 : testB k (ints ws) (t ++ [50]) = decide (C = 50) ∧ chkErr k (ints ws) (t ++ [50]) = 0 := by
        have := HTS.out 2 (by decide)
        rw [if_neg (fun e => by have h1 := e.1; omega)] at this
        exact this
      have HX := Lib.hid hx1
      clear hx1
      have hw1x : IntKind.i64.wrap 3 = 3 := by decide
      have hslx : ∀ W : World, (Instr.slice 9 (.string ⟨#[48, 49, 50, 51, 52, 53, 54, 55, 56, 57, 88]⟩) (some (.int .i64 2)) (some (.int .i64 3)) none).run Tryd.prog W = .ok (.string ⟨#[50]⟩) W := fun W => by kernel_rfl
      have hidx : ((⟨#[48, 49, 50, 51, 52, 53, 54, 55, 56, 57, 88]⟩ : ByteArray)[2]'(by decide)).toNat = 50 := by decide
      go_upto_region 9 with fail
      go_region_held3 (fun w' => w'.cell? ⟨w1.heap.size, 0, none⟩ = some (.int .u8 k) ∧ w'.cell? ⟨w1.heap.size, 1, none⟩ = some (.slice q ws.length c)) (go_keep)
        (first
          | (go_at_call 20; with_reducible refine (test_any k (ints ws) _ (S1 ++ ⟨#[50]⟩) _ (HSY.out _ hY.drew) (by rw [ByteArray.size_append, show (⟨#[50]⟩ : ByteArray).size = 1 from rfl]; omega)).mono ?_; rintro e w6 ⟨rfl, hb6⟩; rw [tx_append, HS1.out, show tx ⟨#[50]⟩ = [50] from rfl, HX.out.1, HX.out.2]; have y6 : BlockAt w6 w1.heap.size #[.int .u8 k, .slice q ws.length c] 25 := BlockAt.below (by first | exact x0 | exact x0.drew) hb6; obtain ⟨a0, a1, _, _⟩ := y6.two; have v6 := y6.lt; have hY6 : Below w1.heap.size w1 w6 := (by first | exact below_next hY v0 hb6 | exact below_next2 hY v0 hb6)))
      clear x0 hY hb6 p0 p1 v0
      by_cases hc : C = 50
      · have hd : decide (C = 50) = true := decide_eq_true hc
        have hde : (C : Int) = 50 := by omega
        rw [hd]
        clear hc hd
        go_wp2
        go_roundw
        case rel => exact ⟨3, by go_num, by omega, y6, hY6⟩
        case measure => simp [intOf]
      · have hd : decide (C = 50) = false := decide_eq_false hc
        have hde : ¬ (C : Int) = 50 := by omega
        have hde2 : ¬ (50 : Int) = (C : Int) := by omega
        have hde3 : ((C : Int) == 50) = false := by rw [beq_eq_false_iff_ne]; omega
        have hde4 : ((50 : Int) == (C : Int)) = false := by rw [beq_eq_false_iff_ne]; omega
        rw [hd]
        clear hc hd
        go_wp2
        go_roundw
        case rel => exact ⟨3, by go_num, by omega, y6, hY6⟩
        case measure => simp [intOf]
    · have hx1 : testB k (ints ws) (t ++ [51]) = decide (C = 51) ∧ chkErr k (ints ws) (t ++ [51]) = 0 := by
        have := HTS.out 3 (by decide)
        rw [if_neg (fun e => by have h1 := e.1; omega)] at this
        exact this
      have HX := Lib.hid hx1
      clear hx1
      have hw1x : IntKind.i64.wrap 4 = 4 := by decide
      have hslx : ∀ W : World, (Instr.slice 9 (.string ⟨#[48, 49, 50, 51, 52, 53, 54, 55, 56, 57, 88]⟩) (some (.int .i64 3)) (some (.int .i64 4)) none).run Tryd.prog W = .ok (.string ⟨#[51]⟩) W := fun W => by kernel_rfl
      have hidx : ((⟨#[48, 49, 50, 51, 52, 53, 54, 55, 56, 57, 88]⟩ : ByteArray)[3]'(by decide)).toNat = 51 := by decide
      go_upto_region 9 with fail
      go_region_held3 (fun w' => w'.cell? ⟨w1.heap.size, 0, none⟩ = some (.int .u8 k) ∧ w'.cell? ⟨w1.heap.size, 1, none⟩ = some (.slice q ws.length c)) (go_keep)
        (first
          | (go_at_call 20; with_reducible refine (test_any k (ints ws) _ (S1 ++ ⟨#[51]⟩) _ (HSY.out _ hY.drew) (by rw [ByteArray.size_append, show (⟨#[51]⟩ : ByteArray).size = 1 from rfl]; omega)).mono ?_; rintro e w6 ⟨rfl, hb6⟩; rw [tx_append, HS1.out, show tx ⟨#[51]⟩ = [51] from rfl, HX.out.1, HX.out.2]; have y6 : BlockAt w6 w1.heap.size #[.int .u8 k, .slice q ws.length c] 25 := BlockAt.below (by first | exact x0 | exact x0.drew) hb6; obtain ⟨a0, a1, _, _⟩ := y6.two; have v6 := y6.lt; have hY6 : Below w1.heap.size w1 w6 := (by first | exact below_next hY v0 hb6 | exact below_next2 hY v0 hb6)))
      clear x0 hY hb6 p0 p1 v0
      by_cases hc : C = 51
      · have hd : decide (C = 51) = true := decide_eq_true hc
        have hde : (C : Int) = 51 := by omega
        rw [hd]
        clear hc hd
        go_wp2
        go_roundw
        case rel => exact ⟨4, by go_num, by omega, y6, hY6⟩
        case measure => simp [intOf]
      · have hd : decide (C = 51) = false := decide_eq_false hc
        have hde : ¬ (C : Int) = 51 := by omega
        have hde2 : ¬ (51 : Int) = (C : Int) := by omega
        have hde3 : ((C : Int) == 51) = false := by rw [beq_eq_false_iff_ne]; omega
        have hde4 : ((51 : Int) == (C : Int)) = false := by rw [beq_eq_false_iff_ne]; omega
        rw [hd]
        clear hc hd
        go_wp2
        go_roundw
        case rel => exact ⟨4, by go_num, by omega, y6, hY6⟩
        case measure => simp [intOf]
    · have hx1 : testB k (ints ws) (t ++ [52]) = decide (C = 52) ∧ chkErr k (ints ws) (t ++ [52]) = 0 := by
        have := HTS.out 4 (by decide)
        rw [if_neg (fun e => by have h1 := e.1; omega)] at this
        exact this
      have HX := Lib.hid hx1
      clear hx1
      have hw1x : IntKind.i64.wrap 5 = 5 := by decide
      have hslx : ∀ W : World, (Instr.slice 9 (.string ⟨#[48, 49, 50, 51, 52, 53, 54, 55, 56, 57, 88]⟩) (some (.int .i64 4)) (some (.int .i64 5)) none).run Tryd.prog W = .ok (.string ⟨#[52]⟩) W := fun W => by kernel_rfl
      have hidx : ((⟨#[48, 49, 50, 51, 52, 53, 54, 55, 56, 57, 88]⟩ : ByteArray)[4]'(by decide)).toNat = 52 := by decide
      go_upto_region 9 with fail
      go_region_held3 (fun w' => w'.cell? ⟨w1.heap.size, 0, none⟩ = some (.int .u8 k) ∧ w'.cell? ⟨w1.heap.size, 1, none⟩ = some (.slice q ws.length c)) (go_keep)
        (first
          | (go_at_call 20; with_reducible refine (test_any k (ints ws) _ (S1 ++ ⟨#[52]⟩) _ (HSY.out _ hY.drew) (by rw [ByteArray.size_append, show (⟨#[52]⟩ : ByteArray).size = 1 from rfl]; omega)).mono ?_; rintro e w6 ⟨rfl, hb6⟩; rw [tx_append, HS1.out, show tx ⟨#[52]⟩ = [52] from rfl, HX.out.1, HX.out.2]; have y6 : BlockAt w6 w1.heap.size #[.int .u8 k, .slice q ws.length c] 25 := BlockAt.below (by first | exact x0 | exact x0.drew) hb6; obtain ⟨a0, a1, _, _⟩ := y6.two; have v6 := y6.lt; have hY6 : Below w1.heap.size w1 w6 := (by first | exact below_next hY v0 hb6 | exact below_next2 hY v0 hb6)))
      clear x0 hY hb6 p0 p1 v0
      by_cases hc : C = 52
      · have hd : decide (C = 52) = true := decide_eq_true hc
        have hde : (C : Int) = 52 := by omega
        rw [hd]
        clear hc hd
        go_wp2
        go_roundw
        case rel => exact ⟨5, by go_num, by omega, y6, hY6⟩
        case measure => simp [intOf]
      · have hd : decide (C = 52) = false := decide_eq_false hc
        have hde : ¬ (C : Int) = 52 := by omega
        have hde2 : ¬ (52 : Int) = (C : Int) := by omega
        have hde3 : ((C : Int) == 52) = false := by rw [beq_eq_false_iff_ne]; omega
        have hde4 : ((52 : Int) == (C : Int)) = false := by rw [beq_eq_false_iff_ne]; omega
        rw [hd]
        clear hc hd
        go_wp2
        go_roundw
        case rel => exact ⟨5, by go_num, by omega, y6, hY6⟩
        case measure => simp [intOf]
    · have hx1 : testB k (ints ws) (t ++ [53]) = decide (C = 53) ∧ chkErr k (ints ws) (t ++ [53]) = 0 := by
        have := HTS.out 5 (by decide)
        rw [if_neg (fun e => by have h1 := e.1; omega)] at this
        exact this
      have HX := Lib.hid hx1
      clear hx1
      have hw1x : IntKind.i64.wrap 6 = 6 := by decide
      have hslx : ∀ W : World, (Instr.slice 9 (.string ⟨#[48, 49, 50, 51, 52, 53, 54, 55, 56, 57, 88]⟩) (some (.int .i64 5)) (some (.int .i64 6)) none).run Tryd.prog W = .ok (.string ⟨#[53]⟩) W := fun W => by kernel_rfl
      have hidx : ((⟨#[48, 49, 50, 51, 52, 53, 54, 55, 56, 57, 88]⟩ : ByteArray)[5]'(by decide)).toNat = 53 := by decide
      go_upto_region 9 with fail
      go_region_held3 (fun w' => w'.cell? ⟨w1.heap.size, 0, none⟩ = some (.int .u8 k) ∧ w'.cell? ⟨w1.heap.size, 1, none⟩ = some (.slice q ws.length c)) (go_keep)
        (first
          | (go_at_call 20; with_reducible refine (test_any k (ints ws) _ (S1 ++ ⟨#[53]⟩) _ (HSY.out _ hY.drew) (by rw [ByteArray.size_append, show (⟨#[53]⟩ : ByteArray).size = 1 from rfl]; omega)).mono ?_; rintro e w6 ⟨rfl, hb6⟩; rw [tx_append, HS1.out, show tx ⟨#[53]⟩ = [53] from rfl, HX.out.1, HX.out.2]; have y6 : BlockAt w6 w1.heap.size #[.int .u8 k, .slice q ws.length c] 25 := BlockAt.below (by first | exact x0 | exact x0.drew) hb6; obtain ⟨a0, a1, _, _⟩ := y6.two; have v6 := y6.lt; have hY6 : Below w1.heap.size w1 w6 := (by first | exact below_next hY v0 hb6 | exact below_next2 hY v0 hb6)))
      clear x0 hY hb6 p0 p1 v0
      by_cases hc : C = 53
      · have hd : decide (C = 53) = true := decide_eq_true hc
        have hde : (C : Int) = 53 := by omega
        rw [hd]
        clear hc hd
        go_wp2
        go_roundw
        case rel => exact ⟨6, by go_num, by omega, y6, hY6⟩
        case measure => simp [intOf]
      · have hd : decide (C = 53) = false := decide_eq_false hc
        have hde : ¬ (C : Int) = 53 := by omega
        have hde2 : ¬ (53 : Int) = (C : Int) := by omega
        have hde3 : ((C : Int) == 53) = false := by rw [beq_eq_false_iff_ne]; omega
        have hde4 : ((53 : Int) == (C : Int)) = false := by rw [beq_eq_false_iff_ne]; omega
        rw [hd]
        clear hc hd
        go_wp2
        go_roundw
        case rel => exact ⟨6, by go_num, by omega, y6, hY6⟩
        case measure => simp [intOf]
    · have hx1 : testB k (ints ws) (t ++ [54]) = decide (C = 54) ∧ chkErr k (ints ws) (t ++ [54]) = 0 := by
        have := HTS.out 6 (by decide)
        rw [if_neg (fun e => by have h1 := e.1; omega)] at this
        exact this
      have HX := Lib.hid hx1
      clear hx1
      have hw1x : IntKind.i64.wrap 7 = 7 := by decide
      have hslx : ∀ W : World, (Instr.slice 9 (.string ⟨#[48, 49, 50, 51, 52, 53, 54, 55, 56, 57, 88]⟩) (some (.int .i64 6)) (some (.int .i64 7)) none).run Tryd.prog W = .ok (.string ⟨#[54]⟩) W := fun W => by kernel_rfl
      have hidx : ((⟨#[48, 49, 50, 51, 52, 53, 54, 55, 56, 57, 88]⟩ : ByteArray)[6]'(by decide)).toNat = 54 := by decide
      go_upto_region 9 with fail
      go_region_held3 (fun w' => w'.cell? ⟨w1.heap.size, 0, none⟩ = some (.int .u8 k) ∧ w'.cell? ⟨w1.heap.size, 1, none⟩ = some (.slice q ws.length c)) (go_keep)
        (first
          | (go_at_call 20; with_reducible refine (test_any k (ints ws) _ (S1 ++ ⟨#[54]⟩) _ (HSY.out _ hY.drew) (by rw [ByteArray.size_append, show (⟨#[54]⟩ : ByteArray).size = 1 from rfl]; omega)).mono ?_; rintro e w6 ⟨rfl, hb6⟩; rw [tx_append, HS1.out, show tx ⟨#[54]⟩ = [54] from rfl, HX.out.1, HX.out.2]; have y6 : BlockAt w6 w1.heap.size #[.int .u8 k, .slice q ws.length c] 25 := BlockAt.below (by first | exact x0 | exact x0.drew) hb6; obtain ⟨a0, a1, _, _⟩ := y6.two; have v6 := y6.lt; have hY6 : Below w1.heap.size w1 w6 := (by first | exact below_next hY v0 hb6 | exact below_next2 hY v0 hb6)))
      clear x0 hY hb6 p0 p1 v0
      by_cases hc : C = 54
      · have hd : decide (C = 54) = true := decide_eq_true hc
        have hde : (C : Int) = 54 := by omega
        rw [hd]
        clear hc hd
        go_wp2
        go_roundw
        case rel => exact ⟨7, by go_num, by omega, y6, hY6⟩
        case measure => simp [intOf]
      · have hd : decide (C = 54) = false := decide_eq_false hc
        have hde : ¬ (C : Int) = 54 := by omega
        have hde2 : ¬ (54 : Int) = (C : Int) := by omega
        have hde3 : ((C : Int) == 54) = false := by rw [beq_eq_false_iff_ne]; omega
        have hde4 : ((54 : Int) == (C : Int)) = false := by rw [beq_eq_false_iff_ne]; omega
        rw [hd]
        clear hc hd
        go_wp2
        go_roundw
        case rel => exact ⟨7, by go_num, by omega, y6, hY6⟩
        case measure => simp [intOf]
    · have hx1 : testB k (ints ws) (t ++ [55]) = decide (C = 55) ∧ chkErr k (ints ws) (t ++ [55]) = 0 := by
        have := HTS.out 7 (by decide)
        rw [if_neg (fun e => by have h1 := e.1; omega)] at this
        exact this
      have HX := Lib.hid hx1
      clear hx1
      have hw1x : IntKind.i64.wrap 8 = 8 := by decide
      have hslx : ∀ W : World, (Instr.slice 9 (.string ⟨#[48, 49, 50, 51, 52, 53, 54, 55, 56, 57, 88]⟩) (some (.int .i64 7)) (some (.int .i64 8)) none).run Tryd.prog W = .ok (.string ⟨#[55]⟩) W := fun W => by kernel_rfl
      have hidx : ((⟨#[48, 49, 50, 51, 52, 53, 54, 55, 56, 57, 88]⟩ : ByteArray)[7]'(by decide)).toNat = 55 := by decide
      go_upto_region 9 with fail
      go_region_held3 (fun w' => w'.cell? ⟨w1.heap.size, 0, none⟩ = some (.int .u8 k) ∧ w'.cell? ⟨w1.heap.size, 1, none⟩ = some (.slice q ws.length c)) (go_keep)
        (first
          | (go_at_call 20; with_reducible refine (test_any k (ints ws) _ (S1 ++ ⟨#[55]⟩) _ (HSY.out _ hY.drew) (by rw [ByteArray.size_append, show (⟨#[55]⟩ : ByteArray).size = 1 from rfl]; omega)).mono ?_; rintro e w6 ⟨rfl, hb6⟩; rw [tx_append, HS1.out, show tx ⟨#[55]⟩ = [55] from rfl, HX.out.1, HX.out.2]; have y6 : BlockAt w6 w1.heap.size #[.int .u8 k, .slice q ws.length c] 25 := BlockAt.below (by first | exact x0 | exact x0.drew) hb6; obtain ⟨a0, a1, _, _⟩ := y6.two; have v6 := y6.lt; have hY6 : Below w1.heap.size w1 w6 := (by first | exact below_next hY v0 hb6 | exact below_next2 hY v0 hb6)))
      clear x0 hY hb6 p0 p1 v0
      by_cases hc : C = 55
      · have hd : decide (C = 55) = true := decide_eq_true hc
        have hde : (C : Int) = 55 := by omega
        rw [hd]
        clear hc hd
        go_wp2
        go_roundw
        case rel => exact ⟨8, by go_num, by omega, y6, hY6⟩
        case measure => simp [intOf]
      · have hd : decide (C = 55) = false := decide_eq_false hc
        have hde : ¬ (C : Int) = 55 := by omega
        have hde2 : ¬ (55 : Int) = (C : Int) := by omega
        have hde3 : ((C : Int) == 55) = false := by rw [beq_eq_false_iff_ne]; omega
        have hde4 : ((55 : Int) == (C : Int)) = false := by rw [beq_eq_false_iff_ne]; omega
        rw [hd]
        clear hc hd
        go_wp2
        go_roundw
        case rel => exact ⟨8, by go_num, by omega, y6, hY6⟩
        case measure => simp [intOf]
    · have hx1 : testB k (ints ws) (t ++ [56]) = decide (C = 56) ∧ chkErr k (ints ws) (t ++ [56]) = 0 := by
        have := HTS.out 8 (by decide)
        rw [if_neg (fun e => by have h1 := e.1; omega)] at this
        exact this
      have HX := Lib.hid hx1
      clear hx1
      have hw1x : IntKind.i64.wrap 9 = 9 := by decide
      have hslx : ∀ W : World, (Instr.slice 9 (.string ⟨#[48, 49, 50, 51, 52, 53, 54, 55, 56, 57, 88]⟩) (some (.int .i64 8)) (some (.int .i64 9)) none).run Tryd.prog W = .ok (.string ⟨#[56]⟩) W := fun W => by kernel_rfl
      have hidx : ((⟨#[48, 49, 50, 51, 52, 53, 54, 55, 56, 57, 88]⟩ : ByteArray)[8]'(by decide)).toNat = 56 := by decide
      go_upto_region 9 with fail
      go_region_held3 (fun w' => w'.cell? ⟨w1.heap.size, 0, none⟩ = some (.int .u8 k) ∧ w'.cell? ⟨w1.heap.size, 1, none⟩ = some (.slice q ws.length c)) (go_keep)
        (first
          | (go_at_call 20; with_reducible refine (test_any k (ints ws) _ (S1 ++ ⟨#[56]⟩) _ (HSY.out _ hY.drew) (by rw [ByteArray.size_append, show (⟨#[56]⟩ : ByteArray).size = 1 from rfl]; omega)).mono ?_; rintro e w6 ⟨rfl, hb6⟩; rw [tx_append, HS1.out, show tx ⟨#[56]⟩ = [56] from rfl, HX.out.1, HX.out.2]; have y6 : BlockAt w6 w1.heap.size #[.int .u8 k, .slice q ws.length c] 25 := BlockAt.below (by first | exact x0 | exact x0.drew) hb6; obtain ⟨a0, a1, _, _⟩ := y6.two; have v6 := y6.lt; have hY6 : Below w1.heap.size w1 w6 := (by first | exact below_next hY v0 hb6 | exact below_next2 hY v0 hb6)))
      clear x0 hY hb6 p0 p1 v0
      by_cases hc : C = 56
      · have hd : decide (C = 56) = true := decide_eq_true hc
        have hde : (C : Int) = 56 := by omega
        rw [hd]
        clear hc hd
        go_wp2
        go_roundw
        case rel => exact ⟨9, by go_num, by omega, y6, hY6⟩
        case measure => simp [intOf]
      · have hd : decide (C = 56) = false := decide_eq_false hc
        have hde : ¬ (C : Int) = 56 := by omega
        have hde2 : ¬ (56 : Int) = (C : Int) := by omega
        have hde3 : ((C : Int) == 56) = false := by rw [beq_eq_false_iff_ne]; omega
        have hde4 : ((56 : Int) == (C : Int)) = false := by rw [beq_eq_false_iff_ne]; omega
        rw [hd]
        clear hc hd
        go_wp2
        go_roundw
        case rel => exact ⟨9, by go_num, by omega, y6, hY6⟩
        case measure => simp [intOf]
    · have hx1 : testB k (ints ws) (t ++ [57]) = decide (C = 57) ∧ chkErr k (ints ws) (t ++ [57]) = 0 := by
        have := HTS.out 9 (by decide)
        rw [if_neg (fun e => by have h1 := e.1; omega)] at this
        exact this
      have HX := Lib.hid hx1
      clear hx1
      have hw1x : IntKind.i64.wrap 10 = 10 := by decide
      have hslx : ∀ W : World, (Instr.slice 9 (.string ⟨#[48, 49, 50, 51, 52, 53, 54, 55, 56, 57, 88]⟩) (some (.int .i64 9)) (some (.int .i64 10)) none).run Tryd.prog W = .ok (.string ⟨#[57]⟩) W := fun W => by kernel_rfl
      have hidx : ((⟨#[48, 49, 50, 51, 52, 53, 54, 55, 56, 57, 88]⟩ : ByteArray)[9]'(by decide)).toNat = 57 := by decide
      go_upto_region 9 with fail
      go_region_held3 (fun w' => w'.cell? ⟨w1.heap.size, 0, none⟩ = some (.int .u8 k) ∧ w'.cell? ⟨w1.heap.size, 1, none⟩ = some (.slice q ws.length c)) (go_keep)
        (first
          | (go_at_call 20; with_reducible refine (test_any k (ints ws) _ (S1 ++ ⟨#[57]⟩) _ (HSY.out _ hY.drew) (by rw [ByteArray.size_append, show (⟨#[57]⟩ : ByteArray).size = 1 from rfl]; omega)).mono ?_; rintro e w6 ⟨rfl, hb6⟩; rw [tx_append, HS1.out, show tx ⟨#[57]⟩ = [57] from rfl, HX.out.1, HX.out.2]; have y6 : BlockAt w6 w1.heap.size #[.int .u8 k, .slice q ws.length c] 25 := BlockAt.below (by first | exact x0 | exact x0.drew) hb6; obtain ⟨a0, a1, _, _⟩ := y6.two; have v6 := y6.lt; have hY6 : Below w1.heap.size w1 w6 := (by first | exact below_next hY v0 hb6 | exact below_next2 hY v0 hb6)))
      clear x0 hY hb6 p0 p1 v0
      by_cases hc : C = 57
      · have hd : decide (C = 57) = true := decide_eq_true hc
        have hde : (C : Int) = 57 := by omega
        rw [hd]
        clear hc hd
        go_wp2
        go_roundw
        case rel => exact ⟨10, by go_num, by omega, y6, hY6⟩
        case measure => simp [intOf]
      · have hd : decide (C = 57) = false := decide_eq_false hc
        have hde : ¬ (C : Int) = 57 := by omega
        have hde2 : ¬ (57 : Int) = (C : Int) := by omega
        have hde3 : ((C : Int) == 57) = false := by rw [beq_eq_false_iff_ne]; omega
        have hde4 : ((57 : Int) == (C : Int)) = false := by rw [beq_eq_false_iff_ne]; omega
        rw [hd]
        clear hc hd
        go_wp2
        go_roundw
        case rel => exact ⟨10, by go_num, by omega, y6, hY6⟩
        case measure => simp [intOf]
    · by_cases hk2 : k = 2
      · have hki : (k : Int) = 2 := by omega
        have hx1 : testB k (ints ws) (t ++ [88]) = decide (C = 88) ∧ chkErr k (ints ws) (t ++ [88]) = 0 := by
          have := HTS.out 10 (by decide)
          rw [if_neg (fun e => e.2 hk2)] at this
          exact this
        have HX := Lib.hid hx1
        clear hx1 hk2
        have HKI := Lib.hid hki
        clear hki
        have hw1x : IntKind.i64.wrap 11 = 11 := by decide
        have hslx : ∀ W : World, (Instr.slice 9 (.string ⟨#[48, 49, 50, 51, 52, 53, 54, 55, 56, 57, 88]⟩) (some (.int .i64 10)) (some (.int .i64 11)) none).run Tryd.prog W = .ok (.string ⟨#[88]⟩) W := fun W => by kernel_rfl
        have hidx : ((⟨#[48, 49, 50, 51, 52, 53, 54, 55, 56, 57, 88]⟩ : ByteArray)[10]'(by decide)).toNat = 88 := by decide
        go_upto_region 9 with fail
        go_region_held3 (fun w' => w'.cell? ⟨w1.heap.size, 0, none⟩ = some (.int .u8 k) ∧ w'.cell? ⟨w1.heap.size, 1, none⟩ = some (.slice q ws.length c)) (go_keep)
          (first
            | (go_at_call 20; with_reducible refine (test_any k (ints ws) _ (S1 ++ ⟨#[88]⟩) _ (HSY.out _ hY.drew) (by rw [ByteArray.size_append, show (⟨#[88]⟩ : ByteArray).size = 1 from rfl]; omega)).mono ?_; rintro e w6 ⟨rfl, hb6⟩; rw [tx_append, HS1.out, show tx ⟨#[88]⟩ = [88] from rfl, HX.out.1, HX.out.2]; have y6 : BlockAt w6 w1.heap.size #[.int .u8 k, .slice q ws.length c] 25 := BlockAt.below (by first | exact x0 | exact x0.drew) hb6; obtain ⟨a0, a1, _, _⟩ := y6.two; have v6 := y6.lt; have hY6 : Below w1.heap.size w1 w6 := (by first | exact below_next hY v0 hb6 | exact below_next2 hY v0 hb6)))
        clear x0 hY hb6 p0 p1 v0
        have hki := HKI.out
        by_cases hc : C = 88
        · have hd : decide (C = 88) = true := decide_eq_true hc
          have hde : (C : Int) = 88 := by omega
          rw [hd]
          clear hc hd
          go_wp2
          go_roundw
          case rel => exact ⟨11, by go_num, by omega, y6, hY6⟩
          case measure => simp [intOf]
        · have hd : decide (C = 88) = false := decide_eq_false hc
          have hde : ¬ (C : Int) = 88 := by omega
          have hde2 : ¬ (88 : Int) = (C : Int) := by omega
          have hde3 : ((C : Int) == 88) = false := by rw [beq_eq_false_iff_ne]; omega
          have hde4 : ((88 : Int) == (C : Int)) = false := by rw [beq_eq_false_iff_ne]; omega
          rw [hd]
          clear hc hd
          go_wp2
          go_roundw
          case rel => exact ⟨11, by go_num, by omega, y6, hY6⟩
          case measure => simp [intOf]
      · have hki : ¬ (k : Int) = 2 := by omega
        have hki2 : ((k : Int) != 2) = true := by rw [bne_iff_ne]; exact hki
        have hx1 : testB k (ints ws) (t ++ [88]) = decide (C = 88) ∧ chkErr k (ints ws) (t ++ [88]) = 161 := by
          have := HTS.out 10 (by decide)
          rw [if_pos ⟨rfl, hk2⟩] at this
          exact this
        have HX := Lib.hid hx1
        clear hx1 hk2
        have HKI := Lib.hid hki
        clear hki
        have hw1x : IntKind.i64.wrap 11 = 11 := by decide
        have hslx : ∀ W : World, (Instr.slice 9 (.string ⟨#[48, 49, 50, 51, 52, 53, 54, 55, 56, 57, 88]⟩) (some (.int .i64 10)) (some (.int .i64 11)) none).run Tryd.prog W = .ok (.string ⟨#[88]⟩) W := fun W => by kernel_rfl
        have hidx : ((⟨#[48, 49, 50, 51, 52, 53, 54, 55, 56, 57, 88]⟩ : ByteArray)[10]'(by decide)).toNat = 88 := by decide
        go_upto_region 9 with fail
        go_region_held3 (fun w' => w'.cell? ⟨w1.heap.size, 0, none⟩ = some (.int .u8 k) ∧ w'.cell? ⟨w1.heap.size, 1, none⟩ = some (.slice q ws.length c)) (go_keep)
          (first
            | (go_at_call 20; with_reducible refine (test_any k (ints ws) _ (S1 ++ ⟨#[88]⟩) _ (HSY.out _ hY.drew) (by rw [ByteArray.size_append, show (⟨#[88]⟩ : ByteArray).size = 1 from rfl]; omega)).mono ?_; rintro e w6 ⟨rfl, hb6⟩; rw [tx_append, HS1.out, show tx ⟨#[88]⟩ = [88] from rfl, HX.out.1, HX.out.2]; have y6 : BlockAt w6 w1.heap.size #[.int .u8 k, .slice q ws.length c] 25 := BlockAt.below (by first | exact x0 | exact x0.drew) hb6; obtain ⟨a0, a1, _, _⟩ := y6.two; have v6 := y6.lt; have hY6 : Below w1.heap.size w1 w6 := (by first | exact below_next hY v0 hb6 | exact below_next2 hY v0 hb6)))
        clear x0 hY hb6 p0 p1 v0
        have hki := HKI.out
        by_cases hc : C = 88
        · have hd : decide (C = 88) = true := decide_eq_true hc
          have hde : (C : Int) = 88 := by omega
          rw [hd]
          clear hc hd
          go_wp2
          go_roundw
          case rel => exact ⟨11, by go_num, by omega, y6, hY6⟩
          case measure => simp [intOf]
        · have hd : decide (C = 88) = false := decide_eq_false hc
          have hde : ¬ (C : Int) = 88 := by omega
          have hde2 : ¬ (88 : Int) = (C : Int) := by omega
          have hde3 : ((C : Int) == 88) = false := by rw [beq_eq_false_iff_ne]; omega
          have hde4 : ((88 : Int) == (C : Int)) = false := by rw [beq_eq_false_iff_ne]; omega
          rw [hd]
          clear hc hd
          go_wp2
          go_roundw
          case rel => exact ⟨11, by go_num, by omega, y6, hY6⟩
          case measure => simp [intOf]
    · have hxt : chkErr k (ints ws) (88 :: t) = 161 := x_first HOK.out hpl1 hpl2
      have hxc : checkErr k (ints ws) (88 :: t.drop 1) = 161 := x_check HOK.out hpl2
      have HXT := Lib.hid hxt
      have HXC := Lib.hid hxc
      clear hxt hxc
      obtain ⟨D, hD, hsl⟩ := slice_from S1 hS1l hSnn
      rw [HS1.out] at hD
      have HD := Lib.hid hD
      clear hD
      go_wp2_with fail
      with_reducible refine (test_any k (ints ws) _ (⟨#[88]⟩ ++ S1) _ (HSY.out _ hY) (by rw [ByteArray.size_append, show (⟨#[88]⟩ : ByteArray).size = 1 from rfl]; omega)).mono ?_
      rintro e w4 ⟨rfl, hb4⟩
      rw [tx_append, HS1.out, show tx ⟨#[88]⟩ ++ t = 88 :: t from rfl, HXT.out]
      have y4 := x0.below hb4
      have hY4 := hY.trans (hb4.mono (Nat.le_of_lt v0))
      clear x0 hY hb4 p0 p1 v0
      obtain ⟨p0, p1, _, _⟩ := y4.two
      have v0 := y4.lt
      have hSzD : D.size ≤ 29 := by rw [← tx_len D, HD.out, List.length_drop]; omega
      have hSzE : ¬ 9223372036854775807 < 1 + D.size := by omega
      go_upto_region 14 with fail
      go_region_held3 (fun w' => w'.cell? ⟨w1.heap.size, 0, none⟩ = some (.int .u8 k) ∧ w'.cell? ⟨w1.heap.size, 1, none⟩ = some (.slice q ws.length c)) (go_keep)
        (first
          | (go_at_call 19; with_reducible refine (check_any k (ints ws) _ (⟨#[88]⟩ ++ D) _ (HSY.out _ hY4.drew) (by rw [ByteArray.size_append, show (⟨#[88]⟩ : ByteArray).size = 1 from rfl]; omega)).mono ?_; rintro e w6 ⟨rfl, hb6⟩; rw [tx_append, HD.out, show tx ⟨#[88]⟩ ++ t.drop 1 = 88 :: t.drop 1 from rfl, HXC.out]; have y6 : BlockAt w6 w1.heap.size #[.int .u8 k, .slice q ws.length c] 25 := BlockAt.below (by first | exact y4 | exact y4.drew) hb6; obtain ⟨a0, a1, _, _⟩ := y6.two; have v6 := y6.lt; have hY6 : Below w1.heap.size w1 w6 := (by first | exact below_next hY4 v0 hb6 | exact below_next2 hY4 v0 hb6)))
      clear y4 hY4 hb6 p0 p1 v0
      go_wp2_with fail
      refine (dawake_any _ ((HT.out.below (Nat.le_refl _) hb1).below (Nat.le_refl _) hY6)).mono ?_
      rintro e w9 ⟨rfl, hb9⟩
      go_wp2
      go_ret
      exact ⟨rfl, (hb1.trans (hY6.mono hw1)).trans (hb9.mono (by have := hY6.size; omega))⟩
end Go.Proofs.YtnmnfbibjghjhaaDoor
