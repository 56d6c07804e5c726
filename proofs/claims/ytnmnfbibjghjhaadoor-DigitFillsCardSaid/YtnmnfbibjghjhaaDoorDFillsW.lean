/-
  The walk of DigitFills.
-/
import Derived.Test.YtnmnfbibjghjhaaDoorDo
import Derived.Test.YtnmnfbibjghjhaaDoorDq
namespace Go.Proofs.YtnmnfbibjghjhaaDoor
open Go.RowKit Dig

set_option maxRecDepth 100000 in
set_option maxHeartbeats 16000000 in
theorem digitfills_any (kd : Int) (wl pl : List Nat) (wv pv : Value) (w : World) (hk0 : 0 ≤ kd) (hk1 : kd < 256) (hw : ByteSrc w wv wl) (hp : ByteSrc w pv pl) (ht : Tabs w) :
    Calls Tryd.prog 3 #[.int .u8 kd, wv, pv] w fun e w' => e = .returned (.bool true) ∧ Below w.heap.size w w' := by
  have HW := Lib.hid hw
  have HP := Lib.hid hp
  have HT := Lib.hid ht
  obtain ⟨_, wp, wc, rfl, _⟩ := hw
  obtain ⟨_, pp, pc, rfl, _⟩ := hp
  clear ht
  go_enter Tryd.func3, Tryd.ntmps3
  go_wp2_with fail
  refine (anyone_any kd wl _ _ HW.out hk0 hk1).mono ?_
  rintro e w1 ⟨k, ws, q, c, hok, rfl, hN, hb1⟩
  have HN := Lib.hid hN
  have HOK := Lib.hid hok
  clear hN hok
  go_upto_region 2 with fail
  obtain ⟨W, hW⟩ : ∃ W, w1.alloc (.cells #[.int .u8 k, .slice q ws.length c] 25) = W := ⟨_, rfl⟩
  have x0 : BlockAt W w1.heap.size #[.int .u8 k, .slice q ws.length c] 25 := by rw [← hW]; exact BlockAt.new w1 _ 25
  have hY : Below w1.heap.size w1 W := by rw [← hW]; exact (Below.refl _ w1).alloc (Nat.le_refl _) _
  have hX : Below w.heap.size w W := hb1.trans (hY.mono hb1.size)
  rw [hW]
  clear hW
  have hsys : ∀ W' : World, Below w1.heap.size w1 W' → SysIn W' k (ints ws) (.slice q ws.length c) := fun W' h => ⟨(HN.out.below (Nat.le_refl _) h).int, (HT.out.below (Nat.le_refl _) hb1).below (Nat.le_refl _) h⟩
  have HSY := Lib.hid hsys
  clear hsys
  have hw1 := hb1.size
  obtain ⟨p0, p1, _, _⟩ := x0.two
  have v0 := x0.lt
  have HPp := Lib.hid (HP.out.below (Nat.le_refl _) hX)
  obtain ⟨hpl1, hpl2, hpd⟩ := payOf_ok pl
  obtain ⟨t, hte⟩ : ∃ t, payOf pl = t := ⟨_, rfl⟩
  rw [hte] at hpl1 hpl2 hpd
  obtain ⟨hce, hpass, hcv⟩ := pay_pass HOK.out hpl1 hpl2 hpd
  have HCE := Lib.hid hce
  obtain ⟨C, hC⟩ : ∃ C, checkVal k (ints ws) t = C := ⟨_, rfl⟩
  rw [hC] at hpass
  have HC := Lib.hid hC
  have HPS := Lib.hid hpass
  have HTE := Lib.hid hte
  clear hce hpass hC hte hcv hpd
  go_region_held3 (fun w' => w'.cell? ⟨w1.heap.size, 0, none⟩ = some (.int .u8 k) ∧ w'.cell? ⟨w1.heap.size, 1, none⟩ = some (.slice q ws.length c)) (go_keep)
    (first
      | (go_at_call 14; refine (payload_any pl _ _ (by first | exact HPp.out | exact HPp.out.drew)).mono ?_; rintro e w2 ⟨S1, rfl, hS1, hb2⟩; have y2 : BlockAt w2 w1.heap.size #[.int .u8 k, .slice q ws.length c] 25 := BlockAt.below (by first | exact x0 | exact x0.drew) hb2; obtain ⟨a0, a1, _, _⟩ := y2.two; have v2 := y2.lt; have hY2 : Below w1.heap.size w1 w2 := (by first | exact below_next hY v0 hb2 | exact below_next2 hY v0 hb2))
      | (go_at_call 13; refine (append_any k (ints ws) _ S1 _ (HSY.out _ hY2) (by rw [← tx_len S1, hS1, HTE.out]; omega)).mono ?_; rintro e w3 ⟨S2, rfl, hS2, hb3⟩; rw [hS1, HTE.out, HCE.out]; rw [hS1, HTE.out, HC.out] at hS2; have HS2 := Lib.hid (hS2 HCE.out); have y3 : BlockAt w3 w1.heap.size #[.int .u8 k, .slice q ws.length c] 25 := BlockAt.below (by first | exact y2 | exact y2.drew) hb3; obtain ⟨a0, a1, _, _⟩ := y3.two; have v3 := y3.lt; have hY3 : Below w1.heap.size w1 w3 := (by first | exact below_next hY2 v2 hb3 | exact below_next2 hY2 v2 hb3)))
  clear x0 hY hX y2 hY2 hb2 hb3 p0 p1 v0 v2 a0 a1 hS1 hS2
  obtain ⟨T, hT⟩ : ∃ T, t ++ [C] = T := ⟨_, rfl⟩
  have HTx : Hid (tx S2 = T) := Lib.hid (by rw [HS2.out, hT])
  have hPass := HPS.out
  rw [hT] at hPass
  have HPa := Lib.hid hPass
  have hSz : S2.size = T.length := by rw [← tx_len S2, HTx.out]
  have hlo := hPass.lo
  have hhi := hPass.hi
  clear hPass hT HPS HS2
  obtain ⟨n, hn⟩ : ∃ n, S2.size = n := ⟨_, rfl⟩
  have hTn : T.length = n := by rw [← hSz, hn]
  rw [hTn] at hlo hhi hSz
  have hloi : (2 : Int) ≤ (n : Int) := by omega
  go_wp2_with fail
  go_loopw [10] (fun iv wr => ∃ i : Nat, iv = .int .i64 i ∧ i ≤ n ∧ BlockAt wr w1.heap.size #[.int .u8 k, .slice q ws.length c] 25 ∧ Below w1.heap.size w1 wr)
    (fun iv _ => n - (intOf iv).toNat)
  case atStart => exact ⟨0, rfl, by omega, y3, hY3⟩
  case round =>
    clear y3 hY3 v3
    obtain ⟨i, rfl, hi, x0, hY⟩ := hrel
    by_cases hlt : i < n
    · have hlti : (i : Int) < (n : Int) := by omega
      obtain ⟨d, hd⟩ : ∃ d, T[i]? = some d := ⟨_, List.getElem?_eq_getElem (by omega)⟩
      obtain ⟨h11, hsd, hFd⟩ := HPa.out.own hd
      have hmS : i < S2.size := by omega
      have hci : (S2[i]'hmS).toNat = d := by
        have := tx_at S2 i hmS
        rw [HTx.out, hd] at this
        exact (Option.some.inj this).symm
      obtain ⟨x0v, hx0⟩ : ∃ x0v, chVal d = x0v := ⟨_, rfl⟩
      rw [hx0] at h11 hsd hFd
      obtain ⟨F, hF⟩ : ∃ F, fillOk k ws (vals (T.set i 48)) (T.length - 1 - i) = F := ⟨_, rfl⟩
      rw [hF] at hFd
      have hfill := HPa.out.fill i (by omega)
      rw [hF] at hfill
      have hset : ∀ x, x < 11 → testB k (ints ws) (T.set i (shownB x)) = F x := fun x hx => by
        rw [← hF]; exact set_test HPa.out.ok HPa.out.good HPa.out.lo HPa.out.hi (by omega) hx
      have hone : k ≠ 1 → (List.range 11).filter F = [x0v] := fun hk => by rw [← hF, ← hx0]; exact HPa.out.single hk hd
      have hq63 := HPa.out.no63 i (by omega)
      have HFI := Lib.hid hfill
      have HSE := Lib.hid hset
      have HON := Lib.hid hone
      have HQ := Lib.hid hq63
      have HFd := Lib.hid hFd
      have HSD := Lib.hid hsd
      clear hfill hset hone hq63 hF hx0 hFd hsd hd
      obtain ⟨p0, p1, _, _⟩ := x0.two
      have v0 := x0.lt
      go_upto_region 8 with fail
      go_region_held3 (fun w' => w'.cell? ⟨w1.heap.size, 0, none⟩ = some (.int .u8 k) ∧ w'.cell? ⟨w1.heap.size, 1, none⟩ = some (.slice q ws.length c)) (go_keep)
        (first
          | (go_at_call 16; refine (put_any S2 i 63 _ (by omega) (by decide) (by omega)).mono ?_; rintro e w4 ⟨S3, rfl, hS3, hb4⟩; have y4 : BlockAt w4 w1.heap.size #[.int .u8 k, .slice q ws.length c] 25 := BlockAt.below (by first | exact x0 | exact x0.drew) hb4; obtain ⟨a0, a1, _, _⟩ := y4.two; have v4 := y4.lt; have hY4 : Below w1.heap.size w1 w4 := (by first | exact below_next hY v0 hb4 | exact below_next2 hY v0 hb4))
          | (go_at_call 15; refine (fill_any k (ints ws) _ S3 _ (HSY.out _ hY4) (by rw [← tx_len S3, hS3, List.length_set, tx_len]; omega)).mono ?_; rintro e w5 ⟨qq, S4, hqq, rfl, hS4, hb5⟩; rw [hS3, HTx.out] at hqq hS4; obtain rfl := hqq.unique HQ.out; rw [hS3, HTx.out, HFI.out.1]; rw [HFI.out.2] at hS4; have HS4 := Lib.hid hS4; have y5 : BlockAt w5 w1.heap.size #[.int .u8 k, .slice q ws.length c] 25 := BlockAt.below (by first | exact y4 | exact y4.drew) hb5; obtain ⟨a0, a1, _, _⟩ := y5.two; have v5 := y5.lt; have hY5 : Below w1.heap.size w1 w5 := (by first | exact below_next hY4 v4 hb5 | exact below_next2 hY4 v4 hb5)))
      clear x0 hY y4 hY4 hb4 hb5 p0 p1 v0 v4 a0 a1 hS3 hS4 hqq
      go_wp2_with fail
      go_loopw [13, 14, 15] (fun gv fv xv wr => ∃ (x : Nat) (Sw : ByteArray) (fb : Bool), xv = .int .i64 x ∧ x ≤ 11 ∧ gv = .string Sw ∧ fv = .bool fb ∧ Hid (tx Sw = ((List.range x).filter F).map shownB) ∧ Hid (fb = decide (x0v < x)) ∧ BlockAt wr w1.heap.size #[.int .u8 k, .slice q ws.length c] 25 ∧ Below w1.heap.size w1 wr)
        (fun _ _ xv _ => 11 - (intOf xv).toNat)
      case atStart => exact ⟨0, ⟨#[]⟩, false, rfl, by omega, rfl, rfl, Lib.hid rfl, Lib.hid (by simp), y5, hY5⟩
      case round =>
        clear y5 hY5 v5
        obtain ⟨x, Sw, fb, rfl, hx11, rfl, rfl, hSw, hfb, x0, hY⟩ := hrel
        have hSwl : Sw.size ≤ 11 := by rw [← tx_len Sw, hSw.out, List.length_map]; exact Nat.le_trans (range_filter_le F x) hx11
        obtain ⟨p0, p1, _, _⟩ := x0.two
        have v0 := x0.lt
        rcases (by omega : x = 0 ∨ x = 1 ∨ x = 2 ∨ x = 3 ∨ x = 4 ∨ x = 5 ∨ x = 6 ∨ x = 7 ∨ x = 8 ∨ x = 9 ∨ x = 10 ∨ x = 11) with rfl | rfl | rfl | rfl | rfl | rfl | rfl | rfl | rfl | rfl | rfl | rfl
        · obtain ⟨fx, hfx⟩ : ∃ fx, F 0 = fx := ⟨_, rfl⟩
          have hsx := HSE.out 0 (by decide)
          rw [hfx, show shownB 0 = 48 from rfl] at hsx
          have HSX := Lib.hid hsx
          have HFX := Lib.hid hfx
          clear hsx hfx
          go_upto_region 13 with fail
          go_region_held3 (fun w' => w'.cell? ⟨w1.heap.size, 0, none⟩ = some (.int .u8 k) ∧ w'.cell? ⟨w1.heap.size, 1, none⟩ = some (.slice q ws.length c)) (go_keep)
            (first
              | (go_at_call 16; refine (put_any S2 i 48 _ (by omega) (by decide) (by omega)).mono ?_; rintro e w6 ⟨S5, rfl, hS5, hb6⟩; have y6 : BlockAt w6 w1.heap.size #[.int .u8 k, .slice q ws.length c] 25 := BlockAt.below (by first | exact x0 | exact x0.drew) hb6; obtain ⟨a0, a1, _, _⟩ := y6.two; have v6 := y6.lt; have hY6 : Below w1.heap.size w1 w6 := (by first | exact below_next hY v0 hb6 | exact below_next2 hY v0 hb6))
              | (go_at_call 17; refine (passes_any k (ints ws) _ S5 _ (HSY.out _ hY6) (by rw [← tx_len S5, hS5, List.length_set, tx_len]; omega)).mono ?_; rintro e w7 ⟨rfl, hb7⟩; rw [hS5, HTx.out, HSX.out]; have y7 : BlockAt w7 w1.heap.size #[.int .u8 k, .slice q ws.length c] 25 := BlockAt.below (by first | exact y6 | exact y6.drew) hb7; obtain ⟨a0, a1, _, _⟩ := y7.two; have v7 := y7.lt; have hY7 : Below w1.heap.size w1 w7 := (by first | exact below_next hY6 v6 hb7 | exact below_next2 hY6 v6 hb7)))
          clear x0 hY y6 hY6 hb6 hb7 p0 p1 v0 v6 a0 a1 hS5
          cases fx with
          | false =>
            have hne : x0v ≠ 0 := fun e => by have h1 := HFd.out; rw [e, HFX.out] at h1; cases h1
            have HT : Hid (tx Sw = ((List.range 1).filter F).map shownB) := Lib.hid (by rw [show 1 = 0 + 1 from rfl, range_filter_succ F 0, HFX.out, if_neg (by decide), List.append_nil]; exact hSw.out)
            have HB : Hid (fb = decide (x0v < 1)) := Lib.hid (by rw [hfb.out]; exact decide_eq_decide.2 (by omega))
            go_wp2
            go_roundw
            case rel => exact ⟨1, Sw, fb, by go_num, by omega, rfl, rfl, HT, HB, y7, hY7⟩
            case measure => simp [intOf]
          | true =>
            have HT : Hid (tx (Sw ++ ⟨#[48]⟩) = ((List.range 1).filter F).map shownB) := Lib.hid (by rw [tx_append, hSw.out, show 1 = 0 + 1 from rfl, range_filter_succ F 0, HFX.out, if_pos rfl, List.map_append]; rfl)
            cases fb with
            | true =>
              have HB : Hid (true = decide (x0v < 1)) := Lib.hid (by have := of_decide_eq_true hfb.out.symm; rw [decide_eq_true (by omega)])
              go_upto_region 15 with fail
              go_quiet (fail)
              go_wp2
              go_roundw
              case rel => exact ⟨1, _, true, by go_num, by omega, rfl, by first | rfl | exact congrArg Value.bool hde2, HT, HB, y7, ⟨hY7.os, hY7.tape, hY7.output, hY7.size, hY7.block⟩⟩
              case measure => simp [intOf]
            | false =>
              have hnl := of_decide_eq_false hfb.out.symm
              by_cases he : d = 48
              · have hx0e : x0v = 0 := by
                  have h1 := HSD.out
                  rw [he] at h1
                  unfold shownB at h1
                  split at h1 <;> omega
                have HB : Hid (true = decide (x0v < 1)) := Lib.hid (by rw [decide_eq_true (by omega)])
                have hde : ((d : Int) == 48) = true := by rw [beq_iff_eq]; omega
                have hde2 : ((48 : Int) == (d : Int)) = true := by rw [beq_iff_eq]; omega
                clear hx0e he
                go_upto_region 15 with fail
                go_quiet (fail)
                go_wp2
                go_roundw
                case rel => exact ⟨1, _, true, by go_num, by omega, rfl, by first | rfl | exact congrArg Value.bool hde2, HT, HB, y7, ⟨hY7.os, hY7.tape, hY7.output, hY7.size, hY7.block⟩⟩
                case measure => simp [intOf]
              · have hx0e : x0v ≠ 0 := fun e => by
                  have h1 := HSD.out
                  rw [e] at h1
                  exact he (by rw [← h1]; rfl)
                have HB : Hid (false = decide (x0v < 1)) := Lib.hid (by rw [decide_eq_false (by omega)])
                have hde : ((d : Int) == 48) = false := by rw [beq_eq_false_iff_ne]; omega
                have hde2 : ((48 : Int) == (d : Int)) = false := by rw [beq_eq_false_iff_ne]; omega
                clear hx0e he
                go_upto_region 15 with fail
                go_quiet (fail)
                go_wp2
                go_roundw
                case rel => exact ⟨1, _, false, by go_num, by omega, rfl, by first | rfl | exact congrArg Value.bool hde2, HT, HB, y7, ⟨hY7.os, hY7.tape, hY7.output, hY7.size, hY7.block⟩⟩
                case measure => simp [intOf]
        · obtain ⟨fx, hfx⟩ : ∃ fx, F 1 = fx := ⟨_, rfl⟩
          have hsx := HSE.out 1 (by decide)
          rw [hfx, show shownB 1 = 49 from rfl] at hsx
          have HSX := Lib.hid hsx
          have HFX := Lib.hid hfx
          clear hsx hfx
          go_upto_region 13 with fail
          go_region_held3 (fun w' => w'.cell? ⟨w1.heap.size, 0, none⟩ = some (.int .u8 k) ∧ w'.cell? ⟨w1.heap.size, 1, none⟩ = some (.slice q ws.length c)) (go_keep)
            (first
              | (go_at_call 16; refine (put_any S2 i 49 _ (by omega) (by decide) (by omega)).mono ?_; rintro e w6 ⟨S5, rfl, hS5, hb6⟩; have y6 : BlockAt w6 w1.heap.size #[.int .u8 k, .slice q ws.length c] 25 := BlockAt.below (by first | exact x0 | exact x0.drew) hb6; obtain ⟨a0, a1, _, _⟩ := y6.two; have v6 := y6.lt; have hY6 : Below w1.heap.size w1 w6 := (by first | exact below_next hY v0 hb6 | exact below_next2 hY v0 hb6))
              | (go_at_call 17; refine (passes_any k (ints ws) _ S5 _ (HSY.out _ hY6) (by rw [← tx_len S5, hS5, List.length_set, tx_len]; omega)).mono ?_; rintro e w7 ⟨rfl, hb7⟩; rw [hS5, HTx.out, HSX.out]; have y7 : BlockAt w7 w1.heap.size #[.int .u8 k, .slice q ws.length c] 25 := BlockAt.below (by first | exact y6 | exact y6.drew) hb7; obtain ⟨a0, a1, _, _⟩ := y7.two; have v7 := y7.lt; have hY7 : Below w1.heap.size w1 w7 := (by first | exact below_next hY6 v6 hb7 | exact below_next2 hY6 v6 hb7)))
          clear x0 hY y6 hY6 hb6 hb7 p0 p1 v0 v6 a0 a1 hS5
          cases fx with
          | false =>
            have hne : x0v ≠ 1 := fun e => by have h1 := HFd.out; rw [e, HFX.out] at h1; cases h1
            have HT : Hid (tx Sw = ((List.range 2).filter F).map shownB) := Lib.hid (by rw [show 2 = 1 + 1 from rfl, range_filter_succ F 1, HFX.out, if_neg (by decide), List.append_nil]; exact hSw.out)
            have HB : Hid (fb = decide (x0v < 2)) := Lib.hid (by rw [hfb.out]; exact decide_eq_decide.2 (by omega))
            go_wp2
            go_roundw
            case rel => exact ⟨2, Sw, fb, by go_num, by omega, rfl, rfl, HT, HB, y7, hY7⟩
            case measure => simp [intOf]
          | true =>
            have HT : Hid (tx (Sw ++ ⟨#[49]⟩) = ((List.range 2).filter F).map shownB) := Lib.hid (by rw [tx_append, hSw.out, show 2 = 1 + 1 from rfl, range_filter_succ F 1, HFX.out, if_pos rfl, List.map_append]; rfl)
            cases fb with
            | true =>
              have HB : Hid (true = decide (x0v < 2)) := Lib.hid (by have := of_decide_eq_true hfb.out.symm; rw [decide_eq_true (by omega)])
              go_upto_region 15 with fail
              go_quiet (fail)
              go_wp2
              go_roundw
              case rel => exact ⟨2, _, true, by go_num, by omega, rfl, by first | rfl | exact congrArg Value.bool hde2, HT, HB, y7, ⟨hY7.os, hY7.tape, hY7.output, hY7.size, hY7.block⟩⟩
              case measure => simp [intOf]
            | false =>
              have hnl := of_decide_eq_false hfb.out.symm
              by_cases he : d = 49
              · have hx0e : x0v = 1 := by
                  have h1 := HSD.out
                  rw [he] at h1
                  unfold shownB at h1
                  split at h1 <;> omega
                have HB : Hid (true = decide (x0v < 2)) := Lib.hid (by rw [decide_eq_true (by omega)])
                have hde : ((d : Int) == 49) = true := by rw [beq_iff_eq]; omega
                have hde2 : ((49 : Int) == (d : Int)) = true := by rw [beq_iff_eq]; omega
                clear hx0e he
                go_upto_region 15 with fail
                go_quiet (fail)
                go_wp2
                go_roundw
                case rel => exact ⟨2, _, true, by go_num, by omega, rfl, by first | rfl | exact congrArg Value.bool hde2, HT, HB, y7, ⟨hY7.os, hY7.tape, hY7.output, hY7.size, hY7.block⟩⟩
                case measure => simp [intOf]
              · have hx0e : x0v ≠ 1 := fun e => by
                  have h1 := HSD.out
                  rw [e] at h1
                  exact he (by rw [← h1]; rfl)
                have HB : Hid (false = decide (x0v < 2)) := Lib.hid (by rw [decide_eq_false (by omega)])
                have hde : ((d : Int) == 49) = false := by rw [beq_eq_false_iff_ne]; omega
                have hde2 : ((49 : Int) == (d : Int)) = false := by rw [beq_eq_false_iff_ne]; omega
                clear hx0e he
                go_upto_region 15 with fail
                go_quiet (fail)
                go_wp2
                go_roundw
                case rel => exact ⟨2, _, false, by go_num, by omega, rfl, by first | rfl | exact congrArg Value.bool hde2, HT, HB, y7, ⟨hY7.os, hY7.tape, hY7.output, hY7.size, hY7.block⟩⟩
                case measure => simp [intOf]
        · obtain ⟨fx, hfx⟩ : ∃ fx, F 2 = fx := ⟨_, rfl⟩
          have hsx := HSE.out 2 (by decide)
          rw [hfx, show shownB 2 = 50 from rfl] at hsx
          have HSX := Lib.hid hsx
          have HFX := Lib.hid hfx
          clear hsx hfx
          go_upto_region 13 with fail
          go_region_held3 (fun w' => w'.cell? ⟨w1.heap.size, 0, none⟩ = some (.int .u8 k) ∧ w'.cell? ⟨w1.heap.size, 1, none⟩ = some (.slice q ws.length c)) (go_keep)
            (first
              | (go_at_call 16; refine (put_any S2 i 50 _ (by omega) (by decide) (by omega)).mono ?_; rintro e w6 ⟨S5, rfl, hS5, hb6⟩; have y6 : BlockAt w6 w1.heap.size #[.int .u8 k, .slice q ws.length c] 25 := BlockAt.below (by first | exact x0 | exact x0.drew) hb6; obtain ⟨a0, a1, _, _⟩ := y6.two; have v6 := y6.lt; have hY6 : Below w1.heap.size w1 w6 := (by first | exact below_next hY v0 hb6 | exact below_next2 hY v0 hb6))
              | (go_at_call 17; refine (passes_any k (ints ws) _ S5 _ (HSY.out _ hY6) (by rw [← tx_len S5, hS5, List.length_set, tx_len]; omega)).mono ?_; rintro e w7 ⟨rfl, hb7⟩; rw [hS5, HTx.out, HSX.out]; have y7 : BlockAt w7 w1.heap.size #[.int .u8 k, .slice q ws.length c] 25 := BlockAt.below (by first | exact y6 | exact y6.drew) hb7; obtain ⟨a0, a1, _, _⟩ := y7.two; have v7 := y7.lt; have hY7 : Below w1.heap.size w1 w7 := (by first | exact below_next hY6 v6 hb7 | exact below_next2 hY6 v6 hb7)))
          clear x0 hY y6 hY6 hb6 hb7 p0 p1 v0 v6 a0 a1 hS5
          cases fx with
          | false =>
            have hne : x0v ≠ 2 := fun e => by have h1 := HFd.out; rw [e, HFX.out] at h1; cases h1
            have HT : Hid (tx Sw = ((List.range 3).filter F).map shownB) := Lib.hid (by rw [show 3 = 2 + 1 from rfl, range_filter_succ F 2, HFX.out, if_neg (by decide), List.append_nil]; exact hSw.out)
            have HB : Hid (fb = decide (x0v < 3)) := Lib.hid (by rw [hfb.out]; exact decide_eq_decide.2 (by omega))
            go_wp2
            go_roundw
            case rel => exact ⟨3, Sw, fb, by go_num, by omega, rfl, rfl, HT, HB, y7, hY7⟩
            case measure => simp [intOf]
          | true =>
            have HT : Hid (tx (Sw ++ ⟨#[50]⟩) = ((List.range 3).filter F).map shownB) := Lib.hid (by rw [tx_append, hSw.out, show 3 = 2 + 1 from rfl, range_filter_succ F 2, HFX.out, if_pos rfl, List.map_append]; rfl)
            cases fb with
            | true =>
              have HB : Hid (true = decide (x0v < 3)) := Lib.hid (by have := of_decide_eq_true hfb.out.symm; rw [decide_eq_true (by omega)])
              go_upto_region 15 with fail
              go_quiet (fail)
              go_wp2
              go_roundw
              case rel => exact ⟨3, _, true, by go_num, by omega, rfl, by first | rfl | exact congrArg Value.bool hde2, HT, HB, y7, ⟨hY7.os, hY7.tape, hY7.output, hY7.size, hY7.block⟩⟩
              case measure => simp [intOf]
            | false =>
              have hnl := of_decide_eq_false hfb.out.symm
              by_cases he : d = 50
              · have hx0e : x0v = 2 := by
                  have h1 := HSD.out
                  rw [he] at h1
                  unfold shownB at h1
                  split at h1 <;> omega
                have HB : Hid (true = decide (x0v < 3)) := Lib.hid (by rw [decide_eq_true (by omega)])
                have hde : ((d : Int) == 50) = true := by rw [beq_iff_eq]; omega
                have hde2 : ((50 : Int) == (d : Int)) = true := by rw [beq_iff_eq]; omega
                clear hx0e he
                go_upto_region 15 with fail
                go_quiet (fail)
                go_wp2
                go_roundw
                case rel => exact ⟨3, _, true, by go_num, by omega, rfl, by first | rfl | exact congrArg Value.bool hde2, HT, HB, y7, ⟨hY7.os, hY7.tape, hY7.output, hY7.size, hY7.block⟩⟩
                case measure => simp [intOf]
              · have hx0e : x0v ≠ 2 := fun e => by
                  have h1 := HSD.out
                  rw [e] at h1
                  exact he (by rw [← h1]; rfl)
                have HB : Hid (false = decide (x0v < 3)) := Lib.hid (by rw [decide_eq_false (by omega)])
                have hde : ((d : Int) == 50) = false := by rw [beq_eq_false_iff_ne]; omega
                have hde2 : ((50 : Int) == (d : Int)) = false := by rw [beq_eq_false_iff_ne]; omega
                clear hx0e he
                go_upto_region 15 with fail
                go_quiet (fail)
                go_wp2
                go_roundw
                case rel => exact ⟨3, _, false, by go_num, by omega, rfl, by first | rfl | exact congrArg Value.bool hde2, HT, HB, y7, ⟨hY7.os, hY7.tape, hY7.output, hY7.size, hY7.block⟩⟩
                case measure => simp [intOf]
        · obtain ⟨fx, hfx⟩ : ∃ fx, F 3 = fx := ⟨_, rfl⟩
          have hsx := HSE.out 3 (by decide)
          rw [hfx, show shownB 3 = 51 from rfl] at hsx
          have HSX := Lib.hid hsx
          have HFX := Lib.hid hfx
          clear hsx hfx
          go_upto_region 13 with fail
          go_region_held3 (fun w' => w'.cell? ⟨w1.heap.size, 0, none⟩ = some (.int .u8 k) ∧ w'.cell? ⟨w1.heap.size, 1, none⟩ = some (.slice q ws.length c)) (go_keep)
            (first
              | (go_at_call 16; refine (put_any S2 i 51 _ (by omega) (by decide) (by omega)).mono ?_; rintro e w6 ⟨S5, rfl, hS5, hb6⟩; have y6 : BlockAt w6 w1.heap.size #[.int .u8 k, .slice q ws.length c] 25 := BlockAt.below (by first | exact x0 | exact x0.drew) hb6; obtain ⟨a0, a1, _, _⟩ := y6.two; have v6 := y6.lt; have hY6 : Below w1.heap.size w1 w6 := (by first | exact below_next hY v0 hb6 | exact below_next2 hY v0 hb6))
              | (go_at_call 17; refine (passes_any k (ints ws) _ S5 _ (HSY.out _ hY6) (by rw [← tx_len S5, hS5, List.length_set, tx_len]; omega)).mono ?_; rintro e w7 ⟨rfl, hb7⟩; rw [hS5, HTx.out, HSX.out]; have y7 : BlockAt w7 w1.heap.size #[.int .u8 k, .slice q ws.length c] 25 := BlockAt.below (by first | exact y6 | exact y6.drew) hb7; obtain ⟨a0, a1, _, _⟩ := y7.two; have v7 := y7.lt; have hY7 : Below w1.heap.size w1 w7 := (by first | exact below_next hY6 v6 hb7 | exact below_next2 hY6 v6 hb7)))
          clear x0 hY y6 hY6 hb6 hb7 p0 p1 v0 v6 a0 a1 hS5
          cases fx with
          | false =>
            have hne : x0v ≠ 3 := fun e => by have h1 := HFd.out; rw [e, HFX.out] at h1; cases h1
            have HT : Hid (tx Sw = ((List.range 4).filter F).map shownB) := Lib.hid (by rw [show 4 = 3 + 1 from rfl, range_filter_succ F 3, HFX.out, if_neg (by decide), List.append_nil]; exact hSw.out)
            have HB : Hid (fb = decide (x0v < 4)) := Lib.hid (by rw [hfb.out]; exact decide_eq_decide.2 (by omega))
            go_wp2
            go_roundw
            case rel => exact ⟨4, Sw, fb, by go_num, by omega, rfl, rfl, HT, HB, y7, hY7⟩
            case measure => simp [intOf]
          | true =>
            have HT : Hid (tx (Sw ++ ⟨#[51]⟩) = ((List.range 4).filter F).map shownB) := Lib.hid (by rw [tx_append, hSw.out, show 4 = 3 + 1 from rfl, range_filter_succ F 3, HFX.out, if_pos rfl, List.map_append]; rfl)
            cases fb with
            | true =>
              have HB : Hid (true = decide (x0v < 4)) := Lib.hid (by have := of_decide_eq_true hfb.out.symm; rw [decide_eq_true (by omega)])
              go_upto_region 15 with fail
              go_quiet (fail)
              go_wp2
              go_roundw
              case rel => exact ⟨4, _, true, by go_num, by omega, rfl, by first | rfl | exact congrArg Value.bool hde2, HT, HB, y7, ⟨hY7.os, hY7.tape, hY7.output, hY7.size, hY7.block⟩⟩
              case measure => simp [intOf]
            | false =>
              have hnl := of_decide_eq_false hfb.out.symm
              by_cases he : d = 51
              · have hx0e : x0v = 3 := by
                  have h1 := HSD.out
                  rw [he] at h1
                  unfold shownB at h1
                  split at h1 <;> omega
                have HB : Hid (true = decide (x0v < 4)) := Lib.hid (by rw [decide_eq_true (by omega)])
                have hde : ((d : Int) == 51) = true := by rw [beq_iff_eq]; omega
                have hde2 : ((51 : Int) == (d : Int)) = true := by rw [beq_iff_eq]; omega
                clear hx0e he
                go_upto_region 15 with fail
                go_quiet (fail)
                go_wp2
                go_roundw
                case rel => exact ⟨4, _, true, by go_num, by omega, rfl, by first | rfl | exact congrArg Value.bool hde2, HT, HB, y7, ⟨hY7.os, hY7.tape, hY7.output, hY7.size, hY7.block⟩⟩
                case measure => simp [intOf]
              · have hx0e : x0v ≠ 3 := fun e => by
                  have h1 := HSD.out
                  rw [e] at h1
                  exact he (by rw [← h1]; rfl)
                have HB : Hid (false = decide (x0v < 4)) := Lib.hid (by rw [decide_eq_false (by omega)])
                have hde : ((d : Int) == 51) = false := by rw [beq_eq_false_iff_ne]; omega
                have hde2 : ((51 : Int) == (d : Int)) = false := by rw [beq_eq_false_iff_ne]; omega
                clear hx0e he
                go_upto_region 15 with fail
                go_quiet (fail)
                go_wp2
                go_roundw
                case rel => exact ⟨4, _, false, by go_num, by omega, rfl, by first | rfl | exact congrArg Value.bool hde2, HT, HB, y7, ⟨hY7.os, hY7.tape, hY7.output, hY7.size, hY7.block⟩⟩
                case measure => simp [intOf]
        · obtain ⟨fx, hfx⟩ : ∃ fx, F 4 = fx := ⟨_, rfl⟩
          have hsx := HSE.out 4 (by decide)
          rw [hfx, show shownB 4 = 52 from rfl] at hsx
          have HSX := Lib.hid hsx
          have HFX := Lib.hid hfx
          clear hsx hfx
          go_upto_region 13 with fail
          go_region_held3 (fun w' => w'.cell? ⟨w1.heap.size, 0, none⟩ = some (.int .u8 k) ∧ w'.cell? ⟨w1.heap.size, 1, none⟩ = some (.slice q ws.length c)) (go_keep)
            (first
              | (go_at_call 16; refine (put_any S2 i 52 _ (by omega) (by decide) (by omega)).mono ?_; rintro e w6 ⟨S5, rfl, hS5, hb6⟩; have y6 : BlockAt w6 w1.heap.size #[.int .u8 k, .slice q ws.length c] 25 := BlockAt.below (by first | exact x0 | exact x0.drew) hb6; obtain ⟨a0, a1, _, _⟩ := y6.two; have v6 := y6.lt; have hY6 : Below w1.heap.size w1 w6 := (by first | exact below_next hY v0 hb6 | exact below_next2 hY v0 hb6))
              | (go_at_call 17; refine (passes_any k (ints ws) _ S5 _ (HSY.out _ hY6) (by rw [← tx_len S5, hS5, List.length_set, tx_len]; omega)).mono ?_; rintro e w7 ⟨rfl, hb7⟩; rw [hS5, HTx.out, HSX.out]; have y7 : BlockAt w7 w1.heap.size #[.int .u8 k, .slice q ws.length c] 25 := BlockAt.below (by first | exact y6 | exact y6.drew) hb7; obtain ⟨a0, a1, _, _⟩ := y7.two; have v7 := y7.lt; have hY7 : Below w1.heap.size w1 w7 := (by first | exact below_next hY6 v6 hb7 | exact below_next2 hY6 v6 hb7)))
          clear x0 hY y6 hY6 hb6 hb7 p0 p1 v0 v6 a0 a1 hS5
          cases fx with
          | false =>
            have hne : x0v ≠ 4 := fun e => by have h1 := HFd.out; rw [e, HFX.out] at h1; cases h1
            have HT : Hid (tx Sw = ((List.range 5).filter F).map shownB) := Lib.hid (by rw [show 5 = 4 + 1 from rfl, range_filter_succ F 4, HFX.out, if_neg (by decide), List.append_nil]; exact hSw.out)
            have HB : Hid (fb = decide (x0v < 5)) := Lib.hid (by rw [hfb.out]; exact decide_eq_decide.2 (by omega))
            go_wp2
            go_roundw
            case rel => exact ⟨5, Sw, fb, by go_num, by omega, rfl, rfl, HT, HB, y7, hY7⟩
            case measure => simp [intOf]
          | true =>
            have HT : Hid (tx (Sw ++ ⟨#[52]⟩) = ((List.range 5).filter F).map shownB) := Lib.hid (by rw [tx_append, hSw.out, show 5 = 4 + 1 from rfl, range_filter_succ F 4, HFX.out, if_pos rfl, List.map_append]; rfl)
            cases fb with
            | true =>
              have HB : Hid (true = decide (x0v < 5)) := Lib.hid (by have := of_decide_eq_true hfb.out.symm; rw [decide_eq_true (by omega)])
              go_upto_region 15 with fail
              go_quiet (fail)
              go_wp2
              go_roundw
              case rel => exact ⟨5, _, true, by go_num, by omega, rfl, by first | rfl | exact congrArg Value.bool hde2, HT, HB, y7, ⟨hY7.os, hY7.tape, hY7.output, hY7.size, hY7.block⟩⟩
              case measure => simp [intOf]
            | false =>
              have hnl := of_decide_eq_false hfb.out.symm
              by_cases he : d = 52
              · have hx0e : x0v = 4 := by
                  have h1 := HSD.out
                  rw [he] at h1
                  unfold shownB at h1
                  split at h1 <;> omega
                have HB : Hid (true = decide (x0v < 5)) := Lib.hid (by rw [decide_eq_true (by omega)])
                have hde : ((d : Int) == 52) = true := by rw [beq_iff_eq]; omega
                have hde2 : ((52 : Int) == (d : Int)) = true := by rw [beq_iff_eq]; omega
                clear hx0e he
                go_upto_region 15 with fail
                go_quiet (fail)
                go_wp2
                go_roundw
                case rel => exact ⟨5, _, true, by go_num, by omega, rfl, by first | rfl | exact congrArg Value.bool hde2, HT, HB, y7, ⟨hY7.os, hY7.tape, hY7.output, hY7.size, hY7.block⟩⟩
                case measure => simp [intOf]
              · have hx0e : x0v ≠ 4 := fun e => by
                  have h1 := HSD.out
                  rw [e] at h1
                  exact he (by rw [← h1]; rfl)
                have HB : Hid (false = decide (x0v < 5)) := Lib.hid (by rw [decide_eq_false (by omega)])
                have hde : ((d : Int) == 52) = false := by rw [beq_eq_false_iff_ne]; omega
                have hde2 : ((52 : Int) == (d : Int)) = false := by rw [beq_eq_false_iff_ne]; omega
                clear hx0e he
                go_upto_region 15 with fail
                go_quiet (fail)
                go_wp2
                go_roundw
                case rel => exact ⟨5, _, false, by go_num, by omega, rfl, by first | rfl | exact congrArg Value.bool hde2, HT, HB, y7, ⟨hY7.os, hY7.tape, hY7.output, hY7.size, hY7.block⟩⟩
                case measure => simp [intOf]
        · obtain ⟨fx, hfx⟩ : ∃ fx, F 5 = fx := ⟨_, rfl⟩
          have hsx := HSE.out 5 (by decide)
          rw [hfx, show shownB 5 = 53 from rfl] at hsx
          have HSX := Lib.hid hsx
          have HFX := Lib.hid hfx
          clear hsx hfx
          go_upto_region 13 with fail
          go_region_held3 (fun w' => w'.cell? ⟨w1.heap.size, 0, none⟩ = some (.int .u8 k) ∧ w'.cell? ⟨w1.heap.size, 1, none⟩ = some (.slice q ws.length c)) (go_keep)
            (first
              | (go_at_call 16; refine (put_any S2 i 53 _ (by omega) (by decide) (by omega)).mono ?_; rintro e w6 ⟨S5, rfl, hS5, hb6⟩; have y6 : BlockAt w6 w1.heap.size #[.int .u8 k, .slice q ws.length c] 25 := BlockAt.below (by first | exact x0 | exact x0.drew) hb6; obtain ⟨a0, a1, _, _⟩ := y6.two; have v6 := y6.lt; have hY6 : Below w1.heap.size w1 w6 := (by first | exact below_next hY v0 hb6 | exact below_next2 hY v0 hb6))
              | (go_at_call 17; refine (passes_any k (ints ws) _ S5 _ (HSY.out _ hY6) (by rw [← tx_len S5, hS5, List.length_set, tx_len]; omega)).mono ?_; rintro e w7 ⟨rfl, hb7⟩; rw [hS5, HTx.out, HSX.out]; have y7 : BlockAt w7 w1.heap.size #[.int .u8 k, .slice q ws.length c] 25 := BlockAt.below (by first | exact y6 | exact y6.drew) hb7; obtain ⟨a0, a1, _, _⟩ := y7.two; have v7 := y7.lt; have hY7 : Below w1.heap.size w1 w7 := (by first | exact below_next hY6 v6 hb7 | exact below_next2 hY6 v6 hb7)))
          clear x0 hY y6 hY6 hb6 hb7 p0 p1 v0 v6 a0 a1 hS5
          cases fx with
          | false =>
            have hne : x0v ≠ 5 := fun e => by have h1 := HFd.out; rw [e, HFX.out] at h1; cases h1
            have HT : Hid (tx Sw = ((List.range 6).filter F).map shownB) := Lib.hid (by rw [show 6 = 5 + 1 from rfl, range_filter_succ F 5, HFX.out, if_neg (by decide), List.append_nil]; exact hSw.out)
            have HB : Hid (fb = decide (x0v < 6)) := Lib.hid (by rw [hfb.out]; exact decide_eq_decide.2 (by omega))
            go_wp2
            go_roundw
            case rel => exact ⟨6, Sw, fb, by go_num, by omega, rfl, rfl, HT, HB, y7, hY7⟩
            case measure => simp [intOf]
          | true =>
            have HT : Hid (tx (Sw ++ ⟨#[53]⟩) = ((List.range 6).filter F).map shownB) := Lib.hid (by rw [tx_append, hSw.out, show 6 = 5 + 1 from rfl, range_filter_succ F 5, HFX.out, if_pos rfl, List.map_append]; rfl)
            cases fb with
            | true =>
              have HB : Hid (true = decide (x0v < 6)) := Lib.hid (by have := of_decide_eq_true hfb.out.symm; rw [decide_eq_true (by omega)])
              go_upto_region 15 with fail
              go_quiet (fail)
              go_wp2
              go_roundw
              case rel => exact ⟨6, _, true, by go_num, by omega, rfl, by first | rfl | exact congrArg Value.bool hde2, HT, HB, y7, ⟨hY7.os, hY7.tape, hY7.output, hY7.size, hY7.block⟩⟩
              case measure => simp [intOf]
            | false =>
              have hnl := of_decide_eq_false hfb.out.symm
              by_cases he : d = 53
              · have hx0e : x0v = 5 := by
                  have h1 := HSD.out
                  rw [he] at h1
                  unfold shownB at h1
                  split at h1 <;> omega
                have HB : Hid (true = decide (x0v < 6)) := Lib.hid (by rw [decide_eq_true (by omega)])
                have hde : ((d : Int) == 53) = true := by rw [beq_iff_eq]; omega
                have hde2 : ((53 : Int) == (d : Int)) = true := by rw [beq_iff_eq]; omega
                clear hx0e he
                go_upto_region 15 with fail
                go_quiet (fail)
                go_wp2
                go_roundw
                case rel => exact ⟨6, _, true, by go_num, by omega, rfl, by first | rfl | exact congrArg Value.bool hde2, HT, HB, y7, ⟨hY7.os, hY7.tape, hY7.output, hY7.size, hY7.block⟩⟩
                case measure => simp [intOf]
              · have hx0e : x0v ≠ 5 := fun e => by
                  have h1 := HSD.out
                  rw [e] at h1
                  exact he (by rw [← h1]; rfl)
                have HB : Hid (false = decide (x0v < 6)) := Lib.hid (by rw [decide_eq_false (by omega)])
                have hde : ((d : Int) == 53) = false := by rw [beq_eq_false_iff_ne]; omega
                have hde2 : ((53 : Int) == (d : Int)) = false := by rw [beq_eq_false_iff_ne]; omega
                clear hx0e he
                go_upto_region 15 with fail
                go_quiet (fail)
                go_wp2
                go_roundw
                case rel => exact ⟨6, _, false, by go_num, by omega, rfl, by first | rfl | exact congrArg Value.bool hde2, HT, HB, y7, ⟨hY7.os, hY7.tape, hY7.output, hY7.size, hY7.block⟩⟩
                case measure => simp [intOf]
        · obtain ⟨fx, hfx⟩ : ∃ fx, F 6 = fx := ⟨_, rfl⟩
          have hsx := HSE.out 6 (by decide)
          rw [hfx, show shownB 6 = 54 from rfl] at hsx
          have HSX := Lib.hid hsx
          have HFX := Lib.hid hfx
          clear hsx hfx
          go_upto_region 13 with fail
          go_region_held3 (fun w' => w'.cell? ⟨w1.heap.size, 0, none⟩ = some (.int .u8 k) ∧ w'.cell? ⟨w1.heap.size, 1, none⟩ = some (.slice q ws.length c)) (go_keep)
            (first
              | (go_at_call 16; refine (put_any S2 i 54 _ (by omega) (by decide) (by omega)).mono ?_; rintro e w6 ⟨S5, rfl, hS5, hb6⟩; have y6 : BlockAt w6 w1.heap.size #[.int .u8 k, .slice q ws.length c] 25 := BlockAt.below (by first | exact x0 | exact x0.drew) hb6; obtain ⟨a0, a1, _, _⟩ := y6.two; have v6 := y6.lt; have hY6 : Below w1.heap.size w1 w6 := (by first | exact below_next hY v0 hb6 | exact below_next2 hY v0 hb6))
              | (go_at_call 17; refine (passes_any k (ints ws) _ S5 _ (HSY.out _ hY6) (by rw [← tx_len S5, hS5, List.length_set, tx_len]; omega)).mono ?_; rintro e w7 ⟨rfl, hb7⟩; rw [hS5, HTx.out, HSX.out]; have y7 : BlockAt w7 w1.heap.size #[.int .u8 k, .slice q ws.length c] 25 := BlockAt.below (by first | exact y6 | exact y6.drew) hb7; obtain ⟨a0, a1, _, _⟩ := y7.two; have v7 := y7.lt; have hY7 : Below w1.heap.size w1 w7 := (by first | exact below_next hY6 v6 hb7 | exact below_next2 hY6 v6 hb7)))
          clear x0 hY y6 hY6 hb6 hb7 p0 p1 v0 v6 a0 a1 hS5
          cases fx with
          | false =>
            have hne : x0v ≠ 6 := fun e => by have h1 := HFd.out; rw [e, HFX.out] at h1; cases h1
            have HT : Hid (tx Sw = ((List.range 7).filter F).map shownB) := Lib.hid (by rw [show 7 = 6 + 1 from rfl, range_filter_succ F 6, HFX.out, if_neg (by decide), List.append_nil]; exact hSw.out)
            have HB : Hid (fb = decide (x0v < 7)) := Lib.hid (by rw [hfb.out]; exact decide_eq_decide.2 (by omega))
            go_wp2
            go_roundw
            case rel => exact ⟨7, Sw, fb, by go_num, by omega, rfl, rfl, HT, HB, y7, hY7⟩
            case measure => simp [intOf]
          | true =>
            have HT : Hid (tx (Sw ++ ⟨#[54]⟩) = ((List.range 7).filter F).map shownB) := Lib.hid (by rw [tx_append, hSw.out, show 7 = 6 + 1 from rfl, range_filter_succ F 6, HFX.out, if_pos rfl, List.map_append]; rfl)
            cases fb with
            | true =>
              have HB : Hid (true = decide (x0v < 7)) := Lib.hid (by have := of_decide_eq_true hfb.out.symm; rw [decide_eq_true (by omega)])
              go_upto_region 15 with fail
              go_quiet (fail)
              go_wp2
              go_roundw
              case rel => exact ⟨7, _, true, by go_num, by omega, rfl, by first | rfl | exact congrArg Value.bool hde2, HT, HB, y7, ⟨hY7.os, hY7.tape, hY7.output, hY7.size, hY7.block⟩⟩
              case measure => simp [intOf]
            | false =>
              have hnl := of_decide_eq_false hfb.out.symm
              by_cases he : d = 54
              · have hx0e : x0v = 6 := by
                  have h1 := HSD.out
                  rw [he] at h1
                  unfold shownB at h1
                  split at h1 <;> omega
                have HB : Hid (true = decide (x0v < 7)) := Lib.hid (by rw [decide_eq_true (by omega)])
                have hde : ((d : Int) == 54) = true := by rw [beq_iff_eq]; omega
                have hde2 : ((54 : Int) == (d : Int)) = true := by rw [beq_iff_eq]; omega
                clear hx0e he
                go_upto_region 15 with fail
                go_quiet (fail)
                go_wp2
                go_roundw
                case rel => exact ⟨7, _, true, by go_num, by omega, rfl, by first | rfl | exact congrArg Value.bool hde2, HT, HB, y7, ⟨hY7.os, hY7.tape, hY7.output, hY7.size, hY7.block⟩⟩
                case measure => simp [intOf]
              · have hx0e : x0v ≠ 6 := fun e => by
                  have h1 := HSD.out
                  rw [e] at h1
                  exact he (by rw [← h1]; rfl)
                have HB : Hid (false = decide (x0v < 7)) := Lib.hid (by rw [decide_eq_false (by omega)])
                have hde : ((d : Int) == 54) = false := by rw [beq_eq_false_iff_ne]; omega
                have hde2 : ((54 : Int) == (d : Int)) = false := by rw [beq_eq_false_iff_ne]; omega
                clear hx0e he
                go_upto_region 15 with fail
                go_quiet (fail)
                go_wp2
                go_roundw
                case rel => exact ⟨7, _, false, by go_num, by omega, rfl, by first | rfl | exact congrArg Value.bool hde2, HT, HB, y7, ⟨hY7.os, hY7.tape, hY7.output, hY7.size, hY7.block⟩⟩
                case measure => simp [intOf]
        · obtain ⟨fx, hfx⟩ : ∃ fx, F 7 = fx := ⟨_, rfl⟩
          have hsx := HSE.out 7 (by decide)
          rw [hfx, show shownB 7 = 55 from rfl] at hsx
          have HSX := Lib.hid hsx
          have HFX := Lib.hid hfx
          clear hsx hfx
          go_upto_region 13 with fail
          go_region_held3 (fun w' => w'.cell? ⟨w1.heap.size, 0, none⟩ = some (.int .u8 k) ∧ w'.cell? ⟨w1.heap.size, 1, none⟩ = some (.slice q ws.length c)) (go_keep)
            (first
              | (go_at_call 16; refine (put_any S2 i 55 _ (by omega) (by decide) (by omega)).mono ?_; rintro e w6 ⟨S5, rfl, hS5, hb6⟩; have y6 : BlockAt w6 w1.heap.size #[.int .u8 k, .slice q ws.length c] 25 := BlockAt.below (by first | exact x0 | exact x0.drew) hb6; obtain ⟨a0, a1, _, _⟩ := y6.two; have v6 := y6.lt; have hY6 : Below w1.heap.size w1 w6 := (by first | exact below_next hY v0 hb6 | exact below_next2 hY v0 hb6))
              | (go_at_call 17; refine (passes_any k (ints ws) _ S5 _ (HSY.out _ hY6) (by rw [← tx_len S5, hS5, List.length_set, tx_len]; omega)).mono ?_; rintro e w7 ⟨rfl, hb7⟩; rw [hS5, HTx.out, HSX.out]; have y7 : BlockAt w7 w1.heap.size #[.int .u8 k, .slice q ws.length c] 25 := BlockAt.below (by first | exact y6 | exact y6.drew) hb7; obtain ⟨a0, a1, _, _⟩ := y7.two; have v7 := y7.lt; have hY7 : Below w1.heap.size w1 w7 := (by first | exact below_next hY6 v6 hb7 | exact below_next2 hY6 v6 hb7)))
          clear x0 hY y6 hY6 hb6 hb7 p0 p1 v0 v6 a0 a1 hS5
          cases fx with
          | false =>
            have hne : x0v ≠ 7 := fun e => by have h1 := HFd.out; rw [e, HFX.out] at h1; cases h1
            have HT : Hid (tx Sw = ((List.range 8).filter F).map shownB) := Lib.hid (by rw [show 8 = 7 + 1 from rfl, range_filter_succ F 7, HFX.out, if_neg (by decide), List.append_nil]; exact hSw.out)
            have HB : Hid (fb = decide (x0v < 8)) := Lib.hid (by rw [hfb.out]; exact decide_eq_decide.2 (by omega))
            go_wp2
            go_roundw
            case rel => exact ⟨8, Sw, fb, by go_num, by omega, rfl, rfl, HT, HB, y7, hY7⟩
            case measure => simp [intOf]
          | true =>
            have HT : Hid (tx (Sw ++ ⟨#[55]⟩) = ((List.range 8).filter F).map shownB) := Lib.hid (by rw [tx_append, hSw.out, show 8 = 7 + 1 from rfl, range_filter_succ F 7, HFX.out, if_pos rfl, List.map_append]; rfl)
            cases fb with
            | true =>
              have HB : Hid (true = decide (x0v < 8)) := Lib.hid (by have := of_decide_eq_true hfb.out.symm; rw [decide_eq_true (by omega)])
              go_upto_region 15 with fail
              go_quiet (fail)
              go_wp2
              go_roundw
              case rel => exact ⟨8, _, true, by go_num, by omega, rfl, by first | rfl | exact congrArg Value.bool hde2, HT, HB, y7, ⟨hY7.os, hY7.tape, hY7.output, hY7.size, hY7.block⟩⟩
              case measure => simp [intOf]
            | false =>
              have hnl := of_decide_eq_false hfb.out.symm
              by_cases he : d = 55
              · have hx0e : x0v = 7 := by
                  have h1 := HSD.out
                  rw [he] at h1
                  unfold shownB at h1
                  split at h1 <;> omega
                have HB : Hid (true = decide (x0v < 8)) := Lib.hid (by rw [decide_eq_true (by omega)])
                have hde : ((d : Int) == 55) = true := by rw [beq_iff_eq]; omega
                have hde2 : ((55 : Int) == (d : Int)) = true := by rw [beq_iff_eq]; omega
                clear hx0e he
                go_upto_region 15 with fail
                go_quiet (fail)
                go_wp2
                go_roundw
                case rel => exact ⟨8, _, true, by go_num, by omega, rfl, by first | rfl | exact congrArg Value.bool hde2, HT, HB, y7, ⟨hY7.os, hY7.tape, hY7.output, hY7.size, hY7.block⟩⟩
                case measure => simp [intOf]
              · have hx0e : x0v ≠ 7 := fun e => by
                  have h1 := HSD.out
                  rw [e] at h1
                  exact he (by rw [← h1]; rfl)
                have HB : Hid (false = decide (x0v < 8)) := Lib.hid (by rw [decide_eq_false (by omega)])
                have hde : ((d : Int) == 55) = false := by rw [beq_eq_false_iff_ne]; omega
                have hde2 : ((55 : Int) == (d : Int)) = false := by rw [beq_eq_false_iff_ne]; omega
                clear hx0e he
                go_upto_region 15 with fail
                go_quiet (fail)
                go_wp2
                go_roundw
                case rel => exact ⟨8, _, false, by go_num, by omega, rfl, by first | rfl | exact congrArg Value.bool hde2, HT, HB, y7, ⟨hY7.os, hY7.tape, hY7.output, hY7.size, hY7.block⟩⟩
                case measure => simp [intOf]
        · obtain ⟨fx, hfx⟩ : ∃ fx, F 8 = fx := ⟨_, rfl⟩
          have hsx := HSE.out 8 (by decide)
          rw [hfx, show shownB 8 = 56 from rfl] at hsx
          have HSX := Lib.hid hsx
          have HFX := Lib.hid hfx
          clear hsx hfx
          go_upto_region 13 with fail
          go_region_held3 (fun w' => w'.cell? ⟨w1.heap.size, 0, none⟩ = some (.int .u8 k) ∧ w'.cell? ⟨w1.heap.size, 1, none⟩ = some (.slice q ws.length c)) (go_keep)
            (first
              | (go_at_call 16; refine (put_any S2 i 56 _ (by omega) (by decide) (by omega)).mono ?_; rintro e w6 ⟨S5, rfl, hS5, hb6⟩; have y6 : BlockAt w6 w1.heap.size #[.int .u8 k, .slice q ws.length c] 25 := BlockAt.below (by first | exact x0 | exact x0.drew) hb6; obtain ⟨a0, a1, _, _⟩ := y6.two; have v6 := y6.lt; have hY6 : Below w1.heap.size w1 w6 := (by first | exact below_next hY v0 hb6 | exact below_next2 hY v0 hb6))
              | (go_at_call 17; refine (passes_any k (ints ws) _ S5 _ (HSY.out _ hY6) (by rw [← tx_len S5, hS5, List.length_set, tx_len]; omega)).mono ?_; rintro e w7 ⟨rfl, hb7⟩; rw [hS5, HTx.out, HSX.out]; have y7 : BlockAt w7 w1.heap.size #[.int .u8 k, .slice q ws.length c] 25 := BlockAt.below (by first | exact y6 | exact y6.drew) hb7; obtain ⟨a0, a1, _, _⟩ := y7.two; have v7 := y7.lt; have hY7 : Below w1.heap.size w1 w7 := (by first | exact below_next hY6 v6 hb7 | exact below_next2 hY6 v6 hb7)))
          clear x0 hY y6 hY6 hb6 hb7 p0 p1 v0 v6 a0 a1 hS5
          cases fx with
          | false =>
            have hne : x0v ≠ 8 := fun e => by have h1 := HFd.out; rw [e, HFX.out] at h1; cases h1
            have HT : Hid (tx Sw = ((List.range 9).filter F).map shownB) := Lib.hid (by rw [show 9 = 8 + 1 from rfl, range_filter_succ F 8, HFX.out, if_neg (by decide), List.append_nil]; exact hSw.out)
            have HB : Hid (fb = decide (x0v < 9)) := Lib.hid (by rw [hfb.out]; exact decide_eq_decide.2 (by omega))
            go_wp2
            go_roundw
            case rel => exact ⟨9, Sw, fb, by go_num, by omega, rfl, rfl, HT, HB, y7, hY7⟩
            case measure => simp [intOf]
          | true =>
            have HT : Hid (tx (Sw ++ ⟨#[56]⟩) = ((List.range 9).filter F).map shownB) := Lib.hid (by rw [tx_append, hSw.out, show 9 = 8 + 1 from rfl, range_filter_succ F 8, HFX.out, if_pos rfl, List.map_append]; rfl)
            cases fb with
            | true =>
              have HB : Hid (true = decide (x0v < 9)) := Lib.hid (by have := of_decide_eq_true hfb.out.symm; rw [decide_eq_true (by omega)])
              go_upto_region 15 with fail
              go_quiet (fail)
              go_wp2
              go_roundw
              case rel => exact ⟨9, _, true, by go_num, by omega, rfl, by first | rfl | exact congrArg Value.bool hde2, HT, HB, y7, ⟨hY7.os, hY7.tape, hY7.output, hY7.size, hY7.block⟩⟩
              case measure => simp [intOf]
            | false =>
              have hnl := of_decide_eq_false hfb.out.symm
              by_cases he : d = 56
              · have hx0e : x0v = 8 := by
                  have h1 := HSD.out
                  rw [he] at h1
                  unfold shownB at h1
                  split at h1 <;> omega
                have HB : Hid (true = decide (x0v < 9)) := Lib.hid (by rw [decide_eq_true (by omega)])
                have hde : ((d : Int) == 56) = true := by rw [beq_iff_eq]; omega
                have hde2 : ((56 : Int) == (d : Int)) = true := by rw [beq_iff_eq]; omega
                clear hx0e he
                go_upto_region 15 with fail
                go_quiet (fail)
                go_wp2
                go_roundw
                case rel => exact ⟨9, _, true, by go_num, by omega, rfl, by first | rfl | exact congrArg Value.bool hde2, HT, HB, y7, ⟨hY7.os, hY7.tape, hY7.output, hY7.size, hY7.block⟩⟩
                case measure => simp [intOf]
              · have hx0e : x0v ≠ 8 := fun e => by
                  have h1 := HSD.out
                  rw [e] at h1
                  exact he (by rw [← h1]; rfl)
                have HB : Hid (false = decide (x0v < 9)) := Lib.hid (by rw [decide_eq_false (by omega)])
                have hde : ((d : Int) == 56) = false := by rw [beq_eq_false_iff_ne]; omega
                have hde2 : ((56 : Int) == (d : Int)) = false := by rw [beq_eq_false_iff_ne]; omega
                clear hx0e he
                go_upto_region 15 with fail
                go_quiet (fail)
                go_wp2
                go_roundw
                case rel => exact ⟨9, _, false, by go_num, by omega, rfl, by first | rfl | exact congrArg Value.bool hde2, HT, HB, y7, ⟨hY7.os, hY7.tape, hY7.output, hY7.size, hY7.block⟩⟩
                case measure => simp [intOf]
        · obtain ⟨fx, hfx⟩ : ∃ fx, F 9 = fx := ⟨_, rfl⟩
          have hsx := HSE.out 9 (by decide)
          rw [hfx, show shownB 9 = 57 from rfl] at hsx
          have HSX := Lib.hid hsx
          have HFX := Lib.hid hfx
          clear hsx hfx
          go_upto_region 13 with fail
          go_region_held3 (fun w' => w'.cell? ⟨w1.heap.size, 0, none⟩ = some (.int .u8 k) ∧ w'.cell? ⟨w1.heap.size, 1, none⟩ = some (.slice q ws.length c)) (go_keep)
            (first
              | (go_at_call 16; refine (put_any S2 i 57 _ (by omega) (by decide) (by omega)).mono ?_; rintro e w6 ⟨S5, rfl, hS5, hb6⟩; have y6 : BlockAt w6 w1.heap.size #[.int .u8 k, .slice q ws.length c] 25 := BlockAt.below (by first | exact x0 | exact x0.drew) hb6; obtain ⟨a0, a1, _, _⟩ := y6.two; have v6 := y6.lt; have hY6 : Below w1.heap.size w1 w6 := (by first | exact below_next hY v0 hb6 | exact below_next2 hY v0 hb6))
              | (go_at_call 17; refine (passes_any k (ints ws) _ S5 _ (HSY.out _ hY6) (by rw [← tx_len S5, hS5, List.length_set, tx_len]; omega)).mono ?_; rintro e w7 ⟨rfl, hb7⟩; rw [hS5, HTx.out, HSX.out]; have y7 : BlockAt w7 w1.heap.size #[.int .u8 k, .slice q ws.length c] 25 := BlockAt.below (by first | exact y6 | exact y6.drew) hb7; obtain ⟨a0, a1, _, _⟩ := y7.two; have v7 := y7.lt; have hY7 : Below w1.heap.size w1 w7 := (by first | exact below_next hY6 v6 hb7 | exact below_next2 hY6 v6 hb7)))
          clear x0 hY y6 hY6 hb6 hb7 p0 p1 v0 v6 a0 a1 hS5
          cases fx with
          | false =>
            have hne : x0v ≠ 9 := fun e => by have h1 := HFd.out; rw [e, HFX.out] at h1; cases h1
            have HT : Hid (tx Sw = ((List.range 10).filter F).map shownB) := Lib.hid (by rw [show 10 = 9 + 1 from rfl, range_filter_succ F 9, HFX.out, if_neg (by decide), List.append_nil]; exact hSw.out)
            have HB : Hid (fb = decide (x0v < 10)) := Lib.hid (by rw [hfb.out]; exact decide_eq_decide.2 (by omega))
            go_wp2
            go_roundw
            case rel => exact ⟨10, Sw, fb, by go_num, by omega, rfl, rfl, HT, HB, y7, hY7⟩
            case measure => simp [intOf]
          | true =>
            have HT : Hid (tx (Sw ++ ⟨#[57]⟩) = ((List.range 10).filter F).map shownB) := Lib.hid (by rw [tx_append, hSw.out, show 10 = 9 + 1 from rfl, range_filter_succ F 9, HFX.out, if_pos rfl, List.map_append]; rfl)
            cases fb with
            | true =>
              have HB : Hid (true = decide (x0v < 10)) := Lib.hid (by have := of_decide_eq_true hfb.out.symm; rw [decide_eq_true (by omega)])
              go_upto_region 15 with fail
              go_quiet (fail)
              go_wp2
              go_roundw
              case rel => exact ⟨10, _, true, by go_num, by omega, rfl, by first | rfl | exact congrArg Value.bool hde2, HT, HB, y7, ⟨hY7.os, hY7.tape, hY7.output, hY7.size, hY7.block⟩⟩
              case measure => simp [intOf]
            | false =>
              have hnl := of_decide_eq_false hfb.out.symm
              by_cases he : d = 57
              · have hx0e : x0v = 9 := by
                  have h1 := HSD.out
                  rw [he] at h1
                  unfold shownB at h1
                  split at h1 <;> omega
                have HB : Hid (true = decide (x0v < 10)) := Lib.hid (by rw [decide_eq_true (by omega)])
                have hde : ((d : Int) == 57) = true := by rw [beq_iff_eq]; omega
                have hde2 : ((57 : Int) == (d : Int)) = true := by rw [beq_iff_eq]; omega
                clear hx0e he
                go_upto_region 15 with fail
                go_quiet (fail)
                go_wp2
                go_roundw
                case rel => exact ⟨10, _, true, by go_num, by omega, rfl, by first | rfl | exact congrArg Value.bool hde2, HT, HB, y7, ⟨hY7.os, hY7.tape, hY7.output, hY7.size, hY7.block⟩⟩
                case measure => simp [intOf]
              · have hx0e : x0v ≠ 9 := fun e => by
                  have h1 := HSD.out
                  rw [e] at h1
                  exact he (by rw [← h1]; rfl)
                have HB : Hid (false = decide (x0v < 10)) := Lib.hid (by rw [decide_eq_false (by omega)])
                have hde : ((d : Int) == 57) = false := by rw [beq_eq_false_iff_ne]; omega
                have hde2 : ((57 : Int) == (d : Int)) = false := by rw [beq_eq_false_iff_ne]; omega
                clear hx0e he
                go_upto_region 15 with fail
                go_quiet (fail)
                go_wp2
                go_roundw
                case rel => exact ⟨10, _, false, by go_num, by omega, rfl, by first | rfl | exact congrArg Value.bool hde2, HT, HB, y7, ⟨hY7.os, hY7.tape, hY7.output, hY7.size, hY7.block⟩⟩
                case measure => simp [intOf]
        · obtain ⟨fx, hfx⟩ : ∃ fx, F 10 = fx := ⟨_, rfl⟩
          have hsx := HSE.out 10 (by decide)
          rw [hfx, show shownB 10 = 88 from rfl] at hsx
          have HSX := Lib.hid hsx
          have HFX := Lib.hid hfx
          clear hsx hfx
          go_upto_region 13 with fail
          go_region_held3 (fun w' => w'.cell? ⟨w1.heap.size, 0, none⟩ = some (.int .u8 k) ∧ w'.cell? ⟨w1.heap.size, 1, none⟩ = some (.slice q ws.length c)) (go_keep)
            (first
              | (go_at_call 16; refine (put_any S2 i 88 _ (by omega) (by decide) (by omega)).mono ?_; rintro e w6 ⟨S5, rfl, hS5, hb6⟩; have y6 : BlockAt w6 w1.heap.size #[.int .u8 k, .slice q ws.length c] 25 := BlockAt.below (by first | exact x0 | exact x0.drew) hb6; obtain ⟨a0, a1, _, _⟩ := y6.two; have v6 := y6.lt; have hY6 : Below w1.heap.size w1 w6 := (by first | exact below_next hY v0 hb6 | exact below_next2 hY v0 hb6))
              | (go_at_call 17; refine (passes_any k (ints ws) _ S5 _ (HSY.out _ hY6) (by rw [← tx_len S5, hS5, List.length_set, tx_len]; omega)).mono ?_; rintro e w7 ⟨rfl, hb7⟩; rw [hS5, HTx.out, HSX.out]; have y7 : BlockAt w7 w1.heap.size #[.int .u8 k, .slice q ws.length c] 25 := BlockAt.below (by first | exact y6 | exact y6.drew) hb7; obtain ⟨a0, a1, _, _⟩ := y7.two; have v7 := y7.lt; have hY7 : Below w1.heap.size w1 w7 := (by first | exact below_next hY6 v6 hb7 | exact below_next2 hY6 v6 hb7)))
          clear x0 hY y6 hY6 hb6 hb7 p0 p1 v0 v6 a0 a1 hS5
          cases fx with
          | false =>
            have hne : x0v ≠ 10 := fun e => by have h1 := HFd.out; rw [e, HFX.out] at h1; cases h1
            have HT : Hid (tx Sw = ((List.range 11).filter F).map shownB) := Lib.hid (by rw [show 11 = 10 + 1 from rfl, range_filter_succ F 10, HFX.out, if_neg (by decide), List.append_nil]; exact hSw.out)
            have HB : Hid (fb = decide (x0v < 11)) := Lib.hid (by rw [hfb.out]; exact decide_eq_decide.2 (by omega))
            go_wp2
            go_roundw
            case rel => exact ⟨11, Sw, fb, by go_num, by omega, rfl, rfl, HT, HB, y7, hY7⟩
            case measure => simp [intOf]
          | true =>
            have HT : Hid (tx (Sw ++ ⟨#[88]⟩) = ((List.range 11).filter F).map shownB) := Lib.hid (by rw [tx_append, hSw.out, show 11 = 10 + 1 from rfl, range_filter_succ F 10, HFX.out, if_pos rfl, List.map_append]; rfl)
            cases fb with
            | true =>
              have HB : Hid (true = decide (x0v < 11)) := Lib.hid (by have := of_decide_eq_true hfb.out.symm; rw [decide_eq_true (by omega)])
              go_upto_region 15 with fail
              go_quiet (fail)
              go_wp2
              go_roundw
              case rel => exact ⟨11, _, true, by go_num, by omega, rfl, by first | rfl | exact congrArg Value.bool hde2, HT, HB, y7, ⟨hY7.os, hY7.tape, hY7.output, hY7.size, hY7.block⟩⟩
              case measure => simp [intOf]
            | false =>
              have hnl := of_decide_eq_false hfb.out.symm
              by_cases he : d = 88
              · have hx0e : x0v = 10 := by
                  have h1 := HSD.out
                  rw [he] at h1
                  unfold shownB at h1
                  split at h1 <;> omega
                have HB : Hid (true = decide (x0v < 11)) := Lib.hid (by rw [decide_eq_true (by omega)])
                have hde : ((d : Int) == 88) = true := by rw [beq_iff_eq]; omega
                have hde2 : ((88 : Int) == (d : Int)) = true := by rw [beq_iff_eq]; omega
                clear hx0e he
                go_upto_region 15 with fail
                go_quiet (fail)
                go_wp2
                go_roundw
                case rel => exact ⟨11, _, true, by go_num, by omega, rfl, by first | rfl | exact congrArg Value.bool hde2, HT, HB, y7, ⟨hY7.os, hY7.tape, hY7.output, hY7.size, hY7.block⟩⟩
                case measure => simp [intOf]
              · have hx0e : x0v ≠ 10 := fun e => by
                  have h1 := HSD.out
                  rw [e] at h1
                  exact he (by rw [← h1]; rfl)
                have HB : Hid (false = decide (x0v < 11)) := Lib.hid (by rw [decide_eq_false (by omega)])
                have hde : ((d : Int) == 88) = false := by rw [beq_eq_false_iff_ne]; omega
                have hde2 : ((88 : Int) == (d : Int)) = false := by rw [beq_eq_false_iff_ne]; omega
                clear hx0e he
                go_upto_region 15 with fail
                go_quiet (fail)
                go_wp2
                go_roundw
                case rel => exact ⟨11, _, false, by go_num, by omega, rfl, by first | rfl | exact congrArg Value.bool hde2, HT, HB, y7, ⟨hY7.os, hY7.tape, hY7.output, hY7.size, hY7.block⟩⟩
                case measure => simp [intOf]
        · have hfbt : fb = true := by rw [hfb.out]; exact decide_eq_true h11
          subst hfbt
          have hSS : S4 = Sw := tx_inj (by rw [HS4.out, hSw.out])
          subst hSS
          clear hfb
          by_cases hk1 : k = 1
          · have hk1i : (k : Int) = 1 := by omega
            go_wp2
            go_roundw
            case rel => exact ⟨i + 1, by go_num, by omega, x0, hY⟩
            case measure => simp [intOf] <;> omega
          · have hk1i : ((k : Int) == 1) = false := by rw [beq_eq_false_iff_ne]; omega
            have hone : S4.size = 1 := by rw [← tx_len S4, hSw.out, HON.out hk1]; rfl
            have hk1n : ¬ (k : Int) = 1 := by omega
            clear hk1
            go_wp2
            go_roundw
            case rel => exact ⟨i + 1, by go_num, by omega, x0, hY⟩
            case measure => simp [intOf] <;> omega
    · have hlti : ¬ (i : Int) < (n : Int) := by omega
      go_wp2_with fail
      refine (dawake_any _ ((HT.out.below (Nat.le_refl _) hb1).below (Nat.le_refl _) hY)).mono ?_
      rintro e w9 ⟨rfl, hb9⟩
      go_wp2
      go_ret
      exact ⟨rfl, (hb1.trans (hY.mono hw1)).trans (hb9.mono (by have := hY.size; omega))⟩
end Go.Proofs.YtnmnfbibjghjhaaDoor
