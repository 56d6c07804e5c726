/-
  The walk of DigitWeights, with eleven false.
-/
import Derived.Test.YtnmnfbibjghjhaaDoorDwd
namespace Go.Proofs.YtnmnfbibjghjhaaDoor
open Go.RowKit Dig

set_option maxRecDepth 100000 in
set_option maxHeartbeats 16000000 in
theorem digitweights_false (wl pl : List Nat) (wv pv : Value) (w : World) (hw : ByteSrc w wv wl) (hp : ByteSrc w pv pl) (ht : Tabs w) :
    Calls Tryd.prog 10 #[.bool false, wv, pv] w fun e w' => e = .returned (.bool true) ∧ Below w.heap.size w w' := by
  have HW := Lib.hid hw
  have HP := Lib.hid hp
  have HT := Lib.hid ht
  obtain ⟨_, wp, wc, rfl, _⟩ := hw
  obtain ⟨_, pp, pc, rfl, _⟩ := hp
  clear ht
  have hok := weightsOf_ok false wl
  have hne := weightsOf_ne false wl
  have hwc := weighted_sys false wl _ w HW.out
  have hk12 : kindOf false = 1 ∨ kindOf false = 2 := by decide
  have hmk : modOf (kindOf false) = 10 := rfl
  obtain ⟨ws, hws⟩ : ∃ ws, weightsOf false wl = ws := ⟨_, rfl⟩
  obtain ⟨K, hK⟩ : ∃ K, kindOf false = K := ⟨_, rfl⟩
  rw [hws] at hwc hok hne
  rw [hK] at hwc hok hk12 hmk
  have HWC := Lib.hid hwc
  have HOK := Lib.hid hok
  have hlen : 1 ≤ ws.length ∧ ws.length ≤ 10 ∧ ∀ x ∈ ws, x ≤ 10 := by
    rcases hok with ⟨h, _⟩ | ⟨_, h1, h2, h3⟩
    · omega
    · exact ⟨h1, h2, fun x hx => by have := (h3 x hx).2; have := modOf_le K; omega⟩
  obtain ⟨hl1, hl10, hlx⟩ := hlen
  have HLX := Lib.hid hlx
  have HNE := Lib.hid hne
  have hk3 : K ≠ 3 := by omega
  have hk4 : K ≠ 4 := by omega
  have HK3 := Lib.hid hk3
  have HK4 := Lib.hid hk4
  clear hwc hok hne hws hK hk12 hk3 hk4 hlx
  have HMK := Lib.hid hmk
  clear hmk
  go_enter Tryd.func10, Tryd.ntmps10
  go_wp2_with fail
  refine HWC.out.mono ?_
  rintro e w1 ⟨wv, rfl, hN, hb1⟩
  obtain ⟨g, c, rfl, _⟩ := ownsRow_pos hN (List.length_pos_iff.2 HNE.out)
  have hgl : g < w1.heap.size := (hN.lt g rfl).2
  have hcell : ∀ j x : Nat, ws[j]? = some x → w1.cell? ⟨g, j, none⟩ = some (.int .i64 (x : Int)) := fun j x hx => by
    have := hN.cells (g := g) rfl j (.int .i64 x) (by simp [natCells, hx])
    rwa [addr_add, Nat.zero_add] at this
  have HC := Lib.hid hcell
  have HN := Lib.hid (NatRow.of_owns hN)
  clear hN hcell
  have hw1 := hb1.size
  have hsys : ∀ W' : World, Below w1.heap.size w1 W' → SysIn W' K (ints ws) (.slice (some ⟨g, 0, none⟩) ws.length c) := fun W' h => ⟨(HN.out.below (Nat.le_refl _) h).int, (HT.out.below (Nat.le_refl _) hb1).below (Nat.le_refl _) h⟩
  have HSY := Lib.hid hsys
  clear hsys
  have x0 : BlockAt (w1.alloc (.cells #[.int .u8 K, .slice (some ⟨g, 0, none⟩) ws.length c] 25)) w1.heap.size #[.int .u8 K, .slice (some ⟨g, 0, none⟩) ws.length c] 25 := BlockAt.new w1 _ 25
  have hY : Below w1.heap.size w1 (w1.alloc (.cells #[.int .u8 K, .slice (some ⟨g, 0, none⟩) ws.length c] 25)) := (Below.refl _ w1).alloc (Nat.le_refl _) _
  go_wp2_with fail
  refine (payload_any pl _ _ (HP.out.below (Nat.le_refl _) (hb1.trans (hY.mono hb1.size)))).mono ?_
  rintro e w2 ⟨S1, rfl, hS1, hb2⟩
  have x2 := x0.below hb2
  have hY2 := hY.trans (hb2.mono (by simp))
  clear x0 hY hb2
  obtain ⟨hpl1, hpl2, hpd⟩ := payOf_ok pl
  obtain ⟨t, hte⟩ : ∃ t, payOf pl = t := ⟨_, rfl⟩
  rw [hte] at hpl1 hpl2 hpd hS1
  have hSz : S1.size = t.length := by rw [← tx_len S1, hS1]
  obtain ⟨hce, hpass, _⟩ := pay_pass HOK.out hpl1 hpl2 hpd
  obtain ⟨C, hC⟩ : ∃ C, checkVal K (ints ws) t = C := ⟨_, rfl⟩
  rw [hC] at hpass
  have HCK := Lib.hid hC
  have HCE := Lib.hid hce
  have HPS := Lib.hid hpass
  have HS1 := Lib.hid hS1
  have HPD := Lib.hid hpd
  clear hS1 hpd hte hC hce hpass
  obtain ⟨p0, p1, _, _⟩ := x2.two
  have v0 := x2.lt
  go_wp2_with fail
  refine (append_any K (ints ws) _ S1 _ (HSY.out _ hY2) (by omega)).mono ?_
  rintro e w3 ⟨S2, rfl, hS2, hb3⟩
  rw [HS1.out, HCE.out]
  rw [HS1.out, HCK.out] at hS2
  have hS2 := hS2 HCE.out
  have x3 := x2.below hb3
  have hY3 := hY2.trans (hb3.mono (Nat.le_of_lt v0))
  clear x2 hY2 hb3 p0 p1 v0
  obtain ⟨T, hT⟩ : ∃ T, t ++ [C] = T := ⟨_, rfl⟩
  have HTx : Hid (tx S2 = T) := Lib.hid (by rw [hS2, hT])
  have hPass := HPS.out
  rw [hT] at hPass
  have HPa := Lib.hid hPass
  obtain ⟨m, hm⟩ : ∃ m, S1.size = m := ⟨_, rfl⟩
  have hS2z : S2.size = m + 1 := by rw [← tx_len S2, HTx.out, ← hT, List.length_append, ← hSz, hm]; rfl
  have hTn : T.length = m + 1 := by rw [← hS2z, ← tx_len S2, HTx.out]
  have htm : t.length = m := by omega
  have hm1 : 1 ≤ m := by omega
  have hm30 : m ≤ 30 := by omega
  have HTT := Lib.hid hT
  have hwm : IntKind.i64.wrap ((m : Int) + 1) = (m : Int) + 1 := by rw [IntKind.wrap_i64]; omega
  have HTn := Lib.hid hTn
  have Htm := Lib.hid htm
  clear hPass hT HPS hS2 hSz hTn htm hpl1 hpl2
  have hmI : (1 : Int) ≤ (m : Int) := by omega
  obtain ⟨p0, p1, _, _⟩ := x3.two
  have v0 := x3.lt
  go_wp2_with fail
  refine (passes_any K (ints ws) _ S2 _ (HSY.out _ hY3) (by omega)).mono ?_
  rintro e w4 ⟨rfl, hb4⟩
  rw [HTx.out, HPa.out.test]
  have x4 := x3.below hb4
  have hY4 := hY3.trans (hb4.mono (Nat.le_of_lt v0))
  clear x3 hY3 hb4 p0 p1 v0
  obtain ⟨p0, p1, _, _⟩ := x4.two
  have v0 := x4.lt
  go_wp2_with fail
  refine (misses_ok HOK.out _ m _ (HSY.out _ hY4) hm1 hm30).mono ?_
  have hLn := miss_len K ws m hm30
  obtain ⟨L, hL⟩ : ∃ L, missList K ws m = L := ⟨_, rfl⟩
  rw [hL] at hLn ⊢
  obtain ⟨nL, hnL⟩ : ∃ nL, L.length = nL := ⟨_, rfl⟩
  rw [hnL]
  have HLn := Lib.hid hLn
  have HL := Lib.hid hL
  clear hLn hL hnL
  rintro e w5 ⟨pM, cM, rfl, hMs, hb5⟩
  have x5 := x4.below hb5
  have hY5 := hY4.trans (hb5.mono (Nat.le_of_lt v0))
  have HM5 := Lib.hid hMs
  clear x4 hY4 hb5 p0 p1 v0 hMs
  go_wp2_with fail
  go_loopw [13] (fun av wr => ∃ A : Nat, av = .int .i64 A ∧ 1 ≤ A ∧ A ≤ m ∧ BlockAt wr w1.heap.size #[.int .u8 K, .slice (some ⟨g, 0, none⟩) ws.length c] 25 ∧ Below w1.heap.size w1 wr ∧ Hid (MissAt wr (.slice pM nL cM) L))
    (fun av _ => m - (intOf av).toNat)
  case atStart => exact ⟨1, rfl, by omega, by omega, x5, hY5, HM5⟩
  case round =>
    clear x5 hY5 HM5
    obtain ⟨A, rfl, hA1, hAm, x0, hY, HMA⟩ := hrel
    obtain ⟨I, hI⟩ : ∃ I, m - A = I := ⟨_, rfl⟩
    have hwI : IntKind.i64.wrap ((m : Int) - (A : Int)) = (I : Int) := by rw [IntKind.wrap_i64]; omega
    have hAmi : (A : Int) ≤ (m : Int) := by omega
    obtain ⟨d, hd⟩ : ∃ d, T[I]? = some d := ⟨_, List.getElem?_eq_getElem (by rw [HTn.out]; omega)⟩
    have hdg := digit_at HTT.out HPD.out (by rw [Htm.out]; omega) hd
    have hmS : I < S2.size := by omega
    have hci : (S2[I]'hmS).toNat = d := by
      have := tx_at S2 I hmS
      rw [HTx.out, hd] at this
      exact (Option.some.inj this).symm
    obtain ⟨a, ha⟩ : ∃ a, d - 48 = a := ⟨_, rfl⟩
    have hcd : chVal d = a := by unfold chVal; rw [if_neg (by omega), ha]
    have ha9 : a ≤ 9 := by omega
    have hwd : IntKind.u8.wrap ((d : Int) - 48) = (a : Int) := by rw [IntKind.wrap_u8]; omega
    have hwa : IntKind.i64.wrap (a : Int) = (a : Int) := by rw [IntKind.wrap_i64]; omega
    obtain ⟨j, hj⟩ : ∃ j, j = (A - 1) % ws.length := ⟨_, rfl⟩
    have hjl : j < ws.length := by rw [hj]; exact Nat.mod_lt _ hl1
    obtain ⟨x, hx⟩ : ∃ x, ws[j]? = some x := ⟨_, List.getElem?_eq_getElem hjl⟩
    have hx10 : x ≤ 10 := HLX.out x (List.mem_of_getElem? hx)
    have hwt : wt ws A = x := by unfold wt; rw [if_neg (by omega), ← hj, List.getD_eq_getElem?_getD, hx]; rfl
    have hcj : wr.cell? ⟨g, j, none⟩ = some (.int .i64 (x : Int)) := (hY.cell (p := ⟨g, j, none⟩) hgl).trans (HC.out j x hx)
    have hmod : ((A : Int) - 1).tmod (ws.length : Int) = (j : Int) := by
      rw [Int.tmod_eq_emod_of_nonneg (by omega), hj]
      have : (A : Int) - 1 = ((A - 1 : Nat) : Int) := by omega
      rw [this]; rfl
    have hmw : (IntKind.i64.wrap ((A : Int) - 1)).tmod (ws.length : Int) = (j : Int) := by rw [show IntKind.i64.wrap ((A : Int) - 1) = (A : Int) - 1 from by rw [IntKind.wrap_i64]; omega]; exact hmod
    have hmw2 : IntKind.i64.wrap ((IntKind.i64.wrap ((A : Int) - 1)).tmod (ws.length : Int)) = (j : Int) := by rw [hmw, IntKind.wrap_i64]; omega
    have hmod2 : ((A : Int) - 1) % (ws.length : Int) = (j : Int) := by
      rw [← hmod, Int.tmod_eq_emod_of_nonneg (by omega)]
    have hlz : ((ws.length : Int) == 0) = false := by rw [beq_eq_false_iff_ne]; omega
    have hjli : (j : Int) < (ws.length : Int) := by omega
    have HD := Lib.hid hd
    have HCD := Lib.hid hcd
    have HWT := Lib.hid hwt
    have HJ := Lib.hid hj
    have HX := Lib.hid hx
    have HI := Lib.hid hI
    have HAe := Lib.hid ha
    clear hd hcd hwt hj hx hI ha
    obtain ⟨p0, p1, _, _⟩ := x0.two
    have v0 := x0.lt
    go_upto_region 16 with fail
    go_quiet (fail)
    clear hmod hmw hmw2 hmod2 hcj
    go_wp2_with fail
    go_loopw [17] (fun bv wr => ∃ b : Nat, bv = .int .i64 b ∧ b ≤ 10 ∧ BlockAt wr w1.heap.size #[.int .u8 K, .slice (some ⟨g, 0, none⟩) ws.length c] 25 ∧ Below w1.heap.size w1 wr ∧ Hid (MissAt wr (.slice pM nL cM) L))
      (fun bv _ => 10 - (intOf bv).toNat)
    case atStart => exact ⟨0, rfl, by omega, x0, below_drewN hY _, Lib.hid (HMA.out.drewN _)⟩
    case round =>
      clear x0 hY HMA p0 p1 v0
      obtain ⟨b, rfl, hb10, x0, hY, HMA⟩ := hrel
      obtain ⟨p0, p1, _, _⟩ := x0.two
      have v0 := x0.lt
      by_cases hlb : b < 10
      · have hlbi : (b : Int) < 10 := by omega
        have hwab : IntKind.i64.wrap ((a : Int) - (b : Int)) = (a : Int) - (b : Int) := by rw [IntKind.wrap_i64]; omega
        have hPb := prod_small (x := x) (a := a) (b := b) hx10 ha9 (by omega)
        have hone := code_one HK3.out ws A a b
        rw [HWT.out, HMK.out] at hone
        obtain ⟨P, hP⟩ : ∃ P, (x : Int) * ((a : Int) - (b : Int)) = P := ⟨_, rfl⟩
        rw [hP] at hPb hone
        have hwP : IntKind.i64.wrap ((x : Int) * ((a : Int) - (b : Int))) = P := by rw [hP, IntKind.wrap_i64]; omega
        have hwPt := tmod_small hPb.1 hPb.2 10
        obtain ⟨y, hy⟩ : ∃ y, 48 + b = y := ⟨_, rfl⟩
        have hw48 : IntKind.i64.wrap (48 + (b : Int)) = (y : Int) := by rw [IntKind.wrap_i64]; omega
        have hwy : IntKind.u8.wrap (y : Int) = (y : Int) := by rw [IntKind.wrap_u8]; omega
        have hy256 : y < 256 := by omega
        have hput := HPa.out.put HK4.out HD.out (x := b) hlb
        rw [show shownB b = y from by unfold shownB; rw [if_neg (by omega)]; exact hy, HTn.out, HCD.out, show m + 1 - 1 - I = A from by have := HI.out; omega] at hput
        have hmem : a ≠ b → decide ((false, A, min a b, max a b) ∈ L) = missB K ws false A a b := fun h => by
          rw [← HL.out]; exact mem_minmax HK4.out h (by omega) hlb hA1 (by rw [if_neg (by decide)]; exact hAm)
        obtain ⟨mb, hmb⟩ : ∃ mb, missB K ws false A a b = mb := ⟨_, rfl⟩
        rw [hmb] at hone hput hmem
        have HP0 := Lib.hid hP
        have HPT := Lib.hid hput
        have HMM := Lib.hid hmem
        have HY := Lib.hid hy
        clear hP hPb hput hmem hmb hy
        cases mb with
        | true =>
          have hz : P.tmod 10 = 0 := hone.2 rfl
          clear hone
          by_cases hab : a = b
          · subst hab
            go_upto_region 21 with fail
            refine wp_region_noPanic ?_
            refine wp_region_held_drew (S := (fun w' => w'.cell? ⟨w1.heap.size, 0, none⟩ = some (.int .u8 K) ∧ w'.cell? ⟨w1.heap.size, 1, none⟩ = some (.slice (some ⟨g, 0, none⟩) ws.length c))) (by kernel_rfl) ?_ (fun hHeld => ?_)
            · (try dsimp only)
              go_keep
            refine rt0 (v := ?_) (by kernel_rfl) (by kernel_rfl) (by kernel_rfl) (fun _ _ _ h => h) (by rfl) hHeld ?_ ?_
            rotate_left
            · intro w' hSw
              (try dsimp only at hSw)
              go_simp <;> with_reducible rfl
            (try simp only [Act.put, List.setIfInBounds_toArray, List.set_cons_zero, List.set_cons_succ])
            refine rt1 (v := ?_) (by kernel_rfl) (by kernel_rfl) (by kernel_rfl) (fun _ _ _ h => h) (by rfl) hHeld ?_ ?_
            rotate_left
            · intro w' hSw
              (try dsimp only at hSw)
              go_simp <;> with_reducible rfl
            (try simp only [Act.put, List.setIfInBounds_toArray, List.set_cons_zero, List.set_cons_succ])
            refine rt2 (v := ?_) (by kernel_rfl) (by kernel_rfl) (by kernel_rfl) (fun _ _ _ h => h) (by rfl) hHeld ?_ ?_
            rotate_left
            · intro w' hSw
              (try dsimp only at hSw)
              go_simp <;> with_reducible rfl
            (try simp only [Act.put, List.setIfInBounds_toArray, List.set_cons_zero, List.set_cons_succ])
            refine rt3 (v := ?_) (by kernel_rfl) (by kernel_rfl) (by kernel_rfl) (fun _ _ _ h => h) (by rfl) hHeld ?_ ?_
            rotate_left
            · intro w' hSw
              (try dsimp only at hSw)
              go_simp <;> with_reducible rfl
            (try simp only [Act.put, List.setIfInBounds_toArray, List.set_cons_zero, List.set_cons_succ])
            refine rt4 (v := ?_) (by kernel_rfl) (by kernel_rfl) (by kernel_rfl) (fun _ _ _ h => h) (by rfl) hHeld ?_ ?_
            rotate_left
            · intro w' hSw
              (try dsimp only at hSw)
              go_simp <;> with_reducible rfl
            (try simp only [Act.put, List.setIfInBounds_toArray, List.set_cons_zero, List.set_cons_succ])
            refine rt5 (v := ?_) (by kernel_rfl) (by kernel_rfl) (by kernel_rfl) (fun _ _ _ h => h) (by rfl) hHeld ?_ ?_
            rotate_left
            · intro w' hSw
              (try dsimp only at hSw)
              go_simp <;> with_reducible rfl
            (try simp only [Act.put, List.setIfInBounds_toArray, List.set_cons_zero, List.set_cons_succ])
            refine rt8 (v := ?_) (by kernel_rfl) (by kernel_rfl) (by kernel_rfl) (fun _ _ _ h => h) (by rfl) hHeld ?_ ?_
            rotate_left
            · intro w' hSw
              (try dsimp only at hSw)
              go_simp <;> with_reducible rfl
            (try simp only [Act.put, List.setIfInBounds_toArray, List.set_cons_zero, List.set_cons_succ])
            refine rc6 (by kernel_rfl) (fun Kq hKq => ?_)
            go_simp
            go_at_call 16
            with_reducible refine (put_any S2 I y _ (by omega) hy256 (by omega)).mono ?_
            rintro e w6 ⟨S3, rfl, hS3, hb6⟩
            have y6 : BlockAt w6 w1.heap.size #[.int .u8 K, .slice (some ⟨g, 0, none⟩) ws.length c] 25 := BlockAt.below (by first | exact x0 | exact x0.drew) hb6
            obtain ⟨a0, a1, _, _⟩ := y6.two
            have v6 := y6.lt
            have hY6 : Below w1.heap.size w1 w6 := (by first | exact below_then hY hY.size hb6 | exact below_then2 hY hY.size hb6)
            have HM6 : Hid (MissAt w6 (.slice pM nL cM) L) := Lib.hid (by first | exact HMA.out.below (Nat.le_refl _) hb6 | exact HMA.out.drew.below (Nat.le_refl _) hb6)
            (try go_wp2_with fail)
            refine hKq.out _ _ ?_ (fun hHeld => ?_)
            · (try dsimp only)
              go_keep
            clear hKq Kq
            (try simp only [Act.put, List.setIfInBounds_toArray, List.set_cons_zero, List.set_cons_succ])
            refine rc7 (by kernel_rfl) (fun Kq hKq => ?_)
            go_simp
            go_at_call 17
            with_reducible refine (passes_any K (ints ws) _ S3 _ (HSY.out _ hY6) (by rw [← tx_len S3, hS3, List.length_set, tx_len]; omega)).mono ?_
            rintro e w7 ⟨rfl, hb7⟩
            rw [hS3, HTx.out, HPT.out]
            have y7 : BlockAt w7 w1.heap.size #[.int .u8 K, .slice (some ⟨g, 0, none⟩) ws.length c] 25 := BlockAt.below (by first | exact y6 | exact y6.drew) hb7
            obtain ⟨a0, a1, _, _⟩ := y7.two
            have v7 := y7.lt
            have hY7 : Below w1.heap.size w1 w7 := (by first | exact below_then hY6 hY6.size hb7 | exact below_then2 hY6 hY6.size hb7)
            have HM7 : Hid (MissAt w7 (.slice pM nL cM) L) := Lib.hid (by first | exact HM6.out.below (Nat.le_refl _) hb7 | exact HM6.out.drew.below (Nat.le_refl _) hb7)
            (try go_wp2_with fail)
            refine hKq.out _ _ ?_ (fun hHeld => ?_)
            · (try dsimp only)
              go_keep
            clear hKq Kq
            (try simp only [Act.put, List.setIfInBounds_toArray, List.set_cons_zero, List.set_cons_succ])
            refine rt9 (v := ?_) (by kernel_rfl) (by kernel_rfl) (by kernel_rfl) (fun _ _ _ h => h) (by rfl) hHeld ?_ ?_
            rotate_left
            · intro w' hSw
              (try dsimp only at hSw)
              go_simp <;> with_reducible rfl
            (try simp only [Act.put, List.setIfInBounds_toArray, List.set_cons_zero, List.set_cons_succ])
            refine rt10 (v := ?_) (by kernel_rfl) (by kernel_rfl) (by kernel_rfl) (fun _ _ _ h => h) (by rfl) hHeld ?_ ?_
            rotate_left
            · intro w' hSw
              (try dsimp only at hSw)
              go_simp <;> with_reducible rfl
            (try simp only [Act.put, List.setIfInBounds_toArray, List.set_cons_zero, List.set_cons_succ])
            refine rt11 (v := ?_) (by kernel_rfl) (by kernel_rfl) (by kernel_rfl) (fun _ _ _ h => h) (by rfl) hHeld ?_ ?_
            rotate_left
            · intro w' hSw
              (try dsimp only at hSw)
              go_simp <;> with_reducible rfl
            (try simp only [Act.put, List.setIfInBounds_toArray, List.set_cons_zero, List.set_cons_succ])
            refine rt12 (v := ?_) (by kernel_rfl) (by kernel_rfl) (by kernel_rfl) (fun _ _ _ h => h) (by rfl) hHeld ?_ ?_
            rotate_left
            · intro w' hSw
              (try dsimp only at hSw)
              go_simp <;> with_reducible rfl
            (try simp only [Act.put, List.setIfInBounds_toArray, List.set_cons_zero, List.set_cons_succ])
            refine rt13 (v := ?_) (by kernel_rfl) (by kernel_rfl) (by kernel_rfl) (fun _ _ _ h => h) (by rfl) hHeld ?_ ?_
            rotate_left
            · intro w' hSw
              (try dsimp only at hSw)
              go_simp <;> with_reducible rfl
            (try simp only [Act.put, List.setIfInBounds_toArray, List.set_cons_zero, List.set_cons_succ])
            refine rt14 (v := ?_) (by kernel_rfl) (by kernel_rfl) (by kernel_rfl) (fun _ _ _ h => h) (by rfl) hHeld ?_ ?_
            rotate_left
            · intro w' hSw
              (try dsimp only at hSw)
              go_simp <;> with_reducible rfl
            (try simp only [Act.put, List.setIfInBounds_toArray, List.set_cons_zero, List.set_cons_succ])
            refine rs15 (by kernel_rfl) (by kernel_rfl) (by kernel_rfl) (fun _ _ _ h => h) (by rfl) hHeld ?_
            (try simp only [Act.put, List.setIfInBounds_toArray, List.set_cons_zero, List.set_cons_succ])
            refine rs16 (by kernel_rfl) (by kernel_rfl) (by kernel_rfl) (fun _ _ _ h => h) (by rfl) hHeld ?_
            (try simp only [Act.put, List.setIfInBounds_toArray, List.set_cons_zero, List.set_cons_succ])
            refine rs17 (by kernel_rfl) (by kernel_rfl) (by kernel_rfl) (fun _ _ _ h => h) (by rfl) hHeld ?_
            (try simp only [Act.put, List.setIfInBounds_toArray, List.set_cons_zero, List.set_cons_succ])
            refine rs18 (by kernel_rfl) (by kernel_rfl) (by kernel_rfl) (fun _ _ _ h => h) (by rfl) hHeld ?_
            (try simp only [Act.put, List.setIfInBounds_toArray, List.set_cons_zero, List.set_cons_succ])
            refine rs19 (by kernel_rfl) (by kernel_rfl) (by kernel_rfl) (fun _ _ _ h => h) (by rfl) hHeld ?_
            (try simp only [Act.put, List.setIfInBounds_toArray, List.set_cons_zero, List.set_cons_succ])
            refine rs20 (by kernel_rfl) (by kernel_rfl) (by kernel_rfl) (fun _ _ _ h => h) (by rfl) hHeld ?_
            (try simp only [Act.put, List.setIfInBounds_toArray, List.set_cons_zero, List.set_cons_succ])
            refine rs21 (by kernel_rfl) (by kernel_rfl) (by kernel_rfl) (fun _ _ _ h => h) (by rfl) hHeld ?_
            (try simp only [Act.put, List.setIfInBounds_toArray, List.set_cons_zero, List.set_cons_succ])
            refine rt22 (v := ?_) (by kernel_rfl) (by kernel_rfl) (by kernel_rfl) (fun _ _ _ h => h) (by rfl) hHeld ?_ ?_
            rotate_left
            · intro w' hSw
              (try dsimp only at hSw)
              go_simp <;> with_reducible rfl
            (try simp only [Act.put, List.setIfInBounds_toArray, List.set_cons_zero, List.set_cons_succ])
            refine rt23 (v := ?_) (by kernel_rfl) (by kernel_rfl) (by kernel_rfl) (fun _ _ _ h => h) (by rfl) hHeld ?_ ?_
            rotate_left
            · intro w' hSw
              (try dsimp only at hSw)
              go_simp <;> with_reducible rfl
            (try simp only [Act.put, List.setIfInBounds_toArray, List.set_cons_zero, List.set_cons_succ])
            refine wpAnyH_done (by kernel_rfl) ?_ _
            refine NoPanic.normal ?_
            go_wp2
            go_roundw
            case rel => exact ⟨a + 1, by go_num, by omega, y7, hY7, HM7⟩
            case measure => simp [intOf] <;> omega
          · have habi : ¬ (a : Int) = (b : Int) := by omega
            have habb : ((a : Int) == (b : Int)) = false := by rw [beq_eq_false_iff_ne]; exact habi
            have habc : ((a : Int) != (b : Int)) = true := by rw [bne_iff_ne]; exact habi
            have HMEM := Lib.hid (HMM.out hab)
            clear hab
            go_upto_region 21 with fail
            refine wp_region_noPanic ?_
            refine wp_region_held_drew (S := (fun w' => w'.cell? ⟨w1.heap.size, 0, none⟩ = some (.int .u8 K) ∧ w'.cell? ⟨w1.heap.size, 1, none⟩ = some (.slice (some ⟨g, 0, none⟩) ws.length c))) (by kernel_rfl) ?_ (fun hHeld => ?_)
            · (try dsimp only)
              go_keep
            refine rt0 (v := ?_) (by kernel_rfl) (by kernel_rfl) (by kernel_rfl) (fun _ _ _ h => h) (by rfl) hHeld ?_ ?_
            rotate_left
            · intro w' hSw
              (try dsimp only at hSw)
              go_simp <;> with_reducible rfl
            (try simp only [Act.put, List.setIfInBounds_toArray, List.set_cons_zero, List.set_cons_succ])
            refine rt1 (v := ?_) (by kernel_rfl) (by kernel_rfl) (by kernel_rfl) (fun _ _ _ h => h) (by rfl) hHeld ?_ ?_
            rotate_left
            · intro w' hSw
              (try dsimp only at hSw)
              go_simp <;> with_reducible rfl
            (try simp only [Act.put, List.setIfInBounds_toArray, List.set_cons_zero, List.set_cons_succ])
            refine rt2 (v := ?_) (by kernel_rfl) (by kernel_rfl) (by kernel_rfl) (fun _ _ _ h => h) (by rfl) hHeld ?_ ?_
            rotate_left
            · intro w' hSw
              (try dsimp only at hSw)
              go_simp <;> with_reducible rfl
            (try simp only [Act.put, List.setIfInBounds_toArray, List.set_cons_zero, List.set_cons_succ])
            refine rt3 (v := ?_) (by kernel_rfl) (by kernel_rfl) (by kernel_rfl) (fun _ _ _ h => h) (by rfl) hHeld ?_ ?_
            rotate_left
            · intro w' hSw
              (try dsimp only at hSw)
              go_simp <;> with_reducible rfl
            (try simp only [Act.put, List.setIfInBounds_toArray, List.set_cons_zero, List.set_cons_succ])
            refine rt4 (v := ?_) (by kernel_rfl) (by kernel_rfl) (by kernel_rfl) (fun _ _ _ h => h) (by rfl) hHeld ?_ ?_
            rotate_left
            · intro w' hSw
              (try dsimp only at hSw)
              go_simp <;> with_reducible rfl
            (try simp only [Act.put, List.setIfInBounds_toArray, List.set_cons_zero, List.set_cons_succ])
            refine rt5 (v := ?_) (by kernel_rfl) (by kernel_rfl) (by kernel_rfl) (fun _ _ _ h => h) (by rfl) hHeld ?_ ?_
            rotate_left
            · intro w' hSw
              (try dsimp only at hSw)
              go_simp <;> with_reducible rfl
            (try simp only [Act.put, List.setIfInBounds_toArray, List.set_cons_zero, List.set_cons_succ])
            refine rt8 (v := ?_) (by kernel_rfl) (by kernel_rfl) (by kernel_rfl) (fun _ _ _ h => h) (by rfl) hHeld ?_ ?_
            rotate_left
            · intro w' hSw
              (try dsimp only at hSw)
              go_simp <;> with_reducible rfl
            (try simp only [Act.put, List.setIfInBounds_toArray, List.set_cons_zero, List.set_cons_succ])
            refine rc6 (by kernel_rfl) (fun Kq hKq => ?_)
            go_simp
            go_at_call 16
            with_reducible refine (put_any S2 I y _ (by omega) hy256 (by omega)).mono ?_
            rintro e w6 ⟨S3, rfl, hS3, hb6⟩
            have y6 : BlockAt w6 w1.heap.size #[.int .u8 K, .slice (some ⟨g, 0, none⟩) ws.length c] 25 := BlockAt.below (by first | exact x0 | exact x0.drew) hb6
            obtain ⟨a0, a1, _, _⟩ := y6.two
            have v6 := y6.lt
            have hY6 : Below w1.heap.size w1 w6 := (by first | exact below_then hY hY.size hb6 | exact below_then2 hY hY.size hb6)
            have HM6 : Hid (MissAt w6 (.slice pM nL cM) L) := Lib.hid (by first | exact HMA.out.below (Nat.le_refl _) hb6 | exact HMA.out.drew.below (Nat.le_refl _) hb6)
            (try go_wp2_with fail)
            refine hKq.out _ _ ?_ (fun hHeld => ?_)
            · (try dsimp only)
              go_keep
            clear hKq Kq
            (try simp only [Act.put, List.setIfInBounds_toArray, List.set_cons_zero, List.set_cons_succ])
            refine rc7 (by kernel_rfl) (fun Kq hKq => ?_)
            go_simp
            go_at_call 17
            with_reducible refine (passes_any K (ints ws) _ S3 _ (HSY.out _ hY6) (by rw [← tx_len S3, hS3, List.length_set, tx_len]; omega)).mono ?_
            rintro e w7 ⟨rfl, hb7⟩
            rw [hS3, HTx.out, HPT.out]
            have y7 : BlockAt w7 w1.heap.size #[.int .u8 K, .slice (some ⟨g, 0, none⟩) ws.length c] 25 := BlockAt.below (by first | exact y6 | exact y6.drew) hb7
            obtain ⟨a0, a1, _, _⟩ := y7.two
            have v7 := y7.lt
            have hY7 : Below w1.heap.size w1 w7 := (by first | exact below_then hY6 hY6.size hb7 | exact below_then2 hY6 hY6.size hb7)
            have HM7 : Hid (MissAt w7 (.slice pM nL cM) L) := Lib.hid (by first | exact HM6.out.below (Nat.le_refl _) hb7 | exact HM6.out.drew.below (Nat.le_refl _) hb7)
            (try go_wp2_with fail)
            refine hKq.out _ _ ?_ (fun hHeld => ?_)
            · (try dsimp only)
              go_keep
            clear hKq Kq
            (try simp only [Act.put, List.setIfInBounds_toArray, List.set_cons_zero, List.set_cons_succ])
            refine rt9 (v := ?_) (by kernel_rfl) (by kernel_rfl) (by kernel_rfl) (fun _ _ _ h => h) (by rfl) hHeld ?_ ?_
            rotate_left
            · intro w' hSw
              (try dsimp only at hSw)
              go_simp <;> with_reducible rfl
            (try simp only [Act.put, List.setIfInBounds_toArray, List.set_cons_zero, List.set_cons_succ])
            refine rt10 (v := ?_) (by kernel_rfl) (by kernel_rfl) (by kernel_rfl) (fun _ _ _ h => h) (by rfl) hHeld ?_ ?_
            rotate_left
            · intro w' hSw
              (try dsimp only at hSw)
              go_simp <;> with_reducible rfl
            (try simp only [Act.put, List.setIfInBounds_toArray, List.set_cons_zero, List.set_cons_succ])
            refine rt11 (v := ?_) (by kernel_rfl) (by kernel_rfl) (by kernel_rfl) (fun _ _ _ h => h) (by rfl) hHeld ?_ ?_
            rotate_left
            · intro w' hSw
              (try dsimp only at hSw)
              go_simp <;> with_reducible rfl
            (try simp only [Act.put, List.setIfInBounds_toArray, List.set_cons_zero, List.set_cons_succ])
            refine rt12 (v := ?_) (by kernel_rfl) (by kernel_rfl) (by kernel_rfl) (fun _ _ _ h => h) (by rfl) hHeld ?_ ?_
            rotate_left
            · intro w' hSw
              (try dsimp only at hSw)
              go_simp <;> with_reducible rfl
            (try simp only [Act.put, List.setIfInBounds_toArray, List.set_cons_zero, List.set_cons_succ])
            refine rt13 (v := ?_) (by kernel_rfl) (by kernel_rfl) (by kernel_rfl) (fun _ _ _ h => h) (by rfl) hHeld ?_ ?_
            rotate_left
            · intro w' hSw
              (try dsimp only at hSw)
              go_simp <;> with_reducible rfl
            (try simp only [Act.put, List.setIfInBounds_toArray, List.set_cons_zero, List.set_cons_succ])
            refine rt14 (v := ?_) (by kernel_rfl) (by kernel_rfl) (by kernel_rfl) (fun _ _ _ h => h) (by rfl) hHeld ?_ ?_
            rotate_left
            · intro w' hSw
              (try dsimp only at hSw)
              go_simp <;> with_reducible rfl
            (try simp only [Act.put, List.setIfInBounds_toArray, List.set_cons_zero, List.set_cons_succ])
            refine rt15 (v := ?_) (by kernel_rfl) (by kernel_rfl) (by kernel_rfl) (fun _ _ _ h => h) (by rfl) hHeld ?_ ?_
            rotate_left
            · intro w' hSw
              (try dsimp only at hSw)
              go_simp <;> with_reducible rfl
            (try simp only [Act.put, List.setIfInBounds_toArray, List.set_cons_zero, List.set_cons_succ])
            refine rt16 (v := ?_) (by kernel_rfl) (by kernel_rfl) (by kernel_rfl) (fun _ _ _ h => h) (by rfl) hHeld ?_ ?_
            rotate_left
            · intro w' hSw
              (try dsimp only at hSw)
              go_simp <;> with_reducible rfl
            (try simp only [Act.put, List.setIfInBounds_toArray, List.set_cons_zero, List.set_cons_succ])
            refine rt17 (v := ?_) (by kernel_rfl) (by kernel_rfl) (by kernel_rfl) (fun _ _ _ h => h) (by rfl) hHeld ?_ ?_
            rotate_left
            · intro w' hSw
              (try dsimp only at hSw)
              go_simp <;> with_reducible rfl
            (try simp only [Act.put, List.setIfInBounds_toArray, List.set_cons_zero, List.set_cons_succ])
            refine rt18 (v := ?_) (by kernel_rfl) (by kernel_rfl) (by kernel_rfl) (fun _ _ _ h => h) (by rfl) hHeld ?_ ?_
            rotate_left
            · intro w' hSw
              (try dsimp only at hSw)
              go_simp <;> with_reducible rfl
            (try simp only [Act.put, List.setIfInBounds_toArray, List.set_cons_zero, List.set_cons_succ])
            refine rt20 (v := ?_) (by kernel_rfl) (by kernel_rfl) (by kernel_rfl) (fun _ _ _ h => h) (by rfl) hHeld ?_ ?_
            rotate_left
            · intro w' hSw
              (try dsimp only at hSw)
              go_simp <;> with_reducible rfl
            (try simp only [Act.put, List.setIfInBounds_toArray, List.set_cons_zero, List.set_cons_succ])
            refine rc19 (by kernel_rfl) (fun Kq hKq => ?_)
            go_simp
            go_at_call 31
            with_reducible refine (has_any L _ false A a b _ HM7.out HLn.out).mono ?_
            rintro e w8 ⟨rfl, hb8⟩
            rw [HMEM.out]
            have y8 : BlockAt w8 w1.heap.size #[.int .u8 K, .slice (some ⟨g, 0, none⟩) ws.length c] 25 := BlockAt.below (by first | exact y7 | exact y7.drew) hb8
            obtain ⟨a0, a1, _, _⟩ := y8.two
            have v8 := y8.lt
            have hY8 : Below w1.heap.size w1 w8 := (by first | exact below_then hY7 hY7.size hb8 | exact below_then2 hY7 hY7.size hb8)
            have HM8 : Hid (MissAt w8 (.slice pM nL cM) L) := Lib.hid (by first | exact HM7.out.below (Nat.le_refl _) hb8 | exact HM7.out.drew.below (Nat.le_refl _) hb8)
            (try go_wp2_with fail)
            refine hKq.out _ _ ?_ (fun hHeld => ?_)
            · (try dsimp only)
              go_keep
            clear hKq Kq
            (try simp only [Act.put, List.setIfInBounds_toArray, List.set_cons_zero, List.set_cons_succ])
            refine rt21 (v := ?_) (by kernel_rfl) (by kernel_rfl) (by kernel_rfl) (fun _ _ _ h => h) (by rfl) hHeld ?_ ?_
            rotate_left
            · intro w' hSw
              (try dsimp only at hSw)
              go_simp <;> with_reducible rfl
            (try simp only [Act.put, List.setIfInBounds_toArray, List.set_cons_zero, List.set_cons_succ])
            refine rt22 (v := ?_) (by kernel_rfl) (by kernel_rfl) (by kernel_rfl) (fun _ _ _ h => h) (by rfl) hHeld ?_ ?_
            rotate_left
            · intro w' hSw
              (try dsimp only at hSw)
              go_simp <;> with_reducible rfl
            (try simp only [Act.put, List.setIfInBounds_toArray, List.set_cons_zero, List.set_cons_succ])
            refine rt23 (v := ?_) (by kernel_rfl) (by kernel_rfl) (by kernel_rfl) (fun _ _ _ h => h) (by rfl) hHeld ?_ ?_
            rotate_left
            · intro w' hSw
              (try dsimp only at hSw)
              go_simp <;> with_reducible rfl
            (try simp only [Act.put, List.setIfInBounds_toArray, List.set_cons_zero, List.set_cons_succ])
            refine wpAnyH_done (by kernel_rfl) ?_ _
            refine NoPanic.normal ?_
            go_wp2
            go_roundw
            case rel => exact ⟨b + 1, by go_num, by omega, y8, hY8, HM8⟩
            case measure => simp [intOf] <;> omega

        | false =>
          have hz : ¬ P.tmod 10 = 0 := fun e => by have := hone.1 e; cases this
          have hz2 : (P.tmod 10 == 0) = false := by rw [beq_eq_false_iff_ne]; exact hz
          clear hone
          by_cases hab : a = b
          · exact absurd (by rw [← HP0.out, hab, Int.sub_self, Int.mul_zero]; rfl) hz
          · have habi : ¬ (a : Int) = (b : Int) := by omega
            have habb : ((a : Int) == (b : Int)) = false := by rw [beq_eq_false_iff_ne]; exact habi
            have habc : ((a : Int) != (b : Int)) = true := by rw [bne_iff_ne]; exact habi
            have HMEM := Lib.hid (HMM.out hab)
            clear hab
            go_upto_region 21 with fail
            refine wp_region_noPanic ?_
            refine wp_region_held_drew (S := (fun w' => w'.cell? ⟨w1.heap.size, 0, none⟩ = some (.int .u8 K) ∧ w'.cell? ⟨w1.heap.size, 1, none⟩ = some (.slice (some ⟨g, 0, none⟩) ws.length c))) (by kernel_rfl) ?_ (fun hHeld => ?_)
            · (try dsimp only)
              go_keep
            refine rt0 (v := ?_) (by kernel_rfl) (by kernel_rfl) (by kernel_rfl) (fun _ _ _ h => h) (by rfl) hHeld ?_ ?_
            rotate_left
            · intro w' hSw
              (try dsimp only at hSw)
              go_simp <;> with_reducible rfl
            (try simp only [Act.put, List.setIfInBounds_toArray, List.set_cons_zero, List.set_cons_succ])
            refine rt1 (v := ?_) (by kernel_rfl) (by kernel_rfl) (by kernel_rfl) (fun _ _ _ h => h) (by rfl) hHeld ?_ ?_
            rotate_left
            · intro w' hSw
              (try dsimp only at hSw)
              go_simp <;> with_reducible rfl
            (try simp only [Act.put, List.setIfInBounds_toArray, List.set_cons_zero, List.set_cons_succ])
            refine rt2 (v := ?_) (by kernel_rfl) (by kernel_rfl) (by kernel_rfl) (fun _ _ _ h => h) (by rfl) hHeld ?_ ?_
            rotate_left
            · intro w' hSw
              (try dsimp only at hSw)
              go_simp <;> with_reducible rfl
            (try simp only [Act.put, List.setIfInBounds_toArray, List.set_cons_zero, List.set_cons_succ])
            refine rt3 (v := ?_) (by kernel_rfl) (by kernel_rfl) (by kernel_rfl) (fun _ _ _ h => h) (by rfl) hHeld ?_ ?_
            rotate_left
            · intro w' hSw
              (try dsimp only at hSw)
              go_simp <;> with_reducible rfl
            (try simp only [Act.put, List.setIfInBounds_toArray, List.set_cons_zero, List.set_cons_succ])
            refine rt4 (v := ?_) (by kernel_rfl) (by kernel_rfl) (by kernel_rfl) (fun _ _ _ h => h) (by rfl) hHeld ?_ ?_
            rotate_left
            · intro w' hSw
              (try dsimp only at hSw)
              go_simp <;> with_reducible rfl
            (try simp only [Act.put, List.setIfInBounds_toArray, List.set_cons_zero, List.set_cons_succ])
            refine rt5 (v := ?_) (by kernel_rfl) (by kernel_rfl) (by kernel_rfl) (fun _ _ _ h => h) (by rfl) hHeld ?_ ?_
            rotate_left
            · intro w' hSw
              (try dsimp only at hSw)
              go_simp <;> with_reducible rfl
            (try simp only [Act.put, List.setIfInBounds_toArray, List.set_cons_zero, List.set_cons_succ])
            refine rt8 (v := ?_) (by kernel_rfl) (by kernel_rfl) (by kernel_rfl) (fun _ _ _ h => h) (by rfl) hHeld ?_ ?_
            rotate_left
            · intro w' hSw
              (try dsimp only at hSw)
              go_simp <;> with_reducible rfl
            (try simp only [Act.put, List.setIfInBounds_toArray, List.set_cons_zero, List.set_cons_succ])
            refine rc6 (by kernel_rfl) (fun Kq hKq => ?_)
            go_simp
            go_at_call 16
            with_reducible refine (put_any S2 I y _ (by omega) hy256 (by omega)).mono ?_
            rintro e w6 ⟨S3, rfl, hS3, hb6⟩
            have y6 : BlockAt w6 w1.heap.size #[.int .u8 K, .slice (some ⟨g, 0, none⟩) ws.length c] 25 := BlockAt.below (by first | exact x0 | exact x0.drew) hb6
            obtain ⟨a0, a1, _, _⟩ := y6.two
            have v6 := y6.lt
            have hY6 : Below w1.heap.size w1 w6 := (by first | exact below_then hY hY.size hb6 | exact below_then2 hY hY.size hb6)
            have HM6 : Hid (MissAt w6 (.slice pM nL cM) L) := Lib.hid (by first | exact HMA.out.below (Nat.le_refl _) hb6 | exact HMA.out.drew.below (Nat.le_refl _) hb6)
            (try go_wp2_with fail)
            refine hKq.out _ _ ?_ (fun hHeld => ?_)
            · (try dsimp only)
              go_keep
            clear hKq Kq
            (try simp only [Act.put, List.setIfInBounds_toArray, List.set_cons_zero, List.set_cons_succ])
            refine rc7 (by kernel_rfl) (fun Kq hKq => ?_)
            go_simp
            go_at_call 17
            with_reducible refine (passes_any K (ints ws) _ S3 _ (HSY.out _ hY6) (by rw [← tx_len S3, hS3, List.length_set, tx_len]; omega)).mono ?_
            rintro e w7 ⟨rfl, hb7⟩
            rw [hS3, HTx.out, HPT.out]
            have y7 : BlockAt w7 w1.heap.size #[.int .u8 K, .slice (some ⟨g, 0, none⟩) ws.length c] 25 := BlockAt.below (by first | exact y6 | exact y6.drew) hb7
            obtain ⟨a0, a1, _, _⟩ := y7.two
            have v7 := y7.lt
            have hY7 : Below w1.heap.size w1 w7 := (by first | exact below_then hY6 hY6.size hb7 | exact below_then2 hY6 hY6.size hb7)
            have HM7 : Hid (MissAt w7 (.slice pM nL cM) L) := Lib.hid (by first | exact HM6.out.below (Nat.le_refl _) hb7 | exact HM6.out.drew.below (Nat.le_refl _) hb7)
            (try go_wp2_with fail)
            refine hKq.out _ _ ?_ (fun hHeld => ?_)
            · (try dsimp only)
              go_keep
            clear hKq Kq
            (try simp only [Act.put, List.setIfInBounds_toArray, List.set_cons_zero, List.set_cons_succ])
            refine rt9 (v := ?_) (by kernel_rfl) (by kernel_rfl) (by kernel_rfl) (fun _ _ _ h => h) (by rfl) hHeld ?_ ?_
            rotate_left
            · intro w' hSw
              (try dsimp only at hSw)
              go_simp <;> with_reducible rfl
            (try simp only [Act.put, List.setIfInBounds_toArray, List.set_cons_zero, List.set_cons_succ])
            refine rt10 (v := ?_) (by kernel_rfl) (by kernel_rfl) (by kernel_rfl) (fun _ _ _ h => h) (by rfl) hHeld ?_ ?_
            rotate_left
            · intro w' hSw
              (try dsimp only at hSw)
              go_simp <;> with_reducible rfl
            (try simp only [Act.put, List.setIfInBounds_toArray, List.set_cons_zero, List.set_cons_succ])
            refine rt11 (v := ?_) (by kernel_rfl) (by kernel_rfl) (by kernel_rfl) (fun _ _ _ h => h) (by rfl) hHeld ?_ ?_
            rotate_left
            · intro w' hSw
              (try dsimp only at hSw)
              go_simp <;> with_reducible rfl
            (try simp only [Act.put, List.setIfInBounds_toArray, List.set_cons_zero, List.set_cons_succ])
            refine rt12 (v := ?_) (by kernel_rfl) (by kernel_rfl) (by kernel_rfl) (fun _ _ _ h => h) (by rfl) hHeld ?_ ?_
            rotate_left
            · intro w' hSw
              (try dsimp only at hSw)
              go_simp <;> with_reducible rfl
            (try simp only [Act.put, List.setIfInBounds_toArray, List.set_cons_zero, List.set_cons_succ])
            refine rt13 (v := ?_) (by kernel_rfl) (by kernel_rfl) (by kernel_rfl) (fun _ _ _ h => h) (by rfl) hHeld ?_ ?_
            rotate_left
            · intro w' hSw
              (try dsimp only at hSw)
              go_simp <;> with_reducible rfl
            (try simp only [Act.put, List.setIfInBounds_toArray, List.set_cons_zero, List.set_cons_succ])
            refine rt14 (v := ?_) (by kernel_rfl) (by kernel_rfl) (by kernel_rfl) (fun _ _ _ h => h) (by rfl) hHeld ?_ ?_
            rotate_left
            · intro w' hSw
              (try dsimp only at hSw)
              go_simp <;> with_reducible rfl
            (try simp only [Act.put, List.setIfInBounds_toArray, List.set_cons_zero, List.set_cons_succ])
            refine rt15 (v := ?_) (by kernel_rfl) (by kernel_rfl) (by kernel_rfl) (fun _ _ _ h => h) (by rfl) hHeld ?_ ?_
            rotate_left
            · intro w' hSw
              (try dsimp only at hSw)
              go_simp <;> with_reducible rfl
            (try simp only [Act.put, List.setIfInBounds_toArray, List.set_cons_zero, List.set_cons_succ])
            refine rt16 (v := ?_) (by kernel_rfl) (by kernel_rfl) (by kernel_rfl) (fun _ _ _ h => h) (by rfl) hHeld ?_ ?_
            rotate_left
            · intro w' hSw
              (try dsimp only at hSw)
              go_simp <;> with_reducible rfl
            (try simp only [Act.put, List.setIfInBounds_toArray, List.set_cons_zero, List.set_cons_succ])
            refine rt17 (v := ?_) (by kernel_rfl) (by kernel_rfl) (by kernel_rfl) (fun _ _ _ h => h) (by rfl) hHeld ?_ ?_
            rotate_left
            · intro w' hSw
              (try dsimp only at hSw)
              go_simp <;> with_reducible rfl
            (try simp only [Act.put, List.setIfInBounds_toArray, List.set_cons_zero, List.set_cons_succ])
            refine rt18 (v := ?_) (by kernel_rfl) (by kernel_rfl) (by kernel_rfl) (fun _ _ _ h => h) (by rfl) hHeld ?_ ?_
            rotate_left
            · intro w' hSw
              (try dsimp only at hSw)
              go_simp <;> with_reducible rfl
            (try simp only [Act.put, List.setIfInBounds_toArray, List.set_cons_zero, List.set_cons_succ])
            refine rt20 (v := ?_) (by kernel_rfl) (by kernel_rfl) (by kernel_rfl) (fun _ _ _ h => h) (by rfl) hHeld ?_ ?_
            rotate_left
            · intro w' hSw
              (try dsimp only at hSw)
              go_simp <;> with_reducible rfl
            (try simp only [Act.put, List.setIfInBounds_toArray, List.set_cons_zero, List.set_cons_succ])
            refine rc19 (by kernel_rfl) (fun Kq hKq => ?_)
            go_simp
            go_at_call 31
            with_reducible refine (has_any L _ false A a b _ HM7.out HLn.out).mono ?_
            rintro e w8 ⟨rfl, hb8⟩
            rw [HMEM.out]
            have y8 : BlockAt w8 w1.heap.size #[.int .u8 K, .slice (some ⟨g, 0, none⟩) ws.length c] 25 := BlockAt.below (by first | exact y7 | exact y7.drew) hb8
            obtain ⟨a0, a1, _, _⟩ := y8.two
            have v8 := y8.lt
            have hY8 : Below w1.heap.size w1 w8 := (by first | exact below_then hY7 hY7.size hb8 | exact below_then2 hY7 hY7.size hb8)
            have HM8 : Hid (MissAt w8 (.slice pM nL cM) L) := Lib.hid (by first | exact HM7.out.below (Nat.le_refl _) hb8 | exact HM7.out.drew.below (Nat.le_refl _) hb8)
            (try go_wp2_with fail)
            refine hKq.out _ _ ?_ (fun hHeld => ?_)
            · (try dsimp only)
              go_keep
            clear hKq Kq
            (try simp only [Act.put, List.setIfInBounds_toArray, List.set_cons_zero, List.set_cons_succ])
            refine rt21 (v := ?_) (by kernel_rfl) (by kernel_rfl) (by kernel_rfl) (fun _ _ _ h => h) (by rfl) hHeld ?_ ?_
            rotate_left
            · intro w' hSw
              (try dsimp only at hSw)
              go_simp <;> with_reducible rfl
            (try simp only [Act.put, List.setIfInBounds_toArray, List.set_cons_zero, List.set_cons_succ])
            refine rt22 (v := ?_) (by kernel_rfl) (by kernel_rfl) (by kernel_rfl) (fun _ _ _ h => h) (by rfl) hHeld ?_ ?_
            rotate_left
            · intro w' hSw
              (try dsimp only at hSw)
              go_simp <;> with_reducible rfl
            (try simp only [Act.put, List.setIfInBounds_toArray, List.set_cons_zero, List.set_cons_succ])
            refine rt23 (v := ?_) (by kernel_rfl) (by kernel_rfl) (by kernel_rfl) (fun _ _ _ h => h) (by rfl) hHeld ?_ ?_
            rotate_left
            · intro w' hSw
              (try dsimp only at hSw)
              go_simp <;> with_reducible rfl
            (try simp only [Act.put, List.setIfInBounds_toArray, List.set_cons_zero, List.set_cons_succ])
            refine wpAnyH_done (by kernel_rfl) ?_ _
            refine NoPanic.normal ?_
            go_wp2
            go_roundw
            case rel => exact ⟨b + 1, by go_num, by omega, y8, hY8, HM8⟩
            case measure => simp [intOf] <;> omega

      · have hlbi : ¬ (b : Int) < 10 := by omega
        by_cases hlast : A = m
        · have hlasti : (A : Int) = (m : Int) := by omega
          go_wp2_with fail
          refine (dawake_any _ (HSY.out _ hY).tabs).mono ?_
          rintro e w9 ⟨rfl, hb9⟩
          go_wp2
          go_ret
          exact ⟨rfl, (hb1.trans (hY.mono hw1)).trans (hb9.mono (by have := hY.size; omega))⟩
        · have hlasti : ¬ (A : Int) = (m : Int) := by omega
          have hlastb : ((A : Int) == (m : Int)) = false := by rw [beq_eq_false_iff_ne]; exact hlasti
          obtain ⟨J, hJ⟩ : ∃ J, I - 1 = J := ⟨_, rfl⟩
          have hI1 : I = J + 1 := by have := HI.out; omega
          have hwJ : IntKind.i64.wrap ((I : Int) - 1) = (J : Int) := by rw [IntKind.wrap_i64]; omega
          obtain ⟨d2, hd2⟩ : ∃ d2, T[J]? = some d2 := ⟨_, List.getElem?_eq_getElem (by rw [HTn.out]; omega)⟩
          have hdg2 := digit_at HTT.out HPD.out (by rw [Htm.out]; omega) hd2
          have hmS2 : J < S2.size := by omega
          have hci2 : (S2[J]'hmS2).toNat = d2 := by
            have := tx_at S2 J hmS2
            rw [HTx.out, hd2] at this
            exact (Option.some.inj this).symm
          obtain ⟨a2, ha2⟩ : ∃ a2, d2 - 48 = a2 := ⟨_, rfl⟩
          have hcd2 : chVal d2 = a2 := by unfold chVal; rw [if_neg (by omega), ha2]
          have ha29 : a2 ≤ 9 := by omega
          have hwd2 : IntKind.u8.wrap ((d2 : Int) - 48) = (a2 : Int) := by rw [IntKind.wrap_u8]; omega
          have hwa2 : IntKind.i64.wrap (a2 : Int) = (a2 : Int) := by rw [IntKind.wrap_i64]; omega
          obtain ⟨j2, hj2⟩ : ∃ j2, j2 = A % ws.length := ⟨_, rfl⟩
          have hjl2 : j2 < ws.length := by rw [hj2]; exact Nat.mod_lt _ hl1
          obtain ⟨x2, hx2⟩ : ∃ x2, ws[j2]? = some x2 := ⟨_, List.getElem?_eq_getElem hjl2⟩
          have hx210 : x2 ≤ 10 := HLX.out x2 (List.mem_of_getElem? hx2)
          have hwt2 : wt ws (A + 1) = x2 := by rw [wt_at, ← hj2, List.getD_eq_getElem?_getD, hx2]; rfl
          have hcj2 : wr.cell? ⟨g, j2, none⟩ = some (.int .i64 (x2 : Int)) := (hY.cell (p := ⟨g, j2, none⟩) hgl).trans (HC.out j2 x2 hx2)
          have hmod : (A : Int).tmod (ws.length : Int) = (j2 : Int) := by
            rw [Int.tmod_eq_emod_of_nonneg (by omega), hj2]; rfl
          have hmw2 : IntKind.i64.wrap ((A : Int).tmod (ws.length : Int)) = (j2 : Int) := by rw [hmod, IntKind.wrap_i64]; omega
          have hmod2 : (A : Int) % (ws.length : Int) = (j2 : Int) := by
            rw [← hmod, Int.tmod_eq_emod_of_nonneg (by omega)]
          have hlz : ((ws.length : Int) == 0) = false := by rw [beq_eq_false_iff_ne]; omega
          have hjli2 : (j2 : Int) < (ws.length : Int) := by omega
          have hwaa : IntKind.i64.wrap ((a : Int) - (a2 : Int)) = (a : Int) - (a2 : Int) := by rw [IntKind.wrap_i64]; omega
          have hwxx : IntKind.i64.wrap ((x : Int) - (x2 : Int)) = (x : Int) - (x2 : Int) := by rw [IntKind.wrap_i64]; omega
          have hPb := prod_small2 (y := (x : Int) - (x2 : Int)) (a := a) (b := a2) (by omega) (by omega) ha9 ha29
          have htwo := code_two HK3.out ws A a a2
          rw [HWT.out, hwt2, HMK.out] at htwo
          obtain ⟨P, hP⟩ : ∃ P, ((x : Int) - (x2 : Int)) * ((a : Int) - (a2 : Int)) = P := ⟨_, rfl⟩
          rw [hP] at hPb htwo
          have hwP : IntKind.i64.wrap (((x : Int) - (x2 : Int)) * ((a : Int) - (a2 : Int))) = P := by rw [hP, IntKind.wrap_i64]; omega
          have hwPt := tmod_small hPb.1 hPb.2 10
          have hd1 : T[J + 1]? = some d := by rw [← hI1]; exact HD.out
          have hsw := HPa.out.swap HK4.out hd2 hd1 hdg2 hdg
          rw [HTn.out, hcd2, HCD.out, show m + 1 - 2 - J = A from by have := HI.out; omega, missB_swap] at hsw
          have hmem : a ≠ a2 → decide ((true, A, min a a2, max a a2) ∈ L) = missB K ws true A a a2 := fun h => by
            rw [← HL.out]; exact mem_minmax HK4.out h (by omega) (by omega) hA1 (by rw [if_pos rfl]; omega)
          obtain ⟨mb, hmb⟩ : ∃ mb, missB K ws true A a a2 = mb := ⟨_, rfl⟩
          rw [hmb] at htwo hsw hmem
          have HP0 := Lib.hid hP
          have hJ1 : J + 1 < S2.size := by omega
          have HPT := Lib.hid hsw
          have HMM := Lib.hid hmem
          have HD1 := Lib.hid hd1
          have HD2 := Lib.hid hd2
          have HI1 := Lib.hid hI1
          clear hP hPb hsw hmem hmb hd2 hd1 hj2 hx2 hwt2 hJ ha2 hcd2 hI1
          go_upto_region 24 with fail
          go_quiet (fail)
          clear hmod hmw2 hmod2 hcj2
          go_wp2_with fail
          have x0d : BlockAt (wr.drewN nq) w1.heap.size #[.int .u8 K, .slice (some ⟨g, 0, none⟩) ws.length c] 25 := x0
          have hYd := below_drewN hY nq
          have HMAd := Lib.hid (HMA.out.drewN nq)
          obtain ⟨wz, hwz⟩ : ∃ wz, wr.drewN nq = wz := ⟨_, rfl⟩
          rw [hwz] at x0d hYd HMAd ⊢
          clear hwz x0 hY HMA p0 p1 v0
          have x0 := x0d
          have hY := hYd
          have HMA := HMAd
          clear x0d hYd HMAd
          obtain ⟨p0, p1, _, _⟩ := x0.two
          have v0 := x0.lt
          cases mb with
          | true =>
            have hz : P.tmod 10 = 0 := htwo.2 rfl
            clear htwo
            by_cases hab : a = a2
            · subst hab
              go_upto_region 26 with fail
              refine wp_region_noPanic ?_
              refine wp_region_held_drew (S := (fun w' => w'.cell? ⟨w1.heap.size, 0, none⟩ = some (.int .u8 K) ∧ w'.cell? ⟨w1.heap.size, 1, none⟩ = some (.slice (some ⟨g, 0, none⟩) ws.length c))) (by kernel_rfl) ?_ (fun hHeld => ?_)
              · (try dsimp only)
                go_keep
              refine rt0 (v := ?_) (by kernel_rfl) (by kernel_rfl) (by kernel_rfl) (fun _ _ _ h => h) (by rfl) hHeld ?_ ?_
              rotate_left
              · intro w' hSw
                (try dsimp only at hSw)
                go_simp <;> with_reducible rfl
              (try simp only [Act.put, List.setIfInBounds_toArray, List.set_cons_zero, List.set_cons_succ])
              refine rt1 (v := ?_) (by kernel_rfl) (by kernel_rfl) (by kernel_rfl) (fun _ _ _ h => h) (by rfl) hHeld ?_ ?_
              rotate_left
              · intro w' hSw
                (try dsimp only at hSw)
                go_simp <;> with_reducible rfl
              (try simp only [Act.put, List.setIfInBounds_toArray, List.set_cons_zero, List.set_cons_succ])
              refine rt2 (v := ?_) (by kernel_rfl) (by kernel_rfl) (by kernel_rfl) (fun _ _ _ h => h) (by rfl) hHeld ?_ ?_
              rotate_left
              · intro w' hSw
                (try dsimp only at hSw)
                go_simp <;> with_reducible rfl
              (try simp only [Act.put, List.setIfInBounds_toArray, List.set_cons_zero, List.set_cons_succ])
              refine rt3 (v := ?_) (by kernel_rfl) (by kernel_rfl) (by kernel_rfl) (fun _ _ _ h => h) (by rfl) hHeld ?_ ?_
              rotate_left
              · intro w' hSw
                (try dsimp only at hSw)
                go_simp <;> with_reducible rfl
              (try simp only [Act.put, List.setIfInBounds_toArray, List.set_cons_zero, List.set_cons_succ])
              refine rt6 (v := ?_) (by kernel_rfl) (by kernel_rfl) (by kernel_rfl) (fun _ _ _ h => h) (by rfl) hHeld ?_ ?_
              rotate_left
              · intro w' hSw
                (try dsimp only at hSw)
                go_simp <;> with_reducible rfl
              (try simp only [Act.put, List.setIfInBounds_toArray, List.set_cons_zero, List.set_cons_succ])
              refine rc4 (by kernel_rfl) (fun Kq hKq => ?_)
              go_simp
              go_at_call 29
              with_reducible refine (exch_any S2 J _ hJ1 (by omega) (by rw [HTx.out]; exact HD2.out) (by rw [HTx.out]; exact HD1.out)).mono ?_
              rintro e w6 ⟨S3, rfl, hS3, hb6⟩
              have y6 : BlockAt w6 w1.heap.size #[.int .u8 K, .slice (some ⟨g, 0, none⟩) ws.length c] 25 := BlockAt.below (by first | exact x0 | exact x0.drew) hb6
              obtain ⟨a0, a1, _, _⟩ := y6.two
              have v6 := y6.lt
              have hY6 : Below w1.heap.size w1 w6 := (by first | exact below_then hY hY.size hb6 | exact below_then2 hY hY.size hb6)
              have HM6 : Hid (MissAt w6 (.slice pM nL cM) L) := Lib.hid (by first | exact HMA.out.below (Nat.le_refl _) hb6 | exact HMA.out.drew.below (Nat.le_refl _) hb6)
              (try go_wp2_with fail)
              refine hKq.out _ _ ?_ (fun hHeld => ?_)
              · (try dsimp only)
                go_keep
              clear hKq Kq
              (try simp only [Act.put, List.setIfInBounds_toArray, List.set_cons_zero, List.set_cons_succ])
              refine rc5 (by kernel_rfl) (fun Kq hKq => ?_)
              go_simp
              go_at_call 17
              with_reducible refine (passes_any K (ints ws) _ S3 _ (HSY.out _ hY6) (by rw [← tx_len S3, hS3, swp_len, tx_len]; omega)).mono ?_
              rintro e w7 ⟨rfl, hb7⟩
              rw [hS3, HTx.out, HPT.out]
              have y7 : BlockAt w7 w1.heap.size #[.int .u8 K, .slice (some ⟨g, 0, none⟩) ws.length c] 25 := BlockAt.below (by first | exact y6 | exact y6.drew) hb7
              obtain ⟨a0, a1, _, _⟩ := y7.two
              have v7 := y7.lt
              have hY7 : Below w1.heap.size w1 w7 := (by first | exact below_then hY6 hY6.size hb7 | exact below_then2 hY6 hY6.size hb7)
              have HM7 : Hid (MissAt w7 (.slice pM nL cM) L) := Lib.hid (by first | exact HM6.out.below (Nat.le_refl _) hb7 | exact HM6.out.drew.below (Nat.le_refl _) hb7)
              (try go_wp2_with fail)
              refine hKq.out _ _ ?_ (fun hHeld => ?_)
              · (try dsimp only)
                go_keep
              clear hKq Kq
              (try simp only [Act.put, List.setIfInBounds_toArray, List.set_cons_zero, List.set_cons_succ])
              refine rt7 (v := ?_) (by kernel_rfl) (by kernel_rfl) (by kernel_rfl) (fun _ _ _ h => h) (by rfl) hHeld ?_ ?_
              rotate_left
              · intro w' hSw
                (try dsimp only at hSw)
                go_simp <;> with_reducible rfl
              (try simp only [Act.put, List.setIfInBounds_toArray, List.set_cons_zero, List.set_cons_succ])
              refine rt8 (v := ?_) (by kernel_rfl) (by kernel_rfl) (by kernel_rfl) (fun _ _ _ h => h) (by rfl) hHeld ?_ ?_
              rotate_left
              · intro w' hSw
                (try dsimp only at hSw)
                go_simp <;> with_reducible rfl
              (try simp only [Act.put, List.setIfInBounds_toArray, List.set_cons_zero, List.set_cons_succ])
              refine rt9 (v := ?_) (by kernel_rfl) (by kernel_rfl) (by kernel_rfl) (fun _ _ _ h => h) (by rfl) hHeld ?_ ?_
              rotate_left
              · intro w' hSw
                (try dsimp only at hSw)
                go_simp <;> with_reducible rfl
              (try simp only [Act.put, List.setIfInBounds_toArray, List.set_cons_zero, List.set_cons_succ])
              refine rt10 (v := ?_) (by kernel_rfl) (by kernel_rfl) (by kernel_rfl) (fun _ _ _ h => h) (by rfl) hHeld ?_ ?_
              rotate_left
              · intro w' hSw
                (try dsimp only at hSw)
                go_simp <;> with_reducible rfl
              (try simp only [Act.put, List.setIfInBounds_toArray, List.set_cons_zero, List.set_cons_succ])
              refine rt11 (v := ?_) (by kernel_rfl) (by kernel_rfl) (by kernel_rfl) (fun _ _ _ h => h) (by rfl) hHeld ?_ ?_
              rotate_left
              · intro w' hSw
                (try dsimp only at hSw)
                go_simp <;> with_reducible rfl
              (try simp only [Act.put, List.setIfInBounds_toArray, List.set_cons_zero, List.set_cons_succ])
              refine rt12 (v := ?_) (by kernel_rfl) (by kernel_rfl) (by kernel_rfl) (fun _ _ _ h => h) (by rfl) hHeld ?_ ?_
              rotate_left
              · intro w' hSw
                (try dsimp only at hSw)
                go_simp <;> with_reducible rfl
              (try simp only [Act.put, List.setIfInBounds_toArray, List.set_cons_zero, List.set_cons_succ])
              refine rs13 (by kernel_rfl) (by kernel_rfl) (by kernel_rfl) (fun _ _ _ h => h) (by rfl) hHeld ?_
              (try simp only [Act.put, List.setIfInBounds_toArray, List.set_cons_zero, List.set_cons_succ])
              refine rs14 (by kernel_rfl) (by kernel_rfl) (by kernel_rfl) (fun _ _ _ h => h) (by rfl) hHeld ?_
              (try simp only [Act.put, List.setIfInBounds_toArray, List.set_cons_zero, List.set_cons_succ])
              refine rs15 (by kernel_rfl) (by kernel_rfl) (by kernel_rfl) (fun _ _ _ h => h) (by rfl) hHeld ?_
              (try simp only [Act.put, List.setIfInBounds_toArray, List.set_cons_zero, List.set_cons_succ])
              refine rs16 (by kernel_rfl) (by kernel_rfl) (by kernel_rfl) (fun _ _ _ h => h) (by rfl) hHeld ?_
              (try simp only [Act.put, List.setIfInBounds_toArray, List.set_cons_zero, List.set_cons_succ])
              refine rs17 (by kernel_rfl) (by kernel_rfl) (by kernel_rfl) (fun _ _ _ h => h) (by rfl) hHeld ?_
              (try simp only [Act.put, List.setIfInBounds_toArray, List.set_cons_zero, List.set_cons_succ])
              refine rs18 (by kernel_rfl) (by kernel_rfl) (by kernel_rfl) (fun _ _ _ h => h) (by rfl) hHeld ?_
              (try simp only [Act.put, List.setIfInBounds_toArray, List.set_cons_zero, List.set_cons_succ])
              refine rs19 (by kernel_rfl) (by kernel_rfl) (by kernel_rfl) (fun _ _ _ h => h) (by rfl) hHeld ?_
              (try simp only [Act.put, List.setIfInBounds_toArray, List.set_cons_zero, List.set_cons_succ])
              refine rt20 (v := ?_) (by kernel_rfl) (by kernel_rfl) (by kernel_rfl) (fun _ _ _ h => h) (by rfl) hHeld ?_ ?_
              rotate_left
              · intro w' hSw
                (try dsimp only at hSw)
                go_simp <;> with_reducible rfl
              (try simp only [Act.put, List.setIfInBounds_toArray, List.set_cons_zero, List.set_cons_succ])
              refine rt21 (v := ?_) (by kernel_rfl) (by kernel_rfl) (by kernel_rfl) (fun _ _ _ h => h) (by rfl) hHeld ?_ ?_
              rotate_left
              · intro w' hSw
                (try dsimp only at hSw)
                go_simp <;> with_reducible rfl
              (try simp only [Act.put, List.setIfInBounds_toArray, List.set_cons_zero, List.set_cons_succ])
              refine wpAnyH_done (by kernel_rfl) ?_ _
              refine NoPanic.normal ?_
              go_wp2
              go_roundw
              case rel => exact ⟨A + 1, by go_num, by omega, by omega, y7, hY7, HM7⟩
              case measure => simp [intOf] <;> omega
            · have habi : ¬ (a : Int) = (a2 : Int) := by omega
              have habb : ((a : Int) == (a2 : Int)) = false := by rw [beq_eq_false_iff_ne]; exact habi
              have habc : ((a : Int) != (a2 : Int)) = true := by rw [bne_iff_ne]; exact habi
              have HMEM := Lib.hid (HMM.out hab)
              clear hab
              go_upto_region 26 with fail
              refine wp_region_noPanic ?_
              refine wp_region_held_drew (S := (fun w' => w'.cell? ⟨w1.heap.size, 0, none⟩ = some (.int .u8 K) ∧ w'.cell? ⟨w1.heap.size, 1, none⟩ = some (.slice (some ⟨g, 0, none⟩) ws.length c))) (by kernel_rfl) ?_ (fun hHeld => ?_)
              · (try dsimp only)
                go_keep
              refine rt0 (v := ?_) (by kernel_rfl) (by kernel_rfl) (by kernel_rfl) (fun _ _ _ h => h) (by rfl) hHeld ?_ ?_
              rotate_left
              · intro w' hSw
                (try dsimp only at hSw)
                go_simp <;> with_reducible rfl
              (try simp only [Act.put, List.setIfInBounds_toArray, List.set_cons_zero, List.set_cons_succ])
              refine rt1 (v := ?_) (by kernel_rfl) (by kernel_rfl) (by kernel_rfl) (fun _ _ _ h => h) (by rfl) hHeld ?_ ?_
              rotate_left
              · intro w' hSw
                (try dsimp only at hSw)
                go_simp <;> with_reducible rfl
              (try simp only [Act.put, List.setIfInBounds_toArray, List.set_cons_zero, List.set_cons_succ])
              refine rt2 (v := ?_) (by kernel_rfl) (by kernel_rfl) (by kernel_rfl) (fun _ _ _ h => h) (by rfl) hHeld ?_ ?_
              rotate_left
              · intro w' hSw
                (try dsimp only at hSw)
                go_simp <;> with_reducible rfl
              (try simp only [Act.put, List.setIfInBounds_toArray, List.set_cons_zero, List.set_cons_succ])
              refine rt3 (v := ?_) (by kernel_rfl) (by kernel_rfl) (by kernel_rfl) (fun _ _ _ h => h) (by rfl) hHeld ?_ ?_
              rotate_left
              · intro w' hSw
                (try dsimp only at hSw)
                go_simp <;> with_reducible rfl
              (try simp only [Act.put, List.setIfInBounds_toArray, List.set_cons_zero, List.set_cons_succ])
              refine rt6 (v := ?_) (by kernel_rfl) (by kernel_rfl) (by kernel_rfl) (fun _ _ _ h => h) (by rfl) hHeld ?_ ?_
              rotate_left
              · intro w' hSw
                (try dsimp only at hSw)
                go_simp <;> with_reducible rfl
              (try simp only [Act.put, List.setIfInBounds_toArray, List.set_cons_zero, List.set_cons_succ])
              refine rc4 (by kernel_rfl) (fun Kq hKq => ?_)
              go_simp
              go_at_call 29
              with_reducible refine (exch_any S2 J _ hJ1 (by omega) (by rw [HTx.out]; exact HD2.out) (by rw [HTx.out]; exact HD1.out)).mono ?_
              rintro e w6 ⟨S3, rfl, hS3, hb6⟩
              have y6 : BlockAt w6 w1.heap.size #[.int .u8 K, .slice (some ⟨g, 0, none⟩) ws.length c] 25 := BlockAt.below (by first | exact x0 | exact x0.drew) hb6
              obtain ⟨a0, a1, _, _⟩ := y6.two
              have v6 := y6.lt
              have hY6 : Below w1.heap.size w1 w6 := (by first | exact below_then hY hY.size hb6 | exact below_then2 hY hY.size hb6)
              have HM6 : Hid (MissAt w6 (.slice pM nL cM) L) := Lib.hid (by first | exact HMA.out.below (Nat.le_refl _) hb6 | exact HMA.out.drew.below (Nat.le_refl _) hb6)
              (try go_wp2_with fail)
              refine hKq.out _ _ ?_ (fun hHeld => ?_)
              · (try dsimp only)
                go_keep
              clear hKq Kq
              (try simp only [Act.put, List.setIfInBounds_toArray, List.set_cons_zero, List.set_cons_succ])
              refine rc5 (by kernel_rfl) (fun Kq hKq => ?_)
              go_simp
              go_at_call 17
              with_reducible refine (passes_any K (ints ws) _ S3 _ (HSY.out _ hY6) (by rw [← tx_len S3, hS3, swp_len, tx_len]; omega)).mono ?_
              rintro e w7 ⟨rfl, hb7⟩
              rw [hS3, HTx.out, HPT.out]
              have y7 : BlockAt w7 w1.heap.size #[.int .u8 K, .slice (some ⟨g, 0, none⟩) ws.length c] 25 := BlockAt.below (by first | exact y6 | exact y6.drew) hb7
              obtain ⟨a0, a1, _, _⟩ := y7.two
              have v7 := y7.lt
              have hY7 : Below w1.heap.size w1 w7 := (by first | exact below_then hY6 hY6.size hb7 | exact below_then2 hY6 hY6.size hb7)
              have HM7 : Hid (MissAt w7 (.slice pM nL cM) L) := Lib.hid (by first | exact HM6.out.below (Nat.le_refl _) hb7 | exact HM6.out.drew.below (Nat.le_refl _) hb7)
              (try go_wp2_with fail)
              refine hKq.out _ _ ?_ (fun hHeld => ?_)
              · (try dsimp only)
                go_keep
              clear hKq Kq
              (try simp only [Act.put, List.setIfInBounds_toArray, List.set_cons_zero, List.set_cons_succ])
              refine rt7 (v := ?_) (by kernel_rfl) (by kernel_rfl) (by kernel_rfl) (fun _ _ _ h => h) (by rfl) hHeld ?_ ?_
              rotate_left
              · intro w' hSw
                (try dsimp only at hSw)
                go_simp <;> with_reducible rfl
              (try simp only [Act.put, List.setIfInBounds_toArray, List.set_cons_zero, List.set_cons_succ])
              refine rt8 (v := ?_) (by kernel_rfl) (by kernel_rfl) (by kernel_rfl) (fun _ _ _ h => h) (by rfl) hHeld ?_ ?_
              rotate_left
              · intro w' hSw
                (try dsimp only at hSw)
                go_simp <;> with_reducible rfl
              (try simp only [Act.put, List.setIfInBounds_toArray, List.set_cons_zero, List.set_cons_succ])
              refine rt9 (v := ?_) (by kernel_rfl) (by kernel_rfl) (by kernel_rfl) (fun _ _ _ h => h) (by rfl) hHeld ?_ ?_
              rotate_left
              · intro w' hSw
                (try dsimp only at hSw)
                go_simp <;> with_reducible rfl
              (try simp only [Act.put, List.setIfInBounds_toArray, List.set_cons_zero, List.set_cons_succ])
              refine rt10 (v := ?_) (by kernel_rfl) (by kernel_rfl) (by kernel_rfl) (fun _ _ _ h => h) (by rfl) hHeld ?_ ?_
              rotate_left
              · intro w' hSw
                (try dsimp only at hSw)
                go_simp <;> with_reducible rfl
              (try simp only [Act.put, List.setIfInBounds_toArray, List.set_cons_zero, List.set_cons_succ])
              refine rt11 (v := ?_) (by kernel_rfl) (by kernel_rfl) (by kernel_rfl) (fun _ _ _ h => h) (by rfl) hHeld ?_ ?_
              rotate_left
              · intro w' hSw
                (try dsimp only at hSw)
                go_simp <;> with_reducible rfl
              (try simp only [Act.put, List.setIfInBounds_toArray, List.set_cons_zero, List.set_cons_succ])
              refine rt12 (v := ?_) (by kernel_rfl) (by kernel_rfl) (by kernel_rfl) (fun _ _ _ h => h) (by rfl) hHeld ?_ ?_
              rotate_left
              · intro w' hSw
                (try dsimp only at hSw)
                go_simp <;> with_reducible rfl
              (try simp only [Act.put, List.setIfInBounds_toArray, List.set_cons_zero, List.set_cons_succ])
              refine rt13 (v := ?_) (by kernel_rfl) (by kernel_rfl) (by kernel_rfl) (fun _ _ _ h => h) (by rfl) hHeld ?_ ?_
              rotate_left
              · intro w' hSw
                (try dsimp only at hSw)
                go_simp <;> with_reducible rfl
              (try simp only [Act.put, List.setIfInBounds_toArray, List.set_cons_zero, List.set_cons_succ])
              refine rt14 (v := ?_) (by kernel_rfl) (by kernel_rfl) (by kernel_rfl) (fun _ _ _ h => h) (by rfl) hHeld ?_ ?_
              rotate_left
              · intro w' hSw
                (try dsimp only at hSw)
                go_simp <;> with_reducible rfl
              (try simp only [Act.put, List.setIfInBounds_toArray, List.set_cons_zero, List.set_cons_succ])
              refine rt15 (v := ?_) (by kernel_rfl) (by kernel_rfl) (by kernel_rfl) (fun _ _ _ h => h) (by rfl) hHeld ?_ ?_
              rotate_left
              · intro w' hSw
                (try dsimp only at hSw)
                go_simp <;> with_reducible rfl
              (try simp only [Act.put, List.setIfInBounds_toArray, List.set_cons_zero, List.set_cons_succ])
              refine rt16 (v := ?_) (by kernel_rfl) (by kernel_rfl) (by kernel_rfl) (fun _ _ _ h => h) (by rfl) hHeld ?_ ?_
              rotate_left
              · intro w' hSw
                (try dsimp only at hSw)
                go_simp <;> with_reducible rfl
              (try simp only [Act.put, List.setIfInBounds_toArray, List.set_cons_zero, List.set_cons_succ])
              refine rt18 (v := ?_) (by kernel_rfl) (by kernel_rfl) (by kernel_rfl) (fun _ _ _ h => h) (by rfl) hHeld ?_ ?_
              rotate_left
              · intro w' hSw
                (try dsimp only at hSw)
                go_simp <;> with_reducible rfl
              (try simp only [Act.put, List.setIfInBounds_toArray, List.set_cons_zero, List.set_cons_succ])
              refine rc17 (by kernel_rfl) (fun Kq hKq => ?_)
              go_simp
              go_at_call 31
              with_reducible refine (has_any L _ true A a a2 _ HM7.out HLn.out).mono ?_
              rintro e w8 ⟨rfl, hb8⟩
              rw [HMEM.out]
              have y8 : BlockAt w8 w1.heap.size #[.int .u8 K, .slice (some ⟨g, 0, none⟩) ws.length c] 25 := BlockAt.below (by first | exact y7 | exact y7.drew) hb8
              obtain ⟨a0, a1, _, _⟩ := y8.two
              have v8 := y8.lt
              have hY8 : Below w1.heap.size w1 w8 := (by first | exact below_then hY7 hY7.size hb8 | exact below_then2 hY7 hY7.size hb8)
              have HM8 : Hid (MissAt w8 (.slice pM nL cM) L) := Lib.hid (by first | exact HM7.out.below (Nat.le_refl _) hb8 | exact HM7.out.drew.below (Nat.le_refl _) hb8)
              (try go_wp2_with fail)
              refine hKq.out _ _ ?_ (fun hHeld => ?_)
              · (try dsimp only)
                go_keep
              clear hKq Kq
              (try simp only [Act.put, List.setIfInBounds_toArray, List.set_cons_zero, List.set_cons_succ])
              refine rt19 (v := ?_) (by kernel_rfl) (by kernel_rfl) (by kernel_rfl) (fun _ _ _ h => h) (by rfl) hHeld ?_ ?_
              rotate_left
              · intro w' hSw
                (try dsimp only at hSw)
                go_simp <;> with_reducible rfl
              (try simp only [Act.put, List.setIfInBounds_toArray, List.set_cons_zero, List.set_cons_succ])
              refine rt20 (v := ?_) (by kernel_rfl) (by kernel_rfl) (by kernel_rfl) (fun _ _ _ h => h) (by rfl) hHeld ?_ ?_
              rotate_left
              · intro w' hSw
                (try dsimp only at hSw)
                go_simp <;> with_reducible rfl
              (try simp only [Act.put, List.setIfInBounds_toArray, List.set_cons_zero, List.set_cons_succ])
              refine rt21 (v := ?_) (by kernel_rfl) (by kernel_rfl) (by kernel_rfl) (fun _ _ _ h => h) (by rfl) hHeld ?_ ?_
              rotate_left
              · intro w' hSw
                (try dsimp only at hSw)
                go_simp <;> with_reducible rfl
              (try simp only [Act.put, List.setIfInBounds_toArray, List.set_cons_zero, List.set_cons_succ])
              refine wpAnyH_done (by kernel_rfl) ?_ _
              refine NoPanic.normal ?_
              go_wp2
              go_roundw
              case rel => exact ⟨A + 1, by go_num, by omega, by omega, y8, hY8, HM8⟩
              case measure => simp [intOf] <;> omega

          | false =>
            have hz : ¬ P.tmod 10 = 0 := fun e => by have := htwo.1 e; cases this
            have hz2 : (P.tmod 10 == 0) = false := by rw [beq_eq_false_iff_ne]; exact hz
            clear htwo
            by_cases hab : a = a2
            · exact absurd (by rw [← HP0.out, hab, Int.sub_self, Int.mul_zero]; rfl) hz
            · have habi : ¬ (a : Int) = (a2 : Int) := by omega
              have habb : ((a : Int) == (a2 : Int)) = false := by rw [beq_eq_false_iff_ne]; exact habi
              have habc : ((a : Int) != (a2 : Int)) = true := by rw [bne_iff_ne]; exact habi
              have HMEM := Lib.hid (HMM.out hab)
              clear hab
              go_upto_region 26 with fail
              refine wp_region_noPanic ?_
              refine wp_region_held_drew (S := (fun w' => w'.cell? ⟨w1.heap.size, 0, none⟩ = some (.int .u8 K) ∧ w'.cell? ⟨w1.heap.size, 1, none⟩ = some (.slice (some ⟨g, 0, none⟩) ws.length c))) (by kernel_rfl) ?_ (fun hHeld => ?_)
              · (try dsimp only)
                go_keep
              refine rt0 (v := ?_) (by kernel_rfl) (by kernel_rfl) (by kernel_rfl) (fun _ _ _ h => h) (by rfl) hHeld ?_ ?_
              rotate_left
              · intro w' hSw
                (try dsimp only at hSw)
                go_simp <;> with_reducible rfl
              (try simp only [Act.put, List.setIfInBounds_toArray, List.set_cons_zero, List.set_cons_succ])
              refine rt1 (v := ?_) (by kernel_rfl) (by kernel_rfl) (by kernel_rfl) (fun _ _ _ h => h) (by rfl) hHeld ?_ ?_
              rotate_left
              · intro w' hSw
                (try dsimp only at hSw)
                go_simp <;> with_reducible rfl
              (try simp only [Act.put, List.setIfInBounds_toArray, List.set_cons_zero, List.set_cons_succ])
              refine rt2 (v := ?_) (by kernel_rfl) (by kernel_rfl) (by kernel_rfl) (fun _ _ _ h => h) (by rfl) hHeld ?_ ?_
              rotate_left
              · intro w' hSw
                (try dsimp only at hSw)
                go_simp <;> with_reducible rfl
              (try simp only [Act.put, List.setIfInBounds_toArray, List.set_cons_zero, List.set_cons_succ])
              refine rt3 (v := ?_) (by kernel_rfl) (by kernel_rfl) (by kernel_rfl) (fun _ _ _ h => h) (by rfl) hHeld ?_ ?_
              rotate_left
              · intro w' hSw
                (try dsimp only at hSw)
                go_simp <;> with_reducible rfl
              (try simp only [Act.put, List.setIfInBounds_toArray, List.set_cons_zero, List.set_cons_succ])
              refine rt6 (v := ?_) (by kernel_rfl) (by kernel_rfl) (by kernel_rfl) (fun _ _ _ h => h) (by rfl) hHeld ?_ ?_
              rotate_left
              · intro w' hSw
                (try dsimp only at hSw)
                go_simp <;> with_reducible rfl
              (try simp only [Act.put, List.setIfInBounds_toArray, List.set_cons_zero, List.set_cons_succ])
              refine rc4 (by kernel_rfl) (fun Kq hKq => ?_)
              go_simp
              go_at_call 29
              with_reducible refine (exch_any S2 J _ hJ1 (by omega) (by rw [HTx.out]; exact HD2.out) (by rw [HTx.out]; exact HD1.out)).mono ?_
              rintro e w6 ⟨S3, rfl, hS3, hb6⟩
              have y6 : BlockAt w6 w1.heap.size #[.int .u8 K, .slice (some ⟨g, 0, none⟩) ws.length c] 25 := BlockAt.below (by first | exact x0 | exact x0.drew) hb6
              obtain ⟨a0, a1, _, _⟩ := y6.two
              have v6 := y6.lt
              have hY6 : Below w1.heap.size w1 w6 := (by first | exact below_then hY hY.size hb6 | exact below_then2 hY hY.size hb6)
              have HM6 : Hid (MissAt w6 (.slice pM nL cM) L) := Lib.hid (by first | exact HMA.out.below (Nat.le_refl _) hb6 | exact HMA.out.drew.below (Nat.le_refl _) hb6)
              (try go_wp2_with fail)
              refine hKq.out _ _ ?_ (fun hHeld => ?_)
              · (try dsimp only)
                go_keep
              clear hKq Kq
              (try simp only [Act.put, List.setIfInBounds_toArray, List.set_cons_zero, List.set_cons_succ])
              refine rc5 (by kernel_rfl) (fun Kq hKq => ?_)
              go_simp
              go_at_call 17
              with_reducible refine (passes_any K (ints ws) _ S3 _ (HSY.out _ hY6) (by rw [← tx_len S3, hS3, swp_len, tx_len]; omega)).mono ?_
              rintro e w7 ⟨rfl, hb7⟩
              rw [hS3, HTx.out, HPT.out]
              have y7 : BlockAt w7 w1.heap.size #[.int .u8 K, .slice (some ⟨g, 0, none⟩) ws.length c] 25 := BlockAt.below (by first | exact y6 | exact y6.drew) hb7
              obtain ⟨a0, a1, _, _⟩ := y7.two
              have v7 := y7.lt
              have hY7 : Below w1.heap.size w1 w7 := (by first | exact below_then hY6 hY6.size hb7 | exact below_then2 hY6 hY6.size hb7)
              have HM7 : Hid (MissAt w7 (.slice pM nL cM) L) := Lib.hid (by first | exact HM6.out.below (Nat.le_refl _) hb7 | exact HM6.out.drew.below (Nat.le_refl _) hb7)
              (try go_wp2_with fail)
              refine hKq.out _ _ ?_ (fun hHeld => ?_)
              · (try dsimp only)
                go_keep
              clear hKq Kq
              (try simp only [Act.put, List.setIfInBounds_toArray, List.set_cons_zero, List.set_cons_succ])
              refine rt7 (v := ?_) (by kernel_rfl) (by kernel_rfl) (by kernel_rfl) (fun _ _ _ h => h) (by rfl) hHeld ?_ ?_
              rotate_left
              · intro w' hSw
                (try dsimp only at hSw)
                go_simp <;> with_reducible rfl
              (try simp only [Act.put, List.setIfInBounds_toArray, List.set_cons_zero, List.set_cons_succ])
              refine rt8 (v := ?_) (by kernel_rfl) (by kernel_rfl) (by kernel_rfl) (fun _ _ _ h => h) (by rfl) hHeld ?_ ?_
              rotate_left
              · intro w' hSw
                (try dsimp only at hSw)
                go_simp <;> with_reducible rfl
              (try simp only [Act.put, List.setIfInBounds_toArray, List.set_cons_zero, List.set_cons_succ])
              refine rt9 (v := ?_) (by kernel_rfl) (by kernel_rfl) (by kernel_rfl) (fun _ _ _ h => h) (by rfl) hHeld ?_ ?_
              rotate_left
              · intro w' hSw
                (try dsimp only at hSw)
                go_simp <;> with_reducible rfl
              (try simp only [Act.put, List.setIfInBounds_toArray, List.set_cons_zero, List.set_cons_succ])
              refine rt10 (v := ?_) (by kernel_rfl) (by kernel_rfl) (by kernel_rfl) (fun _ _ _ h => h) (by rfl) hHeld ?_ ?_
              rotate_left
              · intro w' hSw
                (try dsimp only at hSw)
                go_simp <;> with_reducible rfl
              (try simp only [Act.put, List.setIfInBounds_toArray, List.set_cons_zero, List.set_cons_succ])
              refine rt11 (v := ?_) (by kernel_rfl) (by kernel_rfl) (by kernel_rfl) (fun _ _ _ h => h) (by rfl) hHeld ?_ ?_
              rotate_left
              · intro w' hSw
                (try dsimp only at hSw)
                go_simp <;> with_reducible rfl
              (try simp only [Act.put, List.setIfInBounds_toArray, List.set_cons_zero, List.set_cons_succ])
              refine rt12 (v := ?_) (by kernel_rfl) (by kernel_rfl) (by kernel_rfl) (fun _ _ _ h => h) (by rfl) hHeld ?_ ?_
              rotate_left
              · intro w' hSw
                (try dsimp only at hSw)
                go_simp <;> with_reducible rfl
              (try simp only [Act.put, List.setIfInBounds_toArray, List.set_cons_zero, List.set_cons_succ])
              refine rt13 (v := ?_) (by kernel_rfl) (by kernel_rfl) (by kernel_rfl) (fun _ _ _ h => h) (by rfl) hHeld ?_ ?_
              rotate_left
              · intro w' hSw
                (try dsimp only at hSw)
                go_simp <;> with_reducible rfl
              (try simp only [Act.put, List.setIfInBounds_toArray, List.set_cons_zero, List.set_cons_succ])
              refine rt14 (v := ?_) (by kernel_rfl) (by kernel_rfl) (by kernel_rfl) (fun _ _ _ h => h) (by rfl) hHeld ?_ ?_
              rotate_left
              · intro w' hSw
                (try dsimp only at hSw)
                go_simp <;> with_reducible rfl
              (try simp only [Act.put, List.setIfInBounds_toArray, List.set_cons_zero, List.set_cons_succ])
              refine rt15 (v := ?_) (by kernel_rfl) (by kernel_rfl) (by kernel_rfl) (fun _ _ _ h => h) (by rfl) hHeld ?_ ?_
              rotate_left
              · intro w' hSw
                (try dsimp only at hSw)
                go_simp <;> with_reducible rfl
              (try simp only [Act.put, List.setIfInBounds_toArray, List.set_cons_zero, List.set_cons_succ])
              refine rt16 (v := ?_) (by kernel_rfl) (by kernel_rfl) (by kernel_rfl) (fun _ _ _ h => h) (by rfl) hHeld ?_ ?_
              rotate_left
              · intro w' hSw
                (try dsimp only at hSw)
                go_simp <;> with_reducible rfl
              (try simp only [Act.put, List.setIfInBounds_toArray, List.set_cons_zero, List.set_cons_succ])
              refine rt18 (v := ?_) (by kernel_rfl) (by kernel_rfl) (by kernel_rfl) (fun _ _ _ h => h) (by rfl) hHeld ?_ ?_
              rotate_left
              · intro w' hSw
                (try dsimp only at hSw)
                go_simp <;> with_reducible rfl
              (try simp only [Act.put, List.setIfInBounds_toArray, List.set_cons_zero, List.set_cons_succ])
              refine rc17 (by kernel_rfl) (fun Kq hKq => ?_)
              go_simp
              go_at_call 31
              with_reducible refine (has_any L _ true A a a2 _ HM7.out HLn.out).mono ?_
              rintro e w8 ⟨rfl, hb8⟩
              rw [HMEM.out]
              have y8 : BlockAt w8 w1.heap.size #[.int .u8 K, .slice (some ⟨g, 0, none⟩) ws.length c] 25 := BlockAt.below (by first | exact y7 | exact y7.drew) hb8
              obtain ⟨a0, a1, _, _⟩ := y8.two
              have v8 := y8.lt
              have hY8 : Below w1.heap.size w1 w8 := (by first | exact below_then hY7 hY7.size hb8 | exact below_then2 hY7 hY7.size hb8)
              have HM8 : Hid (MissAt w8 (.slice pM nL cM) L) := Lib.hid (by first | exact HM7.out.below (Nat.le_refl _) hb8 | exact HM7.out.drew.below (Nat.le_refl _) hb8)
              (try go_wp2_with fail)
              refine hKq.out _ _ ?_ (fun hHeld => ?_)
              · (try dsimp only)
                go_keep
              clear hKq Kq
              (try simp only [Act.put, List.setIfInBounds_toArray, List.set_cons_zero, List.set_cons_succ])
              refine rt19 (v := ?_) (by kernel_rfl) (by kernel_rfl) (by kernel_rfl) (fun _ _ _ h => h) (by rfl) hHeld ?_ ?_
              rotate_left
              · intro w' hSw
                (try dsimp only at hSw)
                go_simp <;> with_reducible rfl
              (try simp only [Act.put, List.setIfInBounds_toArray, List.set_cons_zero, List.set_cons_succ])
              refine rt20 (v := ?_) (by kernel_rfl) (by kernel_rfl) (by kernel_rfl) (fun _ _ _ h => h) (by rfl) hHeld ?_ ?_
              rotate_left
              · intro w' hSw
                (try dsimp only at hSw)
                go_simp <;> with_reducible rfl
              (try simp only [Act.put, List.setIfInBounds_toArray, List.set_cons_zero, List.set_cons_succ])
              refine rt21 (v := ?_) (by kernel_rfl) (by kernel_rfl) (by kernel_rfl) (fun _ _ _ h => h) (by rfl) hHeld ?_ ?_
              rotate_left
              · intro w' hSw
                (try dsimp only at hSw)
                go_simp <;> with_reducible rfl
              (try simp only [Act.put, List.setIfInBounds_toArray, List.set_cons_zero, List.set_cons_succ])
              refine wpAnyH_done (by kernel_rfl) ?_ _
              refine NoPanic.normal ?_
              go_wp2
              go_roundw
              case rel => exact ⟨A + 1, by go_num, by omega, by omega, y8, hY8, HM8⟩
              case measure => simp [intOf] <;> omega

end Go.Proofs.YtnmnfbibjghjhaaDoor
