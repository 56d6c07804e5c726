/-
  The reference's walk of Check.
-/
import Derived.Test.YtnmnfbibjghjhaaDoorEc
namespace Go.Proofs.YtnmnfbibjghjhaaDoor
open Go.RowKit Dig

theorem pay_of {k : Nat} {us t : List Nat} (h : SysOk k us) (hl : t.length ≤ 30) (he : checkErr k (ints us) t = 0) : 1 ≤ t.length ∧ ∀ c ∈ t, 48 ≤ c ∧ c ≤ 57 := by
  unfold checkErr at he
  rw [right_of h, if_neg (by decide), if_neg (by omega)] at he
  have h1 : ¬ (okB false (t ++ [48]) = false ∨ t.length = 0) := fun e => by rw [if_pos e] at he; cases he
  refine ⟨by omega, fun c hc => ?_⟩
  have hok : okB false (t ++ [48]) = true := by
    cases e : okB false (t ++ [48]) with
    | true => rfl
    | false => exact absurd (.inl e) h1
  obtain ⟨i, hi, hie⟩ := List.getElem_of_mem hc
  rcases good_iff.1 (okB_iff.1 hok) i c (by rw [List.getElem?_append_left hi, List.getElem?_eq_getElem hi, hie]) with h | ⟨h, _⟩
  · exact h
  · cases h
theorem chk_none {k : Nat} {us t : List Nat} (h : SysOk k us) (hl : t.length ≤ 30) (he : checkErr k (ints us) t ≠ 0) (c : Nat) : testB k (ints us) (t ++ [c]) = false := by
  have hne : chkErr k (ints us) (t ++ [c]) ≠ 0 := by
    by_cases h0 : t.length = 0
    · unfold chkErr
      rw [right_of h, if_neg (by decide), if_neg (by simp; omega), if_pos (.inr (by simp; omega))]
      decide
    · rw [chk_good h (by simp; omega) (by simp; omega)]
      intro e
      have hok : okB (k == 2) (t ++ [c]) = true := by
        cases e2 : okB (k == 2) (t ++ [c]) with
        | true => rfl
        | false => rw [e2] at e; cases e
      apply he
      unfold checkErr
      rw [right_of h, if_neg (by decide), if_neg (by omega), if_neg]
      intro hh
      have hg : okB false (t ++ [48]) = true := okB_iff.2 (good_iff.2 (digits_good fun d hd => by
        rcases List.mem_append.1 hd with hd | hd
        · obtain ⟨i, hi, hie⟩ := List.getElem_of_mem hd
          rcases good_iff.1 (okB_iff.1 hok) i d (by rw [List.getElem?_append_left hi, List.getElem?_eq_getElem hi, hie]) with h | ⟨_, _, h⟩
          · exact h
          · rw [List.length_append] at h
            have : [c].length = 1 := rfl
            omega
        · rw [List.mem_singleton.1 hd]; decide))
      rw [hg] at hh
      exact hh.elim (fun h => by cases h) (fun h => h0 h)
  unfold testB
  rw [beq_eq_false_iff_ne.2 hne]; rfl
theorem chk_hit {k : Nat} {us t : List Nat} (h : SysOk k us) (hl : t.length ≤ 30) {x : Nat} (hx : x < 11) (hb : testB k (ints us) (t ++ [shownB x]) = true) : checkVal k (ints us) t = shownB x ∧ checkErr k (ints us) t = 0 := by
  by_cases he : checkErr k (ints us) t = 0
  · obtain ⟨h1, hd⟩ := pay_of h hl he
    rw [(pay_test h h1 hl hd hx).1] at hb
    exact ⟨of_decide_eq_true hb, he⟩
  · rw [chk_none h hl he] at hb; cases hb
theorem chk_miss {k : Nat} {us t : List Nat} (h : SysOk k us) (hl : t.length ≤ 30) (hb : ∀ x, x < 11 → testB k (ints us) (t ++ [shownB x]) = false) : checkVal k (ints us) t = 0 ∧ checkErr k (ints us) t = 161 := by
  have he : checkErr k (ints us) t ≠ 0 := fun he => by
    obtain ⟨h1, hd⟩ := pay_of h hl he
    have hp := (pay_pass h h1 hl hd).2.1
    obtain ⟨h11, hs, _⟩ := hp.own (i := t.length) (c := checkVal k (ints us) t) (by rw [List.getElem?_append_right (Nat.le_refl _), Nat.sub_self]; rfl)
    have := hb _ h11
    rw [hs, hp.test] at this
    cases this
  refine ⟨by unfold checkVal; rw [if_neg he], ?_⟩
  unfold checkErr at he ⊢
  rw [right_of h, if_neg (by decide), if_neg (by omega)] at he ⊢
  by_cases h2 : okB false (t ++ [48]) = false ∨ t.length = 0
  · rw [if_pos h2]
  · rw [if_neg h2] at he; exact absurd rfl he
theorem test_err {k : Nat} {ws : List Int} {t : List Nat} (h : testB k ws t = true) : chkErr k ws t = 0 := by
  unfold testB at h
  rw [Bool.and_eq_true] at h
  exact beq_iff_eq.1 h.1

set_option maxRecDepth 100000 in
set_option maxHeartbeats 16000000 in
theorem rcheck_any (k : Nat) (ws : List Int) (v : Value) (s : ByteArray) (w : World) (hr : IntRow w v ws) (hl : s.size ≤ 900) :
    Calls Tryd.prog 41 #[.int .u8 k, v, .string s] w fun e w' => e = .returned (.tuple #[.int .u8 (checkVal k ws (tx s) : Nat), .int .i64 (checkErr k ws (tx s) : Nat)]) ∧ Below w.heap.size w w' := by
  have hrr := rright_any k ws v w hr
  have HR := Lib.hid hr
  obtain ⟨p, c, rfl, _⟩ := hr
  have HRR := Lib.hid hrr
  obtain ⟨E, hE⟩ : ∃ E, checkErr k ws (tx s) = E := ⟨_, rfl⟩
  obtain ⟨V, hV⟩ : ∃ V, checkVal k ws (tx s) = V := ⟨_, rfl⟩
  rw [hE, hV]
  have HE := Lib.hid hE
  have HV := Lib.hid hV
  clear hrr hE hV
  have htl := tx_len s
  obtain ⟨t, ht⟩ : ∃ t, tx s = t := ⟨_, rfl⟩
  rw [ht] at HE HV htl
  have HT := Lib.hid ht
  have HTL := Lib.hid htl
  clear ht htl
  go_enter Tryd.func41, Tryd.ntmps41
  go_wp2_with fail
  refine HRR.out.mono ?_
  rintro e w1 ⟨rfl, hb1⟩
  cases hR : rightB k ws with
  | false =>
    have he : E = 160 := by rw [← HE.out]; unfold checkErr; rw [if_pos hR]
    have hv : V = 0 := by rw [← HV.out]; unfold checkVal; rw [HE.out, he]; rfl
    subst he
    subst hv
    go_wp2
    go_ret2
    exact ⟨rfl, hb1⟩
  | true =>
    by_cases h30 : 30 < s.size
    · have he : E = 3 := by rw [← HE.out]; unfold checkErr; rw [hR, if_neg (by decide), if_pos (by rw [HTL.out]; exact h30)]
      have hv : V = 0 := by rw [← HV.out]; unfold checkVal; rw [HE.out, he]; rfl
      subst he
      subst hv
      have h30i : (30 : Int) < (s.size : Int) := by omega
      clear hR
      go_wp2
      go_ret2
      exact ⟨rfl, hb1⟩
    · have h30i : (s.size : Int) ≤ 30 := by omega
      obtain ⟨hwsn, hok⟩ := right_nats hR
      have htl30 : t.length ≤ 30 := by rw [HTL.out]; omega
      have hhit : ∀ x, x < 11 → testB k ws (t ++ [shownB x]) = true → V = shownB x ∧ E = 0 := fun x hx hb => by
        have := chk_hit (t := t) hok htl30 hx (by rw [show ints (natsOf ws) = ws from hwsn.symm]; exact hb)
        rw [show ints (natsOf ws) = ws from hwsn.symm, HE.out, HV.out] at this
        exact this
      have hmiss : (∀ x, x < 11 → testB k ws (t ++ [shownB x]) = false) → V = 0 ∧ E = 161 := fun hb => by
        have := chk_miss (t := t) hok htl30 (fun x hx => by rw [show ints (natsOf ws) = ws from hwsn.symm]; exact hb x hx)
        rw [show ints (natsOf ws) = ws from hwsn.symm, HE.out, HV.out] at this
        exact this
      have HH := Lib.hid hhit
      have HM := Lib.hid hmiss
      clear hhit hmiss hwsn hok htl30 hR
      have hS1z : ¬ 9223372036854775807 < s.size + 1 := by omega
      go_wp2_with fail
      go_loopw [8] (fun xv wr => ∃ x : Nat, xv = .int .i64 x ∧ x ≤ 11 ∧ Hid (∀ y, y < x → testB k ws (t ++ [shownB y]) = false) ∧ Below w.heap.size w wr)
        (fun xv _ => 11 - (intOf xv).toNat)
      case atStart => exact ⟨0, rfl, by omega, Lib.hid fun y hy => by omega, hb1⟩
      case round =>
        clear hb1
        obtain ⟨x, rfl, hx11, hno, hY⟩ := hrel
        rcases (by omega : x = 0 ∨ x = 1 ∨ x = 2 ∨ x = 3 ∨ x = 4 ∨ x = 5 ∨ x = 6 ∨ x = 7 ∨ x = 8 ∨ x = 9 ∨ x = 10 ∨ x = 11) with rfl | rfl | rfl | rfl | rfl | rfl | rfl | rfl | rfl | rfl | rfl | rfl
        · have hw1x : IntKind.i64.wrap 1 = 1 := by decide
          have hslx : ∀ W : World, (Instr.slice 9 (.string ⟨#[48, 49, 50, 51, 52, 53, 54, 55, 56, 57, 88]⟩) (some (.int .i64 0)) (some (.int .i64 1)) none).run Tryd.prog W = .ok (.string ⟨#[48]⟩) W := fun W => by kernel_rfl
          have hidx : ((⟨#[48, 49, 50, 51, 52, 53, 54, 55, 56, 57, 88]⟩ : ByteArray)[0]'(by decide)).toNat = 48 := by decide
          go_wp2_with fail
          with_reducible refine (rtest_any k ws _ (s ++ ⟨#[48]⟩) _ (HR.out.below (Nat.le_refl _) hY) (by rw [ByteArray.size_append, show (⟨#[48]⟩ : ByteArray).size = 1 from rfl]; omega)).mono ?_
          rintro e w2 ⟨rfl, hb2⟩
          rw [tx_append, HT.out, show tx ⟨#[48]⟩ = [48] from rfl]
          have hY2 := hY.trans (hb2.mono hY.size)
          have hhx := HH.out 0 (by decide)
          have hex := fun h => test_err (k := k) (ws := ws) (t := t ++ [48]) h
          have hnx : testB k ws (t ++ [48]) = false → ∀ y, y < 1 → testB k ws (t ++ [shownB y]) = false := fun h y hy => by
            by_cases e : y = 0
            · rw [e]; exact h
            · exact hno.out y (by omega)
          rw [show shownB 0 = 48 from rfl] at hhx
          obtain ⟨bx, hbx⟩ : ∃ bx, testB k ws (t ++ [48]) = bx := ⟨_, rfl⟩
          obtain ⟨ex, hexx⟩ : ∃ ex, chkErr k ws (t ++ [48]) = ex := ⟨_, rfl⟩
          rw [hbx] at hhx hex hnx ⊢
          rw [hexx] at hex ⊢
          have HNX := Lib.hid hnx
          clear hY hb2 hbx hexx hnx hno
          cases bx with
          | true =>
            clear HNX
            have h0 := hex rfl
            obtain ⟨hv, he⟩ := hhx rfl
            subst h0
            subst hv
            subst he
            clear hex hhx
            go_wp2
            go_ret2
            exact ⟨by rfl, hY2⟩
          | false =>
            have HN2 := Lib.hid (HNX.out rfl)
            clear hhx hex HNX
            by_cases h0 : ex = 0
            · subst h0
              go_wp2
              go_roundw
              case rel => exact ⟨1, by go_num, by omega, HN2, hY2⟩
              case measure => simp [intOf]
            · have h0b : ((ex : Int) == 0) = false := by rw [beq_eq_false_iff_ne]; omega
              clear h0
              go_wp2
              go_roundw
              case rel => exact ⟨1, by go_num, by omega, HN2, hY2⟩
              case measure => simp [intOf]
        · have hw1x : IntKind.i64.wrap 2 = 2 := by decide
          have hslx : ∀ W : World, (Instr.slice 9 (.string ⟨#[48, 49, 50, 51, 52, 53, 54, 55, 56, 57, 88]⟩) (some (.int .i64 1)) (some (.int .i64 2)) none).run Tryd.prog W = .ok (.string ⟨#[49]⟩) W := fun W => by kernel_rfl
          have hidx : ((⟨#[48, 49, 50, 51, 52, 53, 54, 55, 56, 57, 88]⟩ : ByteArray)[1]'(by decide)).toNat = 49 := by decide
          go_wp2_with fail
          with_reducible refine (rtest_any k ws _ (s ++ ⟨#[49]⟩) _ (HR.out.below (Nat.le_refl _) hY) (by rw [ByteArray.size_append, show (⟨#[49]⟩ : ByteArray).size = 1 from rfl]; omega)).mono ?_
          rintro e w2 ⟨rfl, hb2⟩
          rw [tx_append, HT.out, show tx ⟨#[49]⟩ = [49] from rfl]
          have hY2 := hY.trans (hb2.mono hY.size)
          have hhx := HH.out 1 (by decide)
          have hex := fun h => test_err (k := k) (ws := ws) (t := t ++ [49]) h
          have hnx : testB k ws (t ++ [49]) = false → ∀ y, y < 2 → testB k ws (t ++ [shownB y]) = false := fun h y hy => by
            by_cases e : y = 1
            · rw [e]; exact h
            · exact hno.out y (by omega)
          rw [show shownB 1 = 49 from rfl] at hhx
          obtain ⟨bx, hbx⟩ : ∃ bx, testB k ws (t ++ [49]) = bx := ⟨_, rfl⟩
          obtain ⟨ex, hexx⟩ : ∃ ex, chkErr k ws (t ++ [49]) = ex := ⟨_, rfl⟩
          rw [hbx] at hhx hex hnx ⊢
          rw [hexx] at hex ⊢
          have HNX := Lib.hid hnx
          clear hY hb2 hbx hexx hnx hno
          cases bx with
          | true =>
            clear HNX
            have h0 := hex rfl
            obtain ⟨hv, he⟩ := hhx rfl
            subst h0
            subst hv
            subst he
            clear hex hhx
            go_wp2
            go_ret2
            exact ⟨by rfl, hY2⟩
          | false =>
            have HN2 := Lib.hid (HNX.out rfl)
            clear hhx hex HNX
            by_cases h0 : ex = 0
            · subst h0
              go_wp2
              go_roundw
              case rel => exact ⟨2, by go_num, by omega, HN2, hY2⟩
              case measure => simp [intOf]
            · have h0b : ((ex : Int) == 0) = false := by rw [beq_eq_false_iff_ne]; omega
              clear h0
              go_wp2
              go_roundw
              case rel => exact ⟨2, by go_num, by omega, HN2, hY2⟩
              case measure => simp [intOf]
        · have hw1x : IntKind.i64.wrap 3 = 3 := by decide
          have hslx : ∀ W : World, (Instr.slice 9 (.string ⟨#[48, 49, 50, 51, 52, 53, 54, 55, 56, 57, 88]⟩) (some (.int .i64 2)) (some (.int .i64 3)) none).run Tryd.prog W = .ok (.string ⟨#[50]⟩) W := fun W => by kernel_rfl
          have hidx : ((⟨#[48, 49, 50, 51, 52, 53, 54, 55, 56, 57, 88]⟩ : ByteArray)[2]'(by decide)).toNat = 50 := by decide
          go_wp2_with fail
          with_reducible refine (rtest_any k ws _ (s ++ ⟨#[50]⟩) _ (HR.out.below (Nat.le_refl _) hY) (by rw [ByteArray.size_append, show (⟨#[50]⟩ : ByteArray).size = 1 from rfl]; omega)).mono ?_
          rintro e w2 ⟨rfl, hb2⟩
          rw [tx_append, HT.out, show tx ⟨#[50]⟩ = [50] from rfl]
          have hY2 := hY.trans (hb2.mono hY.size)
          have hhx := HH.out 2 (by decide)
          have hex := fun h => test_err (k := k) (ws := ws) (t := t ++ [50]) h
          have hnx : testB k ws (t ++ [50]) = false → ∀ y, y < 3 → testB k ws (t ++ [shownB y]) = false := fun h y hy => by
            by_cases e : y = 2
            · rw [e]; exact h
            · exact hno.out y (by omega)
          rw [show shownB 2 = 50 from rfl] at hhx
          obtain ⟨bx, hbx⟩ : ∃ bx, testB k ws (t ++ [50]) = bx := ⟨_, rfl⟩
          obtain ⟨ex, hexx⟩ : ∃ ex, chkErr k ws (t ++ [50]) = ex := ⟨_, rfl⟩
          rw [hbx] at hhx hex hnx ⊢
          rw [hexx] at hex ⊢
          have HNX := Lib.hid hnx
          clear hY hb2 hbx hexx hnx hno
          cases bx with
          | true =>
            clear HNX
            have h0 := hex rfl
            obtain ⟨hv, he⟩ := hhx rfl
            subst h0
            subst hv
            subst he
            clear hex hhx
            go_wp2
            go_ret2
            exact ⟨by rfl, hY2⟩
          | false =>
            have HN2 := Lib.hid (HNX.out rfl)
            clear hhx hex HNX
            by_cases h0 : ex = 0
            · subst h0
              go_wp2
              go_roundw
              case rel => exact ⟨3, by go_num, by omega, HN2, hY2⟩
              case measure => simp [intOf]
            · have h0b : ((ex : Int) == 0) = false := by rw [beq_eq_false_iff_ne]; omega
              clear h0
              go_wp2
              go_roundw
              case rel => exact ⟨3, by go_num, by omega, HN2, hY2⟩
              case measure => simp [intOf]
        · have hw1x : IntKind.i64.wrap 4 = 4 := by decide
          have hslx : ∀ W : World, (Instr.slice 9 (.string ⟨#[48, 49, 50, 51, 52, 53, 54, 55, 56, 57, 88]⟩) (some (.int .i64 3)) (some (.int .i64 4)) none).run Tryd.prog W = .ok (.string ⟨#[51]⟩) W := fun W => by kernel_rfl
          have hidx : ((⟨#[48, 49, 50, 51, 52, 53, 54, 55, 56, 57, 88]⟩ : ByteArray)[3]'(by decide)).toNat = 51 := by decide
          go_wp2_with fail
          with_reducible refine (rtest_any k ws _ (s ++ ⟨#[51]⟩) _ (HR.out.below (Nat.le_refl _) hY) (by rw [ByteArray.size_append, show (⟨#[51]⟩ : ByteArray).size = 1 from rfl]; omega)).mono ?_
          rintro e w2 ⟨rfl, hb2⟩
          rw [tx_append, HT.out, show tx ⟨#[51]⟩ = [51] from rfl]
          have hY2 := hY.trans (hb2.mono hY.size)
          have hhx := HH.out 3 (by decide)
          have hex := fun h => test_err (k := k) (ws := ws) (t := t ++ [51]) h
          have hnx : testB k ws (t ++ [51]) = false → ∀ y, y < 4 → testB k ws (t ++ [shownB y]) = false := fun h y hy => by
            by_cases e : y = 3
            · rw [e]; exact h
            · exact hno.out y (by omega)
          rw [show shownB 3 = 51 from rfl] at hhx
          obtain ⟨bx, hbx⟩ : ∃ bx, testB k ws (t ++ [51]) = bx := ⟨_, rfl⟩
          obtain ⟨ex, hexx⟩ : ∃ ex, chkErr k ws (t ++ [51]) = ex := ⟨_, rfl⟩
          rw [hbx] at hhx hex hnx ⊢
          rw [hexx] at hex ⊢
          have HNX := Lib.hid hnx
          clear hY hb2 hbx hexx hnx hno
          cases bx with
          | true =>
            clear HNX
            have h0 := hex rfl
            obtain ⟨hv, he⟩ := hhx rfl
            subst h0
            subst hv
            subst he
            clear hex hhx
            go_wp2
            go_ret2
            exact ⟨by rfl, hY2⟩
          | false =>
            have HN2 := Lib.hid (HNX.out rfl)
            clear hhx hex HNX
            by_cases h0 : ex = 0
            · subst h0
              go_wp2
              go_roundw
              case rel => exact ⟨4, by go_num, by omega, HN2, hY2⟩
              case measure => simp [intOf]
            · have h0b : ((ex : Int) == 0) = false := by rw [beq_eq_false_iff_ne]; omega
              clear h0
              go_wp2
              go_roundw
              case rel => exact ⟨4, by go_num, by omega, HN2, hY2⟩
              case measure => simp [intOf]
        · have hw1x : IntKind.i64.wrap 5 = 5 := by decide
          have hslx : ∀ W : World, (Instr.slice 9 (.string ⟨#[48, 49, 50, 51, 52, 53, 54, 55, 56, 57, 88]⟩) (some (.int .i64 4)) (some (.int .i64 5)) none).run Tryd.prog W = .ok (.string ⟨#[52]⟩) W := fun W => by kernel_rfl
          have hidx : ((⟨#[48, 49, 50, 51, 52, 53, 54, 55, 56, 57, 88]⟩ : ByteArray)[4]'(by decide)).toNat = 52 := by decide
          go_wp2_with fail
          with_reducible refine (rtest_any k ws _ (s ++ ⟨#[52]⟩) _ (HR.out.below (Nat.le_refl _) hY) (by rw [ByteArray.size_append, show (⟨#[52]⟩ : ByteArray).size = 1 from rfl]; omega)).mono ?_
          rintro e w2 ⟨rfl, hb2⟩
          rw [tx_append, HT.out, show tx ⟨#[52]⟩ = [52] from rfl]
          have hY2 := hY.trans (hb2.mono hY.size)
          have hhx := HH.out 4 (by decide)
          have hex := fun h => test_err (k := k) (ws := ws) (t := t ++ [52]) h
          have hnx : testB k ws (t ++ [52]) = false → ∀ y, y < 5 → testB k ws (t ++ [shownB y]) = false := fun h y hy => by
            by_cases e : y = 4
            · rw [e]; exact h
            · exact hno.out y (by omega)
          rw [show shownB 4 = 52 from rfl] at hhx
          obtain ⟨bx, hbx⟩ : ∃ bx, testB k ws (t ++ [52]) = bx := ⟨_, rfl⟩
          obtain ⟨ex, hexx⟩ : ∃ ex, chkErr k ws (t ++ [52]) = ex := ⟨_, rfl⟩
          rw [hbx] at hhx hex hnx ⊢
          rw [hexx] at hex ⊢
          have HNX := Lib.hid hnx
          clear hY hb2 hbx hexx hnx hno
          cases bx with
          | true =>
            clear HNX
            have h0 := hex rfl
            obtain ⟨hv, he⟩ := hhx rfl
            subst h0
            subst hv
            subst he
            clear hex hhx
            go_wp2
            go_ret2
            exact ⟨by rfl, hY2⟩
          | false =>
            have HN2 := Lib.hid (HNX.out rfl)
            clear hhx hex HNX
            by_cases h0 : ex = 0
            · subst h0
              go_wp2
              go_roundw
              case rel => exact ⟨5, by go_num, by omega, HN2, hY2⟩
              case measure => simp [intOf]
            · have h0b : ((ex : Int) == 0) = false := by rw [beq_eq_false_iff_ne]; omega
              clear h0
              go_wp2
              go_roundw
              case rel => exact ⟨5, by go_num, by omega, HN2, hY2⟩
              case measure => simp [intOf]
        · have hw1x : IntKind.i64.wrap 6 = 6 := by decide
          have hslx : ∀ W : World, (Instr.slice 9 (.string ⟨#[48, 49, 50, 51, 52, 53, 54, 55, 56, 57, 88]⟩) (some (.int .i64 5)) (some (.int .i64 6)) none).run Tryd.prog W = .ok (.string ⟨#[53]⟩) W := fun W => by kernel_rfl
          have hidx : ((⟨#[48, 49, 50, 51, 52, 53, 54, 55, 56, 57, 88]⟩ : ByteArray)[5]'(by decide)).toNat = 53 := by decide
          go_wp2_with fail
          with_reducible refine (rtest_any k ws _ (s ++ ⟨#[53]⟩) _ (HR.out.below (Nat.le_refl _) hY) (by rw [ByteArray.size_append, show (⟨#[53]⟩ : ByteArray).size = 1 from rfl]; omega)).mono ?_
          rintro e w2 ⟨rfl, hb2⟩
          rw [tx_append, HT.out, show tx ⟨#[53]⟩ = [53] from rfl]
          have hY2 := hY.trans (hb2.mono hY.size)
          have hhx := HH.out 5 (by decide)
          have hex := fun h => test_err (k := k) (ws := ws) (t := t ++ [53]) h
          have hnx : testB k ws (t ++ [53]) = false → ∀ y, y < 6 → testB k ws (t ++ [shownB y]) = false := fun h y hy => by
            by_cases e : y = 5
            · rw [e]; exact h
            · exact hno.out y (by omega)
          rw [show shownB 5 = 53 from rfl] at hhx
          obtain ⟨bx, hbx⟩ : ∃ bx, testB k ws (t ++ [53]) = bx := ⟨_, rfl⟩
          obtain ⟨ex, hexx⟩ : ∃ ex, chkErr k ws (t ++ [53]) = ex := ⟨_, rfl⟩
          rw [hbx] at hhx hex hnx ⊢
          rw [hexx] at hex ⊢
          have HNX := Lib.hid hnx
          clear hY hb2 hbx hexx hnx hno
          cases bx with
          | true =>
            clear HNX
            have h0 := hex rfl
            obtain ⟨hv, he⟩ := hhx rfl
            subst h0
            subst hv
            subst he
            clear hex hhx
            go_wp2
            go_ret2
            exact ⟨by rfl, hY2⟩
          | false =>
            have HN2 := Lib.hid (HNX.out rfl)
            clear hhx hex HNX
            by_cases h0 : ex = 0
            · subst h0
              go_wp2
              go_roundw
              case rel => exact ⟨6, by go_num, by omega, HN2, hY2⟩
              case measure => simp [intOf]
            · have h0b : ((ex : Int) == 0) = false := by rw [beq_eq_false_iff_ne]; omega
              clear h0
              go_wp2
              go_roundw
              case rel => exact ⟨6, by go_num, by omega, HN2, hY2⟩
              case measure => simp [intOf]
        · have hw1x : IntKind.i64.wrap 7 = 7 := by decide
          have hslx : ∀ W : World, (Instr.slice 9 (.string ⟨#[48, 49, 50, 51, 52, 53, 54, 55, 56, 57, 88]⟩) (some (.int .i64 6)) (some (.int .i64 7)) none).run Tryd.prog W = .ok (.string ⟨#[54]⟩) W := fun W => by kernel_rfl
          have hidx : ((⟨#[48, 49, 50, 51, 52, 53, 54, 55, 56, 57, 88]⟩ : ByteArray)[6]'(by decide)).toNat = 54 := by decide
          go_wp2_with fail
          with_reducible refine (rtest_any k ws _ (s ++ ⟨#[54]⟩) _ (HR.out.below (Nat.le_refl _) hY) (by rw [ByteArray.size_append, show (⟨#[54]⟩ : ByteArray).size = 1 from rfl]; omega)).mono ?_
          rintro e w2 ⟨rfl, hb2⟩
          rw [tx_append, HT.out, show tx ⟨#[54]⟩ = [54] from rfl]
          have hY2 := hY.trans (hb2.mono hY.size)
          have hhx := HH.out 6 (by decide)
          have hex := fun h => test_err (k := k) (ws := ws) (t := t ++ [54]) h
          have hnx : testB k ws (t ++ [54]) = false → ∀ y, y < 7 → testB k ws (t ++ [shownB y]) = false := fun h y hy => by
            by_cases e : y = 6
            · rw [e]; exact h
            · exact hno.out y (by omega)
          rw [show shownB 6 = 54 from rfl] at hhx
          obtain ⟨bx, hbx⟩ : ∃ bx, testB k ws (t ++ [54]) = bx := ⟨_, rfl⟩
          obtain ⟨ex, hexx⟩ : ∃ ex, chkErr k ws (t ++ [54]) = ex := ⟨_, rfl⟩
          rw [hbx] at hhx hex hnx ⊢
          rw [hexx] at hex ⊢
          have HNX := Lib.hid hnx
          clear hY hb2 hbx hexx hnx hno
          cases bx with
          | true =>
            clear HNX
            have h0 := hex rfl
            obtain ⟨hv, he⟩ := hhx rfl
            subst h0
            subst hv
            subst he
            clear hex hhx
            go_wp2
            go_ret2
            exact ⟨by rfl, hY2⟩
          | false =>
            have HN2 := Lib.hid (HNX.out rfl)
            clear hhx hex HNX
            by_cases h0 : ex = 0
            · subst h0
              go_wp2
              go_roundw
              case rel => exact ⟨7, by go_num, by omega, HN2, hY2⟩
              case measure => simp [intOf]
            · have h0b : ((ex : Int) == 0) = false := by rw [beq_eq_false_iff_ne]; omega
              clear h0
              go_wp2
              go_roundw
              case rel => exact ⟨7, by go_num, by omega, HN2, hY2⟩
              case measure => simp [intOf]
        · have hw1x : IntKind.i64.wrap 8 = 8 := by decide
          have hslx : ∀ W : World, (Instr.slice 9 (.string ⟨#[48, 49, 50, 51, 52, 53, 54, 55, 56, 57, 88]⟩) (some (.int .i64 7)) (some (.int .i64 8)) none).run Tryd.prog W = .ok (.string ⟨#[55]⟩) W := fun W => by kernel_rfl
          have hidx : ((⟨#[48, 49, 50, 51, 52, 53, 54, 55, 56, 57, 88]⟩ : ByteArray)[7]'(by decide)).toNat = 55 := by decide
          go_wp2_with fail
          with_reducible refine (rtest_any k ws _ (s ++ ⟨#[55]⟩) _ (HR.out.below (Nat.le_refl _) hY) (by rw [ByteArray.size_append, show (⟨#[55]⟩ : ByteArray).size = 1 from rfl]; omega)).mono ?_
          rintro e w2 ⟨rfl, hb2⟩
          rw [tx_append, HT.out, show tx ⟨#[55]⟩ = [55] from rfl]
          have hY2 := hY.trans (hb2.mono hY.size)
          have hhx := HH.out 7 (by decide)
          have hex := fun h => test_err (k := k) (ws := ws) (t := t ++ [55]) h
          have hnx : testB k ws (t ++ [55]) = false → ∀ y, y < 8 → testB k ws (t ++ [shownB y]) = false := fun h y hy => by
            by_cases e : y = 7
            · rw [e]; exact h
            · exact hno.out y (by omega)
          rw [show shownB 7 = 55 from rfl] at hhx
          obtain ⟨bx, hbx⟩ : ∃ bx, testB k ws (t ++ [55]) = bx := ⟨_, rfl⟩
          obtain ⟨ex, hexx⟩ : ∃ ex, chkErr k ws (t ++ [55]) = ex := ⟨_, rfl⟩
          rw [hbx] at hhx hex hnx ⊢
          rw [hexx] at hex ⊢
          have HNX := Lib.hid hnx
          clear hY hb2 hbx hexx hnx hno
          cases bx with
          | true =>
            clear HNX
            have h0 := hex rfl
            obtain ⟨hv, he⟩ := hhx rfl
            subst h0
            subst hv
            subst he
            clear hex hhx
            go_wp2
            go_ret2
            exact ⟨by rfl, hY2⟩
          | false =>
            have HN2 := Lib.hid (HNX.out rfl)
            clear hhx hex HNX
            by_cases h0 : ex = 0
            · subst h0
              go_wp2
              go_roundw
              case rel => exact ⟨8, by go_num, by omega, HN2, hY2⟩
              case measure => simp [intOf]
            · have h0b : ((ex : Int) == 0) = false := by rw [beq_eq_false_iff_ne]; omega
              clear h0
              go_wp2
              go_roundw
              case rel => exact ⟨8, by go_num, by omega, HN2, hY2⟩
              case measure => simp [intOf]
        · have hw1x : IntKind.i64.wrap 9 = 9 := by decide
          have hslx : ∀ W : World, (Instr.slice 9 (.string ⟨#[48, 49, 50, 51, 52, 53, 54, 55, 56, 57, 88]⟩) (some (.int .i64 8)) (some (.int .i64 9)) none).run Tryd.prog W = .ok (.string ⟨#[56]⟩) W := fun W => by kernel_rfl
          have hidx : ((⟨#[48, 49, 50, 51, 52, 53, 54, 55, 56, 57, 88]⟩ : ByteArray)[8]'(by decide)).toNat = 56 := by decide
          go_wp2_with fail
          with_reducible refine (rtest_any k ws _ (s ++ ⟨#[56]⟩) _ (HR.out.below (Nat.le_refl _) hY) (by rw [ByteArray.size_append, show (⟨#[56]⟩ : ByteArray).size = 1 from rfl]; omega)).mono ?_
          rintro e w2 ⟨rfl, hb2⟩
          rw [tx_append, HT.out, show tx ⟨#[56]⟩ = [56] from rfl]
          have hY2 := hY.trans (hb2.mono hY.size)
          have hhx := HH.out 8 (by decide)
          have hex := fun h => test_err (k := k) (ws := ws) (t := t ++ [56]) h
          have hnx : testB k ws (t ++ [56]) = false → ∀ y, y < 9 → testB k ws (t ++ [shownB y]) = false := fun h y hy => by
            by_cases e : y = 8
            · rw [e]; exact h
            · exact hno.out y (by omega)
          rw [show shownB 8 = 56 from rfl] at hhx
          obtain ⟨bx, hbx⟩ : ∃ bx, testB k ws (t ++ [56]) = bx := ⟨_, rfl⟩
          obtain ⟨ex, hexx⟩ : ∃ ex, chkErr k ws (t ++ [56]) = ex := ⟨_, rfl⟩
          rw [hbx] at hhx hex hnx ⊢
          rw [hexx] at hex ⊢
          have HNX := Lib.hid hnx
          clear hY hb2 hbx hexx hnx hno
          cases bx with
          | true =>
            clear HNX
            have h0 := hex rfl
            obtain ⟨hv, he⟩ := hhx rfl
            subst h0
            subst hv
            subst he
            clear hex hhx
            go_wp2
            go_ret2
            exact ⟨by rfl, hY2⟩
          | false =>
            have HN2 := Lib.hid (HNX.out rfl)
            clear hhx hex HNX
            by_cases h0 : ex = 0
            · subst h0
              go_wp2
              go_roundw
              case rel => exact ⟨9, by go_num, by omega, HN2, hY2⟩
              case measure => simp [intOf]
            · have h0b : ((ex : Int) == 0) = false := by rw [beq_eq_false_iff_ne]; omega
              clear h0
              go_wp2
              go_roundw
              case rel => exact ⟨9, by go_num, by omega, HN2, hY2⟩
              case measure => simp [intOf]
        · have hw1x : IntKind.i64.wrap 10 = 10 := by decide
          have hslx : ∀ W : World, (Instr.slice 9 (.string ⟨#[48, 49, 50, 51, 52, 53, 54, 55, 56, 57, 88]⟩) (some (.int .i64 9)) (some (.int .i64 10)) none).run Tryd.prog W = .ok (.string ⟨#[57]⟩) W := fun W => by kernel_rfl
          have hidx : ((⟨#[48, 49, 50, 51, 52, 53, 54, 55, 56, 57, 88]⟩ : ByteArray)[9]'(by decide)).toNat = 57 := by decide
          go_wp2_with fail
          with_reducible refine (rtest_any k ws _ (s ++ ⟨#[57]⟩) _ (HR.out.below (Nat.le_refl _) hY) (by rw [ByteArray.size_append, show (⟨#[57]⟩ : ByteArray).size = 1 from rfl]; omega)).mono ?_
          rintro e w2 ⟨rfl, hb2⟩
          rw [tx_append, HT.out, show tx ⟨#[57]⟩ = [57] from rfl]
          have hY2 := hY.trans (hb2.mono hY.size)
          have hhx := HH.out 9 (by decide)
          have hex := fun h => test_err (k := k) (ws := ws) (t := t ++ [57]) h
          have hnx : testB k ws (t ++ [57]) = false → ∀ y, y < 10 → testB k ws (t ++ [shownB y]) = false := fun h y hy => by
            by_cases e : y = 9
            · rw [e]; exact h
            · exact hno.out y (by omega)
          rw [show shownB 9 = 57 from rfl] at hhx
          obtain ⟨bx, hbx⟩ : ∃ bx, testB k ws (t ++ [57]) = bx := ⟨_, rfl⟩
          obtain ⟨ex, hexx⟩ : ∃ ex, chkErr k ws (t ++ [57]) = ex := ⟨_, rfl⟩
          rw [hbx] at hhx hex hnx ⊢
          rw [hexx] at hex ⊢
          have HNX := Lib.hid hnx
          clear hY hb2 hbx hexx hnx hno
          cases bx with
          | true =>
            clear HNX
            have h0 := hex rfl
            obtain ⟨hv, he⟩ := hhx rfl
            subst h0
            subst hv
            subst he
            clear hex hhx
            go_wp2
            go_ret2
            exact ⟨by rfl, hY2⟩
          | false =>
            have HN2 := Lib.hid (HNX.out rfl)
            clear hhx hex HNX
            by_cases h0 : ex = 0
            · subst h0
              go_wp2
              go_roundw
              case rel => exact ⟨10, by go_num, by omega, HN2, hY2⟩
              case measure => simp [intOf]
            · have h0b : ((ex : Int) == 0) = false := by rw [beq_eq_false_iff_ne]; omega
              clear h0
              go_wp2
              go_roundw
              case rel => exact ⟨10, by go_num, by omega, HN2, hY2⟩
              case measure => simp [intOf]
        · have hw1x : IntKind.i64.wrap 11 = 11 := by decide
          have hslx : ∀ W : World, (Instr.slice 9 (.string ⟨#[48, 49, 50, 51, 52, 53, 54, 55, 56, 57, 88]⟩) (some (.int .i64 10)) (some (.int .i64 11)) none).run Tryd.prog W = .ok (.string ⟨#[88]⟩) W := fun W => by kernel_rfl
          have hidx : ((⟨#[48, 49, 50, 51, 52, 53, 54, 55, 56, 57, 88]⟩ : ByteArray)[10]'(by decide)).toNat = 88 := by decide
          go_wp2_with fail
          with_reducible refine (rtest_any k ws _ (s ++ ⟨#[88]⟩) _ (HR.out.below (Nat.le_refl _) hY) (by rw [ByteArray.size_append, show (⟨#[88]⟩ : ByteArray).size = 1 from rfl]; omega)).mono ?_
          rintro e w2 ⟨rfl, hb2⟩
          rw [tx_append, HT.out, show tx ⟨#[88]⟩ = [88] from rfl]
          have hY2 := hY.trans (hb2.mono hY.size)
          have hhx := HH.out 10 (by decide)
          have hex := fun h => test_err (k := k) (ws := ws) (t := t ++ [88]) h
          have hnx : testB k ws (t ++ [88]) = false → ∀ y, y < 11 → testB k ws (t ++ [shownB y]) = false := fun h y hy => by
            by_cases e : y = 10
            · rw [e]; exact h
            · exact hno.out y (by omega)
          rw [show shownB 10 = 88 from rfl] at hhx
          obtain ⟨bx, hbx⟩ : ∃ bx, testB k ws (t ++ [88]) = bx := ⟨_, rfl⟩
          obtain ⟨ex, hexx⟩ : ∃ ex, chkErr k ws (t ++ [88]) = ex := ⟨_, rfl⟩
          rw [hbx] at hhx hex hnx ⊢
          rw [hexx] at hex ⊢
          have HNX := Lib.hid hnx
          clear hY hb2 hbx hexx hnx hno
          cases bx with
          | true =>
            clear HNX
            have h0 := hex rfl
            obtain ⟨hv, he⟩ := hhx rfl
            subst h0
            subst hv
            subst he
            clear hex hhx
            go_wp2
            go_ret2
            exact ⟨by rfl, hY2⟩
          | false =>
            have HN2 := Lib.hid (HNX.out rfl)
            clear hhx hex HNX
            by_cases h0 : ex = 0
            · subst h0
              go_wp2
              go_roundw
              case rel => exact ⟨11, by go_num, by omega, HN2, hY2⟩
              case measure => simp [intOf]
            · have h0b : ((ex : Int) == 0) = false := by rw [beq_eq_false_iff_ne]; omega
              clear h0
              go_wp2
              go_roundw
              case rel => exact ⟨11, by go_num, by omega, HN2, hY2⟩
              case measure => simp [intOf]
        · obtain ⟨hv, he⟩ := HM.out hno.out
          subst hv
          subst he
          go_wp2
          go_ret2
          exact ⟨rfl, hY⟩
end Go.Proofs.YtnmnfbibjghjhaaDoor
