/-
  The reference's walks: Values, Test.
-/
import Derived.Test.YtnmnfbibjghjhaaDoorEb
import Derived.Test.YtnmnfbibjghjhaaDoorDu
namespace Go.Proofs.YtnmnfbibjghjhaaDoor
open Go.RowKit Dig

theorem okB_false {x : Bool} {t : List Nat} (h : ¬ txOk x t) : okB x t = false := by
  cases e : okB x t with
  | false => rfl
  | true => exact absurd (okB_iff.1 e) h
theorem IntRow.nat {W : World} {v : Value} {us : List Nat} (h : IntRow W v (ints us)) : NatRow W v us := by
  obtain ⟨p, c, rfl, h⟩ := h
  refine ⟨p, c, by simp [ints], ?_⟩
  rcases h with h0 | ⟨b, o, hp, hb, hc⟩
  · exact .inl (List.map_eq_nil_iff.1 h0)
  · exact .inr ⟨b, o, hp, hb, fun k x hx => hc k x (by simp [ints, hx])⟩
set_option maxHeartbeats 8000000 in
theorem rvalues_any (k : Nat) (ws : List Int) (v : Value) (s : ByteArray) (w : World) (hr : IntRow w v ws) (hl : s.size ≤ 999) :
    Calls Tryd.prog 48 #[.int .u8 k, v, .string s] w fun e w' => ((chkErr k ws (tx s) = 0 ∧ ∃ v', e = .returned (.tuple #[v', .int .i64 0]) ∧ w'.ownsRow w.heap.size 3 1 v' s.size (natCells (vals (tx s)))) ∨
      (chkErr k ws (tx s) ≠ 0 ∧ e = .returned (.tuple #[.slice none 0 0, .int .i64 (chkErr k ws (tx s) : Nat)]))) ∧ Below w.heap.size w w' := by
  obtain ⟨i0, hi, hi0, hi1, hi2⟩ := info_parts Tryd.info3
  have hrr := rright_any k ws v w hr
  obtain ⟨p, c, rfl, _⟩ := hr
  have HRR := Lib.hid hrr
  obtain ⟨E, hE⟩ : ∃ E, chkErr k ws (tx s) = E := ⟨_, rfl⟩
  rw [hE]
  obtain ⟨n, hn⟩ : ∃ n, s.size = n := ⟨_, rfl⟩
  have htl := tx_len s
  rw [hn] at htl hl ⊢
  have hE2 : rightB k ws = true → n ≤ 31 → 2 ≤ n → E = if okB (k == 2) (tx s) = true then 0 else 161 := fun h1 h2 h3 => by
    rw [← hE]
    unfold chkErr
    rw [h1, if_neg (by decide), if_neg (by omega)]
    cases e : okB (k == 2) (tx s) with
    | true => rw [if_neg (fun h => h.elim (fun h => by cases h) (fun h => by omega))]; rfl
    | false => rw [if_pos (.inl rfl)]; rfl
  have hE1 : (rightB k ws = false → E = 160) ∧ (rightB k ws = true → 31 < n → E = 3) ∧ (rightB k ws = true → n < 2 → E = 161) := by
    rw [← hE]
    unfold chkErr
    refine ⟨fun h => by rw [if_pos h], fun h h2 => by rw [h, if_neg (by decide), if_pos (by omega)], fun h h2 => by rw [h, if_neg (by decide), if_neg (by omega), if_pos (.inr (by omega))]⟩
  have H2 := Lib.hid hE2
  have H1 := Lib.hid hE1
  have HTL := Lib.hid htl
  clear hrr hE hE1 hE2 htl
  go_enter Tryd.func48, Tryd.ntmps48
  go_wp2_with fail
  refine HRR.out.mono ?_
  rintro e w1 ⟨rfl, hb1⟩
  cases hR : rightB k ws with
  | false =>
    have he := H1.out.1 hR
    subst he
    go_wp2
    go_ret2
    exact ⟨.inr ⟨by decide, rfl⟩, hb1⟩
  | true =>
    by_cases h31 : 31 < n
    · have he := H1.out.2.1 hR h31
      subst he
      have h31i : (31 : Int) < (n : Int) := by omega
      clear hR
      go_wp2
      go_ret2
      exact ⟨.inr ⟨by decide, rfl⟩, hb1⟩
    · have h31i : (n : Int) ≤ 31 := by omega
      by_cases h2 : n < 2
      · have he := H1.out.2.2 hR h2
        subst he
        have h2i : (n : Int) < 2 := by omega
        clear hR
        go_wp2
        go_ret2
        exact ⟨.inr ⟨by decide, rfl⟩, hb1⟩
      · have h2i : (2 : Int) ≤ (n : Int) := by omega
        have HE := Lib.hid (H2.out hR (by omega) (by omega))
        clear hR
        go_wp2_with fail
        go_loopw [8, 9] (fun ov iv wr => ∃ j : Nat, iv = .int .i64 j ∧ j ≤ n ∧ Hid (∀ q c, q < j → (tx s).reverse[q]? = some c → chOk (k == 2) q c) ∧ wr.ownsRow w.heap.size 3 1 ov j (natCells (((tx s).reverse.take j).map chVal)) ∧ Below w.heap.size w wr)
          (fun _ iv _ => n - (intOf iv).toNat)
        case atStart => exact ⟨0, rfl, by omega, Lib.hid fun q c hq => by omega, World.ownsRow_nil _ _ _ _, hb1⟩
        case round =>
          clear hb1
          obtain ⟨j, rfl, hj, hok, xo, xB⟩ := hrel
          obtain ⟨pp, cp, rfl⟩ := ownsRow_form xo
          have hwj : IntKind.i64.wrap ((j : Int) + 1) = (j : Int) + 1 := by rw [IntKind.wrap_i64]; omega
          by_cases hlt : j < n
          · have hlti : (j : Int) < (n : Int) := by omega
            obtain ⟨m, hm⟩ : ∃ m : Nat, (n : Int) - 1 - (j : Int) = (m : Int) := ⟨n - 1 - j, by omega⟩
            have hm2 := Lib.hid (show m = n - 1 - j by omega)
            have hw1 : IntKind.i64.wrap ((n : Int) - 1) = (n : Int) - 1 := by rw [IntKind.wrap_i64]; omega
            have hw2 : IntKind.i64.wrap ((n : Int) - 1 - (j : Int)) = (m : Int) := by rw [hm, IntKind.wrap_i64]; omega
            have hmi : (m : Int) < (n : Int) := by omega
            have hms : m < s.size := by rw [hn]; omega
            obtain ⟨ch, hc⟩ : ∃ ch : Nat, (s[m]'hms).toNat = ch := ⟨_, rfl⟩
            have hcc : (tx s).reverse[j]? = some ch := by rw [tx_rev s j (by omega), hn, ← hm2.out, tx_at s m hms, hc]
            have hc256 : ch < 256 := by rw [← hc]; exact UInt8.toNat_lt _
            have HC := Lib.hid hcc
            clear hcc hm
            by_cases hdig : 48 ≤ ch ∧ ch ≤ 57
            · obtain ⟨hd0, hd1⟩ := hdig
              have hd0i : (48 : Int) ≤ (ch : Int) := by omega
              have hd1i : (ch : Int) ≤ 57 := by omega
              have hwc : IntKind.i64.wrap ((ch : Int) - 48) = (ch : Int) - 48 := by rw [IntKind.wrap_i64]; omega
              have hwc0 : IntKind.i64.wrap (ch : Int) = (ch : Int) := by rw [IntKind.wrap_i64]; omega
              go_wp2_with (at_builtin; refine wpList_append_own _ rfl _ _ 23 rfl w.heap.size 3 i0 (.int .i64 0) 1 8 Tryd.underlying23 hi hi0 hi1 hi2 rfl (by decide) _ _ _ rfl (xo.alloc _) ⟨wr.heap.size, 0, none⟩ 1 1 [.int .i64 ((ch : Int) - 48)] rfl rfl ((BlockAt.new wr #[.int .i64 ((ch : Int) - 48)] 3).newCells rfl) (by intro u hu; rw [List.mem_singleton.1 hu]; rfl) (by unfold maxLen; omega) (by omega) (by simp; have := xB.size; omega) ?_; intro v' w4 hown' hgrow _)
              go_roundw
              case rel => exact ⟨j + 1, by go_num, by omega, Lib.hid (ok_step HC.out (.inl ⟨hd0, hd1⟩) hok.out), by rw [vals_step HC.out, show ((chVal _ : Nat) : Int) = (ch : Int) - 48 from by unfold chVal; rw [if_neg (by omega)]; omega]; exact hown', (xB.alloc xB.size _).grown hgrow (by simp; have := xB.size; omega) (fun j hj => ownsRow_base xo j hj)⟩
              case measure => simp [intOf] <;> omega
            · by_cases hX : ch = 88 ∧ j = 0 ∧ k = 2
              · obtain ⟨h88, hj0, hk2⟩ := hX
                have h88i : ((ch : Int) == 88) = true := by rw [beq_iff_eq]; omega
                have h48j : (48 : Int) ≤ (ch : Int) := by omega
                have h57j : (57 : Int) < (ch : Int) := by omega
                have hj0i : ((j : Int) == 0) = true := by rw [beq_iff_eq]; omega
                have HK2 : Hid ((k == 2) = true) := Lib.hid (by rw [hk2]; rfl)
                have hk2i : ((k : Int) == 2) = true := by rw [beq_iff_eq]; omega
                have HJ0 := Lib.hid hj0
                have H88 := Lib.hid h88
                clear hj0 h88 hk2
                go_wp2_with (at_builtin; refine wpList_append_own _ rfl _ _ 23 rfl w.heap.size 3 i0 (.int .i64 0) 1 8 Tryd.underlying23 hi hi0 hi1 hi2 rfl (by decide) _ _ _ rfl (xo.alloc _) ⟨wr.heap.size, 0, none⟩ 1 1 [.int .i64 (10)] rfl rfl ((BlockAt.new wr #[.int .i64 (10)] 3).newCells rfl) (by intro u hu; rw [List.mem_singleton.1 hu]; rfl) (by unfold maxLen; omega) (by omega) (by simp; have := xB.size; omega) ?_; intro v' w4 hown' hgrow _)
                go_roundw
                case rel => exact ⟨j + 1, by go_num, by omega, Lib.hid (ok_step HC.out (.inr ⟨HK2.out, H88.out, HJ0.out⟩) hok.out), by rw [vals_step HC.out, show ((chVal _ : Nat) : Int) = 10 from by rw [H88.out]; rfl]; exact hown', (xB.alloc xB.size _).grown hgrow (by simp; have := xB.size; omega) (fun j hj => ownsRow_base xo j hj)⟩
                case measure => simp [intOf] <;> omega
              · have hbad : ¬ chOk (k == 2) j ch := by
                  unfold chOk
                  rintro (h | ⟨h1, h2, h3⟩)
                  · exact hdig h
                  · exact hX ⟨h2, h3, beq_iff_eq.1 h1⟩
                have hE161 : E = 161 := by
                  rw [HE.out, okB_false (fun h => absurd (h _ _ HC.out) hbad)]; rfl
                subst hE161
                have HX := Lib.hid hX
                by_cases h88 : ch = 88
                · have h88i : ((ch : Int) == 88) = true := by rw [beq_iff_eq]; omega
                  have h48j : (48 : Int) ≤ (ch : Int) := by omega
                  have h57j : (57 : Int) < (ch : Int) := by omega
                  by_cases hj0 : j = 0
                  · have hj0i : ((j : Int) == 0) = true := by rw [beq_iff_eq]; omega
                    have hk2i : ((k : Int) == 2) = false := by rw [beq_eq_false_iff_ne]; omega
                    have hmn := Lib.hid (show n - 1 = m by have := hm2.out; omega)
                    have hc2 : (s[n - 1]'(by rw [hn]; omega)).toNat = ch := by simp only [hmn.out]; exact hc
                    clear hX hdig
                    go_wp2
                    go_ret2
                    (first | exact ⟨.inr ⟨by decide, rfl⟩, xB⟩ | exact ⟨rfl, xB⟩)
                  · have hj0i : ((j : Int) == 0) = false := by rw [beq_eq_false_iff_ne]; omega
                    clear hX hdig
                    go_wp2
                    go_ret2
                    (first | exact ⟨.inr ⟨by decide, rfl⟩, xB⟩ | exact ⟨rfl, xB⟩)
                · have h88i : ((ch : Int) == 88) = false := by rw [beq_eq_false_iff_ne]; omega
                  by_cases h48 : ch < 48
                  · have h48i : (ch : Int) < 48 := by omega
                    clear hX hdig
                    go_wp2
                    go_ret2
                    (first | exact ⟨.inr ⟨by decide, rfl⟩, xB⟩ | exact ⟨rfl, xB⟩)
                  · have h48i : (48 : Int) ≤ (ch : Int) := by omega
                    have h57i : (57 : Int) < (ch : Int) := by omega
                    clear hX hdig
                    go_wp2
                    go_ret2
                    (first | exact ⟨.inr ⟨by decide, rfl⟩, xB⟩ | exact ⟨rfl, xB⟩)
          · have hjn : j = n := by omega
            have hlti : ¬ (j : Int) < (n : Int) := by omega
            have hE0 : E = 0 := by
              rw [HE.out, if_pos (okB_iff.2 (fun q c hq => hok.out q c (by have := (List.getElem?_eq_some_iff.1 hq).1; rw [List.length_reverse, HTL.out] at this; omega) hq))]
            rw [List.take_of_length_le (by rw [List.length_reverse, HTL.out]; omega)] at xo
            subst hE0
            subst hjn
            have XO := Lib.hid xo
            clear xo
            go_wp2
            go_ret2
            (first | exact ⟨.inl ⟨rfl, _, rfl, XO.out⟩, xB⟩ | exact ⟨⟨_, rfl, XO.out⟩, xB⟩)
set_option maxHeartbeats 8000000 in
theorem rtest_any (k : Nat) (ws : List Int) (v : Value) (s : ByteArray) (w : World) (hr : IntRow w v ws) (hl : s.size ≤ 999) :
    Calls Tryd.prog 42 #[.int .u8 k, v, .string s] w fun e w' => e = .returned (.tuple #[.bool (testB k ws (tx s)), .int .i64 (chkErr k ws (tx s) : Nat)]) ∧ Below w.heap.size w w' := by
  have hrv := rvalues_any k ws v s w hr hl
  have HR := Lib.hid hr
  obtain ⟨p, c, rfl, _⟩ := hr
  have HRV := Lib.hid hrv
  have HT : Hid (testB k ws (tx s) = (chkErr k ws (tx s) == 0 && result k (natsOf ws) (vals (tx s)) == 0)) := Lib.hid rfl
  obtain ⟨E, hE⟩ : ∃ E, chkErr k ws (tx s) = E := ⟨_, rfl⟩
  obtain ⟨B, hB⟩ : ∃ B, testB k ws (tx s) = B := ⟨_, rfl⟩
  rw [hB] at HT ⊢
  rw [hE] at HT ⊢
  have HE := Lib.hid hE
  clear hrv hE hB
  go_enter Tryd.func42, Tryd.ntmps42
  go_wp2_with fail
  refine HRV.out.mono ?_
  rintro e w1 ⟨hcase, hb1⟩
  rw [HE.out] at hcase
  rcases hcase with ⟨h0, v', rfl, ho⟩ | ⟨h0, rfl⟩
  · subst h0
    have hce := HE.out
    unfold chkErr at hce
    have hright : rightB k ws = true := by
      cases e : rightB k ws with
      | true => rfl
      | false => rw [e] at hce; cases hce
    rw [hright, if_neg (by decide)] at hce
    have h31 : ¬ 31 < (tx s).length := fun h => by rw [if_pos h] at hce; cases hce
    rw [if_neg h31] at hce
    have hokb : okB (k == 2) (tx s) = true := by
      cases e : okB (k == 2) (tx s) with
      | true => rfl
      | false => rw [if_pos (.inl e)] at hce; cases hce
    obtain ⟨hwsn, hok⟩ := right_nats hright
    have hvl := vals_le (okB_iff.1 hokb)
    have hrow : NatRow w (.slice p ws.length c) (natsOf ws) := IntRow.nat (by rw [show ints (natsOf ws) = ws from hwsn.symm]; exact HR.out)
    have hvlen : (vals (tx s)).length ≤ 31 := by rw [vals_len]; omega
    have hp := rpasses_any k (natsOf ws) (vals (tx s)) (.slice p ws.length c) v' w1 hok (hrow.below (Nat.le_refl _) hb1) (NatRow.of_owns ho) hvlen hvl.1 (fun h => hvl.2 (beq_eq_false_iff_ne.2 h))
    obtain ⟨pv, cv, rfl⟩ := ownsRow_form ho
    have HP := Lib.hid hp
    clear hp ho hrow hvl hokb h31 hce hright hok hwsn hvlen
    go_wp2_with fail
    refine HP.out.mono ?_
    rintro e w2 ⟨rfl, hb2⟩
    have HB2 : Hid ((result k (natsOf ws) (vals (tx s)) == 0) = B) := Lib.hid (by rw [HT.out]; rfl)
    rw [HB2.out]
    go_wp2
    go_ret2
    exact ⟨rfl, hb1.trans (hb2.mono hb1.size)⟩
  · have hEb : ((E : Int) == 0) = false := by rw [beq_eq_false_iff_ne]; omega
    have hEn : ((E : Int) != 0) = true := by rw [bne_iff_ne]; omega
    have hBf : B = false := by rw [HT.out, beq_eq_false_iff_ne.2 h0]; rfl
    subst hBf
    clear h0
    go_wp2
    go_ret2
    exact ⟨rfl, hb1⟩
end Go.Proofs.YtnmnfbibjghjhaaDoor
