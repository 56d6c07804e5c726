/-
  The walks of Append, checked, Test and passes.
-/
import Derived.Laws.IdiomStrings
import Derived.Test.YtnmnfbibjghjhaaDoorDh
namespace Go.Proofs.YtnmnfbibjghjhaaDoor
open Go.RowKit Dig

theorem natbeq0 (n : Nat) : (((n : Nat) : Int) == 0) = (n == 0) := by
  cases n with
  | zero => rfl
  | succ n => rw [beq_eq_false_iff_ne.2 (Nat.succ_ne_zero n), beq_eq_false_iff_ne]; omega
/-- 'string([]byte{c})'. -/
theorem conv_one (W : World) (C : Nat) (hC : C < 256) : (convert 22 9 (.slice (some ⟨W.heap.size, 0, none⟩) 1 1)).run Tryd.prog (W.alloc (.cells #[.int .u8 (C : Int)] 5)) = .ok (.string ⟨#[UInt8.ofNat C]⟩) (W.alloc (.cells #[.int .u8 (C : Int)] 5)) := by
  have := run_convert_bytes_back (P := Tryd.prog) (W.alloc (.cells #[.int .u8 (C : Int)] 5)) 22 9 5 ⟨W.heap.size, 0, none⟩ 1 [UInt8.ofNat C] Tryd.underlying22 Tryd.underlying5 Tryd.underlying9 (fun j hj => by
    have hj0 : j = 0 := by simp at hj; exact hj
    subst hj0
    have h := (BlockAt.new W #[.int .u8 (C : Int)] 5).newCells rfl 0 (.int .u8 (C : Int)) rfl
    rw [h]
    simp [UInt8.toNat_ofNat', Nat.mod_eq_of_lt hC])
  exact this
theorem tx_push (s : ByteArray) (C : Nat) (hC : C < 256) : tx (s ++ ⟨#[UInt8.ofNat C]⟩) = tx s ++ [C] := by
  rw [tx_append]
  congr 1
  simp [tx, UInt8.toNat_ofNat', Nat.mod_eq_of_lt hC]
theorem shownB_lt {x : Nat} (h : x < 11) : shownB x < 256 := by unfold shownB; split <;> omega
theorem last_lt11 (k : Nat) (ws vs : List Nat) (hv : k = 4 → ∀ v ∈ vs, v < 10) : lastOf k ws vs < 11 := by
  unfold lastOf
  by_cases h4 : k = 4
  · rw [if_pos h4]
    have hr10 : result k ws vs < 10 := by unfold result; rw [if_pos h4]; exact permFrom_lt _ 0 0 (by decide) (hv h4)
    have := inv_lt _ hr10
    omega
  · rw [if_neg h4]; have := Nat.mod_lt (modOf k - result k ws vs) (modOf_pos k); have := modOf_le k; omega
theorem checkVal_lt (k : Nat) (ws : List Int) (t : List Nat) : checkVal k ws t < 256 := by
  unfold checkVal
  split
  · rename_i h
    refine shownB_lt (last_lt11 _ _ _ fun _ => ?_)
    unfold checkErr at h
    split at h
    · cases h
    · split at h
      · cases h
      · split at h
        · cases h
        · rename_i h3
          have hok : okB false (t ++ [48]) = true := by
            cases e : okB false (t ++ [48]) with
            | true => rfl
            | false => exact absurd (.inl e) h3
          exact (vals_le (okB_iff.1 hok)).2 rfl
  · decide

set_option maxHeartbeats 4000000 in
theorem append_any (k : Nat) (ws : List Int) (v : Value) (s : ByteArray) (w : World) (hs : SysIn w k ws v) (hl : s.size ≤ 999) :
    Calls Tryd.prog 13 #[.agg #[.int .u8 k, v], .string s] w fun e w' => ∃ S : ByteArray, e = .returned (.tuple #[.string S, .int .i64 (checkErr k ws (tx s) : Nat)]) ∧ (checkErr k ws (tx s) = 0 → tx S = tx s ++ [checkVal k ws (tx s)]) ∧ Below w.heap.size w w' := by
  have HS := Lib.hid hs
  obtain ⟨⟨p, c, rfl, _⟩, _⟩ := hs
  obtain ⟨E, hE⟩ : ∃ E, checkErr k ws (tx s) = E := ⟨_, rfl⟩
  obtain ⟨C, hC⟩ : ∃ C, checkVal k ws (tx s) = C := ⟨_, rfl⟩
  rw [hE, hC]
  have hC256 : C < 256 := by rw [← hC]; exact checkVal_lt k ws (tx s)
  have H1 := Lib.hid hE
  have H2 := Lib.hid hC
  clear hE hC
  have hX : Below w.heap.size w (w.alloc (.cells #[.int .u8 k, .slice p ws.length c] 25)) := (Below.refl _ w).alloc (Nat.le_refl _) _
  go_enter Tryd.func13, Tryd.ntmps13
  go_wp2_with fail
  refine (check_any k ws _ s _ (HS.out.below (Nat.le_refl _) hX) hl).mono ?_
  rintro e w1 ⟨rfl, hb1⟩
  rw [H1.out, H2.out]
  by_cases h0 : E = 0
  · subst h0
    have hconv := conv_one w1 C hC256
    go_wp2
    go_ret2
    exact ⟨_, rfl, tx_push s C hC256, (hX.trans (hb1.mono (by simp))).alloc (by have := hb1.size; simp at this; omega) _⟩
  · have h0i : ((E : Int) == 0) = false := by rw [beq_eq_false_iff_ne]; omega
    go_wp2
    go_ret2
    exact ⟨_, rfl, fun h => absurd h h0, hX.trans (hb1.mono (by simp))⟩

set_option maxHeartbeats 4000000 in
theorem checked_any (k : Nat) (ws : List Int) (v : Value) (s : ByteArray) (w : World) (hs : SysIn w k ws v) (hl : s.size ≤ 999) :
    Calls Tryd.prog 32 #[.agg #[.int .u8 k, v], .string s] w fun e w' => ((chkErr k ws (tx s) = 0 ∧ ∃ v', e = .returned (.tuple #[v', .int .i64 0]) ∧ w'.ownsRow w.heap.size 3 1 v' s.size (natCells (vals (tx s)))) ∨
      (chkErr k ws (tx s) ≠ 0 ∧ e = .returned (.tuple #[.slice none 0 0, .int .i64 (chkErr k ws (tx s) : Nat)]))) ∧ Below w.heap.size w w' := by
  have HS := Lib.hid hs
  obtain ⟨⟨p, c, rfl, _⟩, _⟩ := hs
  have htl := tx_len s
  obtain ⟨E, hE⟩ : ∃ E, chkErr k ws (tx s) = E := ⟨_, rfl⟩
  rw [hE]
  have H1 := Lib.hid hE
  clear hE
  go_enter Tryd.func32, Tryd.ntmps32
  go_wp2_with fail
  have x0 : BlockAt (w.alloc (.cells #[.int .u8 k, .slice p ws.length c] 25)) w.heap.size #[.int .u8 k, .slice p ws.length c] 25 := BlockAt.new w _ 25
  have hX : Below w.heap.size w (w.alloc (.cells #[.int .u8 k, .slice p ws.length c] 25)) := (Below.refl _ w).alloc (Nat.le_refl _) _
  refine (right_any k ws _ _ (HS.out.below (Nat.le_refl _) hX).row).mono ?_
  rintro e w1 ⟨rfl, hb1⟩
  have x1 := x0.below hb1
  have hX1 := hX.trans (hb1.mono (by simp))
  clear x0 hX hb1
  obtain ⟨p0, p1, _, _⟩ := x1.two
  have v0 := x1.lt
  cases hR : rightB k ws with
  | false =>
    have he : E = 160 := by rw [← H1.out]; unfold chkErr; rw [if_pos hR]
    subst he
    go_wp2
    go_ret2
    exact ⟨.inr ⟨by decide, rfl⟩, hX1⟩
  | true =>
    have HR := Lib.hid hR
    clear hR
    by_cases h31 : 31 < s.size
    · have he : E = 3 := by rw [← H1.out]; unfold chkErr; rw [if_neg (by rw [HR.out]; decide), if_pos (by omega)]
      subst he
      have h31i : (31 : Int) < (s.size : Int) := by omega
      go_wp2
      go_ret2
      exact ⟨.inr ⟨by decide, rfl⟩, hX1⟩
    · have h31i : (s.size : Int) ≤ 31 := by omega
      have hbeq : ((k : Int) == 2) = (k == 2) := by
        by_cases h : k = 2
        · subst h; rfl
        · rw [beq_eq_false_iff_ne.2 h, beq_eq_false_iff_ne]; omega
      obtain ⟨x, hx⟩ : ∃ x : Bool, (k == 2) = x := ⟨_, rfl⟩
      rw [hx] at hbeq
      have HX := Lib.hid hx
      clear hx
      go_wp2_with fail
      refine (values_any _ x _ (by omega)).mono ?_
      rintro e w2 ⟨hcase, hb2⟩
      rw [htl] at hcase
      have hX2 := hX1.trans (hb2.mono (Nat.le_of_lt v0))
      clear x1 hX1 p0 p1
      rcases hcase with ⟨hok, v', rfl, ho2⟩ | ⟨hno, rfl⟩
      · obtain ⟨pp, cc, rfl⟩ := ownsRow_form ho2
        have hokB : okB x (tx s) = true := okB_iff.2 hok
        have HO := Lib.hid (ownsRow_lower ho2 (Nat.le_of_lt v0))
        by_cases h2 : s.size < 2
        · have he : E = 161 := by rw [← H1.out]; unfold chkErr; rw [if_neg (by rw [HR.out]; decide), if_neg (by omega), if_pos (.inr (by omega))]
          subst he
          have h2i : (s.size : Int) < 2 := by omega
          clear hok hokB ho2
          go_wp2
          go_ret2
          exact ⟨.inr ⟨by decide, rfl⟩, hX2⟩
        · have he : E = 0 := by rw [← H1.out]; unfold chkErr; rw [if_neg (by rw [HR.out]; decide), if_neg (by omega), if_neg (by rw [HX.out, hokB, htl]; intro h; rcases h with h | h; cases h; exact h2 h)]
          subst he
          have h2i : (2 : Int) ≤ (s.size : Int) := by omega
          clear hok hokB ho2
          go_wp2
          go_ret2
          exact ⟨⟨_, rfl, HO.out⟩, hX2⟩
      · have hokB : okB x (tx s) = false := by
          cases h : okB x (tx s) with
          | false => rfl
          | true => exact absurd (okB_iff.1 h) hno
        have he : E = 161 := by rw [← H1.out]; unfold chkErr; rw [if_neg (by rw [HR.out]; decide), if_neg (by omega), HX.out, if_pos (.inl hokB)]
        subst he
        clear hno hokB
        go_wp2
        go_ret2
        exact ⟨.inr ⟨by decide, rfl⟩, hX2⟩
theorem chk_ok {k : Nat} {ws : List Int} {t : List Nat} (h : chkErr k ws t = 0) : rightB k ws = true ∧ t.length ≤ 31 ∧ 2 ≤ t.length ∧ txOk (k == 2) t := by
  unfold chkErr at h
  split at h
  · cases h
  · rename_i h1
    split at h
    · cases h
    · rename_i h2
      split at h
      · cases h
      · rename_i h3
        refine ⟨by simpa using h1, by omega, by omega, okB_iff.1 ?_⟩
        cases e : okB (k == 2) t with
        | true => rfl
        | false => exact absurd (.inl e) h3

set_option maxHeartbeats 4000000 in
theorem test_any (k : Nat) (ws : List Int) (v : Value) (s : ByteArray) (w : World) (hs : SysIn w k ws v) (hl : s.size ≤ 999) :
    Calls Tryd.prog 20 #[.agg #[.int .u8 k, v], .string s] w fun e w' => e = .returned (.tuple #[.bool (testB k ws (tx s)), .int .i64 (chkErr k ws (tx s) : Nat)]) ∧ Below w.heap.size w w' := by
  have HS := Lib.hid hs
  obtain ⟨⟨p, c, rfl, _⟩, _⟩ := hs
  have htl := tx_len s
  obtain ⟨E, hE⟩ : ∃ E, chkErr k ws (tx s) = E := ⟨_, rfl⟩
  obtain ⟨T, hT⟩ : ∃ T, testB k ws (tx s) = T := ⟨_, rfl⟩
  rw [hE, hT]
  have H1 := Lib.hid hE
  have H2 := Lib.hid hT
  clear hE hT
  go_enter Tryd.func20, Tryd.ntmps20
  go_wp2_with fail
  have x0 : BlockAt (w.alloc (.cells #[.int .u8 k, .slice p ws.length c] 25)) w.heap.size #[.int .u8 k, .slice p ws.length c] 25 := BlockAt.new w _ 25
  have hX : Below w.heap.size w (w.alloc (.cells #[.int .u8 k, .slice p ws.length c] 25)) := (Below.refl _ w).alloc (Nat.le_refl _) _
  refine (checked_any k ws _ s _ (HS.out.below (Nat.le_refl _) hX) hl).mono ?_
  rintro e w1 ⟨hcase, hb1⟩
  rw [H1.out] at hcase
  have x1 := x0.below hb1
  have hX1 := hX.trans (hb1.mono (by simp))
  clear x0 hX hb1
  obtain ⟨p0, p1, _, _⟩ := x1.two
  have v0 := x1.lt
  rcases hcase with ⟨rfl, v', rfl, ho⟩ | ⟨hne, rfl⟩
  · obtain ⟨hR, h31, h2, hok⟩ := chk_ok H1.out
    obtain ⟨pp, cc, rfl⟩ := ownsRow_form ho
    have HN := Lib.hid (NatRow.of_owns ho)
    have HR := Lib.hid hR
    obtain ⟨hv10, hv9⟩ := vals_le hok
    have HV := Lib.hid (And.intro hv10 hv9)
    have hTr : T = (result k (natsOf ws) (vals (tx s)) == 0) := by rw [← H2.out]; unfold testB; rw [H1.out]; rfl
    have HT := Lib.hid hTr
    have hvl : (vals (tx s)).length ≤ 100 := by rw [vals_len]; omega
    clear hok ho hv10 hv9 hTr hR h31 h2
    go_wp2_with (go_at_call 33; refine (result_any k (natsOf ws) (vals (tx s)) _ _ _ ((HS.out.below (Nat.le_refl _) hX1).at HR.out) HN.out hvl HV.out.1 (fun h4 => HV.out.2 (by rw [h4]; rfl))).mono ?_; rintro e w2 ⟨rfl, hb2⟩)
    go_ret2
    refine ⟨?_, hX1.trans (hb2.mono (Nat.le_of_lt v0))⟩
    rw [HT.out]
    show Ending.returned (Value.tuple #[Value.bool _, _]) = Ending.returned (Value.tuple #[Value.bool _, _])
    congr 4
    exact congrArg Value.bool (natbeq0 _)
  · have hei : ((E : Int) == 0) = false := by rw [beq_eq_false_iff_ne]; omega
    have hTf : T = false := by rw [← H2.out]; unfold testB; rw [H1.out, beq_eq_false_iff_ne.2 hne]; rfl
    subst hTf
    go_wp2
    go_ret2
    exact ⟨rfl, hX1⟩

set_option maxHeartbeats 4000000 in
theorem passes_any (k : Nat) (ws : List Int) (v : Value) (s : ByteArray) (w : World) (hs : SysIn w k ws v) (hl : s.size ≤ 999) :
    Calls Tryd.prog 17 #[.agg #[.int .u8 k, v], .string s] w fun e w' => e = .returned (.bool (testB k ws (tx s))) ∧ Below w.heap.size w w' := by
  have HS := Lib.hid hs
  obtain ⟨⟨p, c, rfl, _⟩, _⟩ := hs
  obtain ⟨E, hE⟩ : ∃ E, chkErr k ws (tx s) = E := ⟨_, rfl⟩
  obtain ⟨T, hT⟩ : ∃ T, testB k ws (tx s) = T := ⟨_, rfl⟩
  have hTE : T = true → E = 0 := fun h => by rw [← hE]; rw [← hT] at h; unfold testB at h; rw [Bool.and_eq_true] at h; exact beq_iff_eq.1 h.1
  rw [hT]
  have H1 := Lib.hid hE
  have H2 := Lib.hid hT
  clear hE hT
  have hX : Below w.heap.size w (w.alloc (.cells #[.int .u8 k, .slice p ws.length c] 25)) := (Below.refl _ w).alloc (Nat.le_refl _) _
  cases T with
  | true =>
    obtain rfl := hTE rfl
    go_enter Tryd.func17, Tryd.ntmps17
    go_wp2_with (go_at_call 20; refine (test_any k ws _ s _ (HS.out.below (Nat.le_refl _) hX) hl).mono ?_; rintro e w1 ⟨rfl, hb1⟩; rw [H1.out, H2.out])
    go_ret
    exact ⟨rfl, hX.trans (hb1.mono (by simp))⟩
  | false =>
    go_enter Tryd.func17, Tryd.ntmps17
    go_wp2_with (go_at_call 20; refine (test_any k ws _ s _ (HS.out.below (Nat.le_refl _) hX) hl).mono ?_; rintro e w1 ⟨rfl, hb1⟩; rw [H1.out, H2.out])
    go_ret
    exact ⟨rfl, hX.trans (hb1.mono (by simp))⟩
end Go.Proofs.YtnmnfbibjghjhaaDoor
