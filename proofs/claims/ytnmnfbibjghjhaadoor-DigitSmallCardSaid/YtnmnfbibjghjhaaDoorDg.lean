/-
  The walk of Right.
-/
import Derived.Test.YtnmnfbibjghjhaaDoorDf
namespace Go.Proofs.YtnmnfbibjghjhaaDoor
open Go.RowKit Dig

/-- A slice of whatever numbers, as it lies. -/
def IntRow (W : World) (v : Value) (ps : List Int) : Prop := ∃ p cap, v = .slice p ps.length cap ∧ (ps = [] ∨ ∃ b o, p = some ⟨b, o, none⟩ ∧ b < W.heap.size ∧ ∀ k x, ps[k]? = some x → W.cell? ⟨b, o + k, none⟩ = some (.int .i64 x))
theorem IntRow.below {B : Nat} {W W' : World} {v : Value} {ps : List Int} (h : IntRow W v ps) (hB : W.heap.size ≤ B) (hb : Below B W W') : IntRow W' v ps := by
  obtain ⟨p, cap, rfl, h⟩ := h
  refine ⟨p, cap, rfl, h.imp id ?_⟩
  rintro ⟨b, o, rfl, hlt, hc⟩
  exact ⟨b, o, rfl, Nat.lt_of_lt_of_le hlt hb.size, fun k x hx => (hb.cell (p := ⟨b, o + k, none⟩) (Nat.lt_of_lt_of_le hlt hB)).trans (hc k x hx)⟩
theorem NatRow.int {W : World} {v : Value} {vs : List Nat} (h : NatRow W v vs) : IntRow W v (vs.map fun (x : Nat) => (x : Int)) := by
  obtain ⟨p, cap, rfl, h⟩ := h
  refine ⟨p, cap, by simp, ?_⟩
  rcases h with rfl | ⟨b, o, rfl, hlt, hc⟩
  · exact .inl rfl
  · refine .inr ⟨b, o, rfl, hlt, fun k x hx => ?_⟩
    rw [List.getElem?_map] at hx
    obtain ⟨y, hy, rfl⟩ := Option.map_eq_some_iff.1 hx
    exact hc k y hy
/-- Whether a system is right. -/
def rightB (k : Nat) (ws : List Int) : Bool := if k = 3 ∨ k = 4 then decide (ws.length = 0) else if k = 1 ∨ k = 2 then decide (1 ≤ ws.length ∧ ws.length ≤ 10 ∧ ∀ w ∈ ws, 1 ≤ w ∧ w < (modOf k : Nat)) else false

set_option maxHeartbeats 4000000 in
theorem right_any (k : Nat) (ws : List Int) (v : Value) (w : World) (hr : IntRow w v ws) :
    Calls Tryd.prog 22 #[.agg #[.int .u8 k, v]] w fun e w' => e = .returned (.bool (rightB k ws)) ∧ Below w.heap.size w w' := by
  obtain ⟨p, c, rfl, hcs⟩ := hr
  by_cases h34 : k = 3 ∨ k = 4
  · have hR : rightB k ws = decide (ws.length = 0) := by unfold rightB; rw [if_pos h34]
    rw [hR]
    have hX : Below w.heap.size w (w.alloc (.cells #[.int .u8 k, .slice p ws.length c] 25)) := (Below.refl _ w).alloc (Nat.le_refl _) _
    rcases h34 with rfl | rfl
    all_goals
      go_enter Tryd.func22, Tryd.ntmps22
      go_wp2
      go_ret
      refine ⟨?_, hX⟩
      show Ending.returned (Value.bool _) = Ending.returned (Value.bool _)
      congr 2
      by_cases h0 : ws.length = 0
      · simp [h0]
      · simp [h0]
  · by_cases h12 : k = 1 ∨ k = 2
    · have hM := modOf_ge k
      have hM1 := modOf_le k
      obtain ⟨M, hMe⟩ : ∃ M, modOf k = M := ⟨_, rfl⟩
      have hM2 : modOf (Int.toNat (k : Int)) = M := by rw [Int.toNat_natCast]; exact hMe
      rw [hMe] at hM hM1
      have hR : rightB k ws = decide (1 ≤ ws.length ∧ ws.length ≤ 10 ∧ ∀ w ∈ ws, 1 ≤ w ∧ w < (M : Int)) := by unfold rightB; rw [if_neg h34, if_pos h12, hMe]
      rw [hR]
      clear hR
      have hk3 : ((k : Int) == 3) = false := by rw [beq_eq_false_iff_ne]; omega
      have hk4 : ((k : Int) == 4) = false := by rw [beq_eq_false_iff_ne]; omega
      have hX : Below w.heap.size w (w.alloc (.cells #[.int .u8 k, .slice p ws.length c] 25)) := (Below.refl _ w).alloc (Nat.le_refl _) _
      by_cases hlen : 1 ≤ ws.length ∧ ws.length ≤ 10
      · obtain ⟨hl1, hl2⟩ := hlen
        have hl1i : (1 : Int) ≤ (ws.length : Int) := by omega
        have hl2i : (ws.length : Int) ≤ 10 := by omega
        obtain ⟨b, o, rfl, hbl, hcs⟩ : ∃ b o, p = some ⟨b, o, none⟩ ∧ b < w.heap.size ∧ ∀ k x, ws[k]? = some x → w.cell? ⟨b, o + k, none⟩ = some (.int .i64 x) := by
          rcases hcs with rfl | h
          · simp at hl1
          · exact h
        have HC := Lib.hid hcs
        clear hcs
        have x0 : BlockAt (w.alloc (.cells #[.int .u8 k, .slice (some ⟨b, o, none⟩) ws.length c] 25)) w.heap.size #[.int .u8 k, .slice (some ⟨b, o, none⟩) ws.length c] 25 := BlockAt.new w _ 25
        obtain ⟨D, hD⟩ : ∃ D : Bool, decide (1 ≤ ws.length ∧ ws.length ≤ 10 ∧ ∀ w ∈ ws, 1 ≤ w ∧ w < (M : Int)) = D := ⟨_, rfl⟩
        rw [hD]
        have HD := Lib.hid hD
        clear hD
        have main : ∀ hd : (((k : Int) == 1) = true ∨ (((k : Int) == 1) = false ∧ ((k : Int) == 2) = true)), Calls Tryd.prog 22 #[.agg #[.int .u8 k, .slice (some ⟨b, o, none⟩) ws.length c]] w fun e w' => e = .returned (.bool D) ∧ Below w.heap.size w w' := by
          intro hd
          rcases hd with hd | ⟨hd, hd2⟩
          all_goals
            go_enter Tryd.func22, Tryd.ntmps22
            go_wp2_with fail
            go_loopw [30] (fun iv wr => ∃ i : Nat, iv = .int .i64 i ∧ i ≤ ws.length ∧ Hid (∀ q x, q < i → ws[q]? = some x → 1 ≤ x ∧ x < (M : Int)) ∧ BlockAt wr w.heap.size #[.int .u8 k, .slice (some ⟨b, o, none⟩) ws.length c] 25 ∧ Below w.heap.size w wr)
              (fun iv _ => ws.length - (intOf iv).toNat)
            case atStart => exact ⟨0, rfl, by omega, Lib.hid (fun q x hq => by omega), x0, hX⟩
            case round =>
              clear x0 hX
              obtain ⟨i, rfl, hi, hok, x0, hX⟩ := hrel
              obtain ⟨p0, p1, _, _⟩ := x0.two
              have v0 := x0.lt
              by_cases hlt : i < ws.length
              · have hlti : (i : Int) < (ws.length : Int) := by omega
                obtain ⟨x, hx⟩ : ∃ x, ws[i]? = some x := ⟨_, List.getElem?_eq_getElem hlt⟩
                have hcx : wr.cell? ⟨b, o + i, none⟩ = some (.int .i64 x) := (hX.cell (p := ⟨b, o + i, none⟩) hbl).trans (HC.out i x hx)
                have HX := Lib.hid hx
                clear hx
                by_cases h1 : x < 1
                · go_wp2
                  go_ret
                  refine ⟨?_, hX⟩
                  rw [← HD.out, decide_eq_false (p := 1 ≤ ws.length ∧ ws.length ≤ 10 ∧ ∀ w ∈ ws, 1 ≤ w ∧ w < (M : Int)) (fun h => by have := h.2.2 x (List.mem_of_getElem? HX.out); omega)]
                  rfl
                · have h1i : (1 : Int) ≤ x := by omega
                  by_cases h2 : x < (M : Int)
                  · go_wp2_with (go_at_call 38; refine (mod_any k _ _ (by omega)).mono ?_; rintro e w2 ⟨rfl, hb2⟩; rw [hM2])
                    go_roundw
                    case rel => exact ⟨i + 1, by go_num, by omega, Lib.hid (fun q y hq hy => by
                      by_cases e : q = i
                      · subst e; rw [HX.out] at hy; cases hy; exact ⟨h1i, h2⟩
                      · exact hok.out q y (by omega) hy), x0.below hb2, hX.trans (hb2.mono (Nat.le_of_lt v0))⟩
                    case measure => simp [intOf] <;> omega
                  · have h2i : (M : Int) ≤ x := by omega
                    go_wp2_with (go_at_call 38; refine (mod_any k _ _ (by omega)).mono ?_; rintro e w2 ⟨rfl, hb2⟩; rw [hM2])
                    go_ret
                    refine ⟨?_, hX.trans (hb2.mono (Nat.le_of_lt v0))⟩
                    rw [← HD.out, decide_eq_false (p := 1 ≤ ws.length ∧ ws.length ≤ 10 ∧ ∀ w ∈ ws, 1 ≤ w ∧ w < (M : Int)) (fun h => by have := h.2.2 x (List.mem_of_getElem? HX.out); omega)]
                    rfl
              · have hii : ¬ (i : Int) < (ws.length : Int) := by omega
                go_wp2
                go_ret
                refine ⟨?_, hX⟩
                rw [← HD.out, decide_eq_true (p := 1 ≤ ws.length ∧ ws.length ≤ 10 ∧ ∀ w ∈ ws, 1 ≤ w ∧ w < (M : Int)) ⟨hl1, hl2, fun x hx => by
                  obtain ⟨q, hq, hqe⟩ := List.getElem_of_mem hx
                  exact hok.out q x (by omega) (by rw [List.getElem?_eq_getElem hq, hqe])⟩]
                rfl
        rcases h12 with rfl | rfl
        · exact main (.inl rfl)
        · exact main (.inr ⟨rfl, rfl⟩)
      · have hdec : decide (1 ≤ ws.length ∧ ws.length ≤ 10 ∧ ∀ w ∈ ws, 1 ≤ w ∧ w < (M : Int)) = false := decide_eq_false (fun h => hlen ⟨h.1, h.2.1⟩)
        rw [hdec]
        rcases (by omega : ws.length < 1 ∨ (1 ≤ ws.length ∧ 10 < ws.length)) with h | ⟨h, h2⟩
        · have hi : (ws.length : Int) < 1 := by omega
          rcases h12 with rfl | rfl
          all_goals
            go_enter Tryd.func22, Tryd.ntmps22
            go_wp2
            go_ret
            exact ⟨rfl, hX⟩
        · have hi : (1 : Int) ≤ (ws.length : Int) := by omega
          have hi2 : (10 : Int) < (ws.length : Int) := by omega
          rcases h12 with rfl | rfl
          all_goals
            go_enter Tryd.func22, Tryd.ntmps22
            go_wp2
            go_ret
            exact ⟨rfl, hX⟩
    · have hR : rightB k ws = false := by unfold rightB; rw [if_neg h34, if_neg h12]
      rw [hR]
      have hX : Below w.heap.size w (w.alloc (.cells #[.int .u8 k, .slice p ws.length c] 25)) := (Below.refl _ w).alloc (Nat.le_refl _) _
      have hk1 : ((k : Int) == 1) = false := by rw [beq_eq_false_iff_ne]; omega
      have hk2 : ((k : Int) == 2) = false := by rw [beq_eq_false_iff_ne]; omega
      have hk3 : ((k : Int) == 3) = false := by rw [beq_eq_false_iff_ne]; omega
      have hk4 : ((k : Int) == 4) = false := by rw [beq_eq_false_iff_ne]; omega
      go_enter Tryd.func22, Tryd.ntmps22
      go_wp2
      go_ret
      exact ⟨rfl, hX⟩
end Go.Proofs.YtnmnfbibjghjhaaDoor
