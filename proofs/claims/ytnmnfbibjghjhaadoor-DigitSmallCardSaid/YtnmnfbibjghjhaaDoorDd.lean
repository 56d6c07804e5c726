/-
  The walk of result: what is left of a text.
-/
import Derived.Test.YtnmnfbibjghjhaaDoorDc
namespace Go.Proofs.YtnmnfbibjghjhaaDoor
open Go.RowKit Dig

/-- The two tables lie as the program's text lays them. -/
def Tabs (W : World) : Prop := (∀ x : Nat, x < 10 → W.cell? ⟨0, x, none⟩ = some (.int .i64 ((turn1 x : Nat) : Int))) ∧ ∀ x y : Nat, x < 10 → y < 10 → W.cell? ⟨1, x * 10 + y, none⟩ = some (.int .i64 ((prod x y : Nat) : Int))
theorem Tabs.two {W : World} (h : Tabs W) : 1 < W.heap.size := World.block_lt_of_cell? W ⟨1, 0 * 10 + 0, none⟩ (h.2 0 0 (by decide) (by decide))
theorem Tabs.below {B : Nat} {W W' : World} (h : Tabs W) (hB : W.heap.size ≤ B) (hb : Below B W W') : Tabs W' :=
  ⟨fun x hx => (hb.cell (p := ⟨0, x, none⟩) (by have := h.two; show 0 < B; omega)).trans (h.1 x hx), fun x y hx hy => (hb.cell (p := ⟨1, x * 10 + y, none⟩) (by have := h.two; show 1 < B; omega)).trans (h.2 x y hx hy)⟩
/-- What a system is in a memory: its kind and its weights. -/
structure SysAt (W : World) (k : Nat) (ws : List Nat) (v : Value) : Prop where
  ok : SysOk k ws
  row : NatRow W v ws
  tabs : Tabs W
theorem SysAt.below {B : Nat} {W W' : World} {k : Nat} {ws : List Nat} {v : Value} (h : SysAt W k ws v) (hB : W.heap.size ≤ B) (hb : Below B W W') : SysAt W' k ws v := ⟨h.ok, h.row.below hB hb, h.tabs.below hB hb⟩
theorem sys_worth {k : Nat} {ws : List Nat} (h : SysOk k ws) (h4 : k ≠ 4) : ((((k : Int) = 1 ∨ (k : Int) = 2) ∧ ws ≠ [] ∧ ws.length ≤ 10 ∧ ∀ u ∈ ws, u ≤ 10) ∨ (k : Int) = 3) := by
  rcases h with ⟨h, _⟩ | ⟨hk, h1, h2, h3⟩
  · exact .inr (by omega)
  · refine .inl ⟨by omega, fun e => by rw [e] at h1; simp at h1, h2, fun u hu => ?_⟩
    have := h3 u hu
    have := modOf_le k
    omega
theorem worth_le {k : Nat} {ws : List Nat} (h : SysOk k ws) (h4 : k ≠ 4) (p : Nat) {x : Nat} (hx : x ≤ 10) : worth k ws p x ≤ 100 := by
  unfold worth
  split
  · unfold dbl; split <;> omega
  · rename_i h3
    have hk : k = 1 ∨ k = 2 := by rcases h with ⟨h, _⟩ | ⟨h, _⟩ <;> omega
    have := wt_ok h hk p
    have h2 := modOf_le k
    have : wt ws p * x ≤ 10 * 10 := Nat.mul_le_mul (by omega) hx
    exact this
theorem sumFrom_le {k : Nat} {ws : List Nat} (h : SysOk k ws) (h4 : k ≠ 4) : ∀ (vs : List Nat) (p : Nat), (∀ v ∈ vs, v ≤ 10) → sumFrom k ws p vs ≤ 100 * vs.length
  | [], _, _ => by simp [sumFrom]
  | x :: vs, p, hv => by
    have h1 := worth_le h h4 p (hv x (by simp))
    have h2 := sumFrom_le h h4 vs (p + 1) (fun v hm => hv v (by simp [hm]))
    show worth k ws p x + sumFrom k ws (p + 1) vs ≤ 100 * (vs.length + 1)
    omega
theorem take_snoc {α : Type} {l : List α} {k : Nat} {x : α} (h : l[k]? = some x) : l.take (k + 1) = l.take k ++ [x] := by
  rw [List.take_add_one, h]; rfl
theorem sum_step {k : Nat} {ws vs : List Nat} {p x : Nat} (h : vs[p]? = some x) : sumFrom k ws 0 (vs.take (p + 1)) = sumFrom k ws 0 (vs.take p) + worth k ws p x := by
  have hl : p < vs.length := (List.getElem?_eq_some_iff.1 h).1
  rw [take_snoc h, sumFrom_append, List.length_take, Nat.min_eq_left (by omega), Nat.zero_add]
  show _ + (worth k ws p x + 0) = _
  omega
theorem perm_step {vs : List Nat} {p x : Nat} (h : vs[p]? = some x) : permFrom 0 0 (vs.take (p + 1)) = prod (permFrom 0 0 (vs.take p)) (turnN (p % 8) x) := by
  have hl : p < vs.length := (List.getElem?_eq_some_iff.1 h).1
  rw [take_snoc h, permFrom_append, List.length_take, Nat.min_eq_left (by omega), Nat.zero_add]
  rfl

set_option maxHeartbeats 4000000 in
theorem result_perm (vs : List Nat) (sv lv : Value) (w : World) (ht : Tabs w) (hr : NatRow w lv vs) (hsv : ∃ p c, sv = .slice p 0 c) (hl : vs.length ≤ 100) (hv : ∀ v ∈ vs, v < 10) :
    Calls Tryd.prog 33 #[.agg #[.int .u8 4, sv], lv] w fun e w' => e = .returned (.int .i64 (result 4 [] vs : Nat)) ∧ Below w.heap.size w w' := by
  obtain ⟨sp, sc, rfl⟩ := hsv
  have hr2 := hr
  obtain ⟨p, c, rfl, hcs⟩ := hr
  go_enter Tryd.func33, Tryd.ntmps33
  go_wp2_with fail
  obtain ⟨W, hW⟩ : ∃ W, w.alloc (.cells #[.int .u8 4, .slice sp 0 sc] 25) = W := ⟨_, rfl⟩
  have hX : Below w.heap.size w W := by rw [← hW]; exact (Below.refl _ w).alloc (Nat.le_refl _) _
  have hT : Tabs W := ht.below (Nat.le_refl _) hX
  have hR : NatRow W (.slice p vs.length c) vs := hr2.below (Nat.le_refl _) hX
  rw [hW]
  clear hW hr2 hcs ht
  go_loopw [5, 15] (fun ov pv wr => ∃ i : Nat, pv = .int .i64 i ∧ i ≤ vs.length ∧ ov = .int .i64 ((permFrom 0 0 (vs.take i) : Nat) : Int) ∧ wr = W)
    (fun _ pv _ => vs.length - (intOf pv).toNat)
  case atStart => exact ⟨0, rfl, by omega, rfl, rfl⟩
  case round =>
    obtain ⟨i, rfl, hi, rfl, rfl⟩ := hrel
    by_cases hlt : i < vs.length
    · have hlti : (i : Int) < (vs.length : Int) := by omega
      obtain ⟨x, hx⟩ : ∃ x, vs[i]? = some x := ⟨_, List.getElem?_eq_getElem hlt⟩
      have hx10 : x < 10 := hv x (List.mem_of_getElem? hx)
      obtain ⟨p', c', he, hcs⟩ := hR
      cases he
      rcases hcs with rfl | ⟨b, o, rfl, hbl, hcs⟩
      · simp at hlt
      have hcx : wr.cell? ⟨b, o + i, none⟩ = some (.int .i64 (x : Int)) := hcs i x hx
      obtain ⟨m, hm⟩ : ∃ m : Nat, (i : Int) % 8 = (m : Int) := ⟨i % 8, by omega⟩
      have hm8 := Lib.hid (show m = i % 8 by omega)
      have hP := permFrom_lt (vs.take i) 0 0 (by decide) (fun v hm => hv v (List.mem_of_mem_take hm))
      have hT1 := hT.1
      have hT2 := hT.2
      obtain ⟨P, hPe⟩ : ∃ P, permFrom 0 0 (vs.take i) = P := ⟨_, rfl⟩
      have hstep := perm_step hx
      rw [hPe] at hP hstep
      rw [hPe]
      have HS := Lib.hid hstep
      clear hstep hPe hcs
      go_wp2_with fail
      go_loopw [7, 22] (fun xv jv wz => ∃ j : Nat, jv = .int .i64 j ∧ j ≤ m ∧ xv = .int .i64 ((turnN j x : Nat) : Int) ∧ wz = wr)
        (fun _ jv _ => m - (intOf jv).toNat)
      case atStart => exact ⟨0, rfl, by omega, rfl, rfl⟩
      case round =>
        obtain ⟨j, rfl, hj, rfl, rfl⟩ := hrel
        have hy := turnN_lt j x hx10
        obtain ⟨y, hye⟩ : ∃ y, turnN j x = y := ⟨_, rfl⟩
        have hyn : turnN (j + 1) x = turn1 y := by rw [← hye]; rfl
        rw [hye] at hy ⊢
        have HY := Lib.hid hyn
        have HE := Lib.hid hye
        clear hyn hye
        by_cases hlj : j < m
        · have hlji : (j : Int) < (m : Int) := by omega
          have hc1 := hT1 y hy
          have hyi : (y : Int) < 10 := by omega
          clear hT1 hT2
          go_wp2
          go_roundw
          case rel => exact ⟨j + 1, by go_num, by omega, by rw [HY.out], trivial⟩
          case measure => simp [intOf]; omega
        · have hjm : ¬ (j : Int) < (m : Int) := by omega
          have hc2 := hT2 P y hP hy
          have hyi : (y : Int) < 10 := by omega
          have hPi : (P : Int) < 10 := by omega
          clear hT1 hT2
          go_wp2
          go_roundw
          case rel => exact ⟨i + 1, by go_num, by omega, by rw [HS.out, ← hm8.out, show m = j from by omega, HE.out], trivial⟩
          case measure => simp [intOf]; omega
    · have hii : ¬ (i : Int) < (vs.length : Int) := by omega
      go_wp2
      go_ret
      exact ⟨by rw [List.take_of_length_le (by omega)]; rfl, hX⟩

set_option maxHeartbeats 4000000 in
theorem result_sum (k : Nat) (ws vs : List Nat) (sv lv : Value) (w : World) (hs : SysAt w k ws sv) (h4 : k ≠ 4) (hr : NatRow w lv vs) (hl : vs.length ≤ 100) (hv : ∀ v ∈ vs, v ≤ 10) :
    Calls Tryd.prog 33 #[.agg #[.int .u8 k, sv], lv] w fun e w' => e = .returned (.int .i64 (result k ws vs : Nat)) ∧ Below w.heap.size w w' := by
  have HS := Lib.hid hs
  have HR := Lib.hid hr
  have hk4 : ((k : Int) == 4) = false := by rw [beq_eq_false_iff_ne]; omega
  obtain ⟨_, ⟨sp, sc, rfl, _⟩, _⟩ := hs
  obtain ⟨p, c, rfl, hcs⟩ := hr
  go_enter Tryd.func33, Tryd.ntmps33
  go_wp2_with fail
  have x0 : BlockAt (w.alloc (.cells #[.int .u8 k, .slice sp ws.length sc] 25)) w.heap.size #[.int .u8 k, .slice sp ws.length sc] 25 := BlockAt.new w _ 25
  have hX : Below w.heap.size w (w.alloc (.cells #[.int .u8 k, .slice sp ws.length sc] 25)) := (Below.refl _ w).alloc (Nat.le_refl _) _
  go_loopw [5, 37] (fun ov pv wr => ∃ i : Nat, pv = .int .i64 i ∧ i ≤ vs.length ∧ ov = .int .i64 ((sumFrom k ws 0 (vs.take i) : Nat) : Int) ∧ BlockAt wr w.heap.size #[.int .u8 k, .slice sp ws.length sc] 25 ∧ Below w.heap.size w wr)
    (fun _ pv _ => vs.length - (intOf pv).toNat)
  case atStart => exact ⟨0, rfl, by omega, rfl, x0, hX⟩
  case round =>
    clear x0 hX
    obtain ⟨i, rfl, hi, rfl, x0, hX⟩ := hrel
    obtain ⟨p0, p1, _, _⟩ := x0.two
    have v0 := x0.lt
    have hS : sumFrom k ws 0 (vs.take i) ≤ 10000 := Nat.le_trans (sumFrom_le HS.out.ok h4 (vs.take i) 0 (fun v hm => hv v (List.mem_of_mem_take hm))) (by rw [List.length_take]; omega)
    by_cases hlt : i < vs.length
    · have hlti : (i : Int) < (vs.length : Int) := by omega
      obtain ⟨x, hx⟩ : ∃ x, vs[i]? = some x := ⟨_, List.getElem?_eq_getElem hlt⟩
      have hx10 : x ≤ 10 := hv x (List.mem_of_getElem? hx)
      rcases hcs with rfl | ⟨b, o, rfl, hbl, hcs⟩
      · simp at hlt
      have hcx : wr.cell? ⟨b, o + i, none⟩ = some (.int .i64 (x : Int)) := (hX.cell (p := ⟨b, o + i, none⟩) hbl).trans (hcs i x hx)
      have hstep := sum_step (k := k) (ws := ws) hx
      obtain ⟨S, hSe⟩ : ∃ S, sumFrom k ws 0 (vs.take i) = S := ⟨_, rfl⟩
      rw [hSe] at hstep hS
      rw [hSe]
      have HT := Lib.hid hstep
      have hwl := worth_le HS.out.ok h4 i hx10
      clear hSe hstep
      go_wp2_with (go_at_call 37; refine (worth_any k ws _ i x _ (HS.out.row.below (Nat.le_refl _) hX) (sys_worth HS.out.ok h4) (by omega) (by omega)).mono ?_; rintro e w2 ⟨rfl, hb2⟩)
      go_roundw
      case rel => exact ⟨i + 1, by go_num, by omega, by rw [HT.out]; push_cast; rfl, x0.below hb2, hX.trans (hb2.mono (Nat.le_of_lt v0))⟩
      case measure => simp [intOf]; omega
    · have hii : ¬ (i : Int) < (vs.length : Int) := by omega
      have hmp := modOf_ge k
      have hml := modOf_le k
      rw [List.take_of_length_le (by omega)] at hS ⊢
      obtain ⟨S, hSe⟩ : ∃ S, sumFrom k ws 0 vs = S := ⟨_, rfl⟩
      have hres : result k ws vs = S % modOf k := by unfold result; rw [if_neg h4, hSe]
      rw [hSe] at hS ⊢
      obtain ⟨M, hM⟩ : ∃ M, modOf k = M := ⟨_, rfl⟩
      rw [hM] at hmp hml hres
      have hM2 : modOf (Int.toNat (k : Int)) = M := by rw [Int.toNat_natCast]; exact hM
      have HE := Lib.hid hres
      clear hSe hres
      have hmz : ((M : Int) == 0) = false := by rw [beq_eq_false_iff_ne]; omega
      go_wp2_with (go_at_call 38; refine (mod_any k _ _ (by omega)).mono ?_; rintro e w2 ⟨rfl, hb2⟩; rw [hM2])
      go_ret
      exact ⟨by rw [HE.out]; rfl, hX.trans (hb2.mono (Nat.le_of_lt v0))⟩

theorem result_any (k : Nat) (ws vs : List Nat) (sv lv : Value) (w : World) (hs : SysAt w k ws sv) (hr : NatRow w lv vs) (hl : vs.length ≤ 100) (hv : ∀ v ∈ vs, v ≤ 10) (hv4 : k = 4 → ∀ v ∈ vs, v < 10) :
    Calls Tryd.prog 33 #[.agg #[.int .u8 k, sv], lv] w fun e w' => e = .returned (.int .i64 (result k ws vs : Nat)) ∧ Below w.heap.size w w' := by
  by_cases h4 : k = 4
  · subst h4
    have hws : ws = [] := by
      rcases hs.ok with ⟨_, h⟩ | ⟨h, _⟩
      · exact h
      · omega
    subst hws
    obtain ⟨p, c, rfl, _⟩ := hs.row
    exact result_perm vs _ lv w hs.tabs hr ⟨p, c, rfl⟩ hl (hv4 rfl)
  · exact result_sum k ws vs sv lv w hs h4 hr hl hv
end Go.Proofs.YtnmnfbibjghjhaaDoor
