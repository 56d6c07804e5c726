/-
  The walks of Check, Append, checked and Test.
-/
import Derived.Test.YtnmnfbibjghjhaaDoorDg
namespace Go.Proofs.YtnmnfbibjghjhaaDoor
open Go.RowKit Dig

def okB (x : Bool) (t : List Nat) : Bool := (List.range t.length).all fun j => decide (chOk x j (t.reverse.getD j 0))
theorem okB_iff {x : Bool} {t : List Nat} : okB x t = true ↔ txOk x t := by
  unfold okB txOk
  rw [List.all_eq_true]
  constructor
  · intro h j c hc
    have hlt : j < t.length := by have := (List.getElem?_eq_some_iff.1 hc).1; rwa [List.length_reverse] at this
    have := of_decide_eq_true (h j (List.mem_range.2 hlt))
    rwa [List.getD_eq_getElem?_getD, hc] at this
  · intro h j hj
    have hlt := List.mem_range.1 hj
    refine decide_eq_true (h j _ ?_)
    rw [List.getD_eq_getElem?_getD, List.getElem?_eq_getElem (by rw [List.length_reverse]; exact hlt)]
    rfl
def natsOf (ws : List Int) : List Nat := ws.map Int.toNat
theorem natsOf_cast (ws : List Nat) : natsOf (ws.map fun (x : Nat) => (x : Int)) = ws := by simp [natsOf, List.map_map, Function.comp_def]
theorem right_nats {k : Nat} {ws : List Int} (h : rightB k ws = true) : ws = (natsOf ws).map (fun (x : Nat) => (x : Int)) ∧ SysOk k (natsOf ws) := by
  unfold rightB at h
  by_cases h34 : k = 3 ∨ k = 4
  · rw [if_pos h34] at h
    have := List.length_eq_zero_iff.1 (of_decide_eq_true h)
    subst this
    exact ⟨rfl, .inl ⟨h34, rfl⟩⟩
  · rw [if_neg h34] at h
    by_cases h12 : k = 1 ∨ k = 2
    · rw [if_pos h12] at h
      obtain ⟨h1, h2, h3⟩ := of_decide_eq_true h
      refine ⟨?_, .inr ⟨h12, by simpa [natsOf] using h1, by simpa [natsOf] using h2, fun u hu => ?_⟩⟩
      · unfold natsOf
        rw [List.map_map]
        conv => lhs; rw [← List.map_id ws]
        exact List.map_congr_left fun x hx => by have := h3 x hx; simp; omega
      · obtain ⟨x, hx, rfl⟩ := List.mem_map.1 hu
        have := h3 x hx
        omega
    · rw [if_neg h12] at h; cases h
theorem right_of {k : Nat} {ws : List Nat} (h : SysOk k ws) : rightB k (ws.map fun (x : Nat) => (x : Int)) = true := by
  unfold rightB
  rcases h with ⟨hk, rfl⟩ | ⟨hk, h1, h2, h3⟩
  · rw [if_pos hk]; rfl
  · rw [if_neg (by omega), if_pos hk]
    refine decide_eq_true ⟨by simpa using h1, by simpa using h2, fun w hw => ?_⟩
    obtain ⟨x, hx, rfl⟩ := List.mem_map.1 hw
    have := h3 x hx
    omega
/-- A system as it lies, right or not. -/
structure SysIn (W : World) (k : Nat) (ws : List Int) (v : Value) : Prop where
  row : IntRow W v ws
  tabs : Tabs W
theorem SysIn.below {B : Nat} {W W' : World} {k : Nat} {ws : List Int} {v : Value} (h : SysIn W k ws v) (hB : W.heap.size ≤ B) (hb : Below B W W') : SysIn W' k ws v := ⟨h.row.below hB hb, h.tabs.below hB hb⟩
theorem SysIn.at {W : World} {k : Nat} {ws : List Int} {v : Value} (h : SysIn W k ws v) (hr : rightB k ws = true) : SysAt W k (natsOf ws) v := by
  obtain ⟨h1, h2⟩ := right_nats hr
  refine ⟨h2, ?_, h.tabs⟩
  obtain ⟨p, cap, rfl, hc⟩ := h.row
  refine ⟨p, cap, by simp [natsOf], ?_⟩
  rcases hc with rfl | ⟨b, o, rfl, hlt, hc⟩
  · exact .inl rfl
  · exact .inr ⟨b, o, rfl, hlt, fun j x hx => hc j x (by rw [h1, List.getElem?_map, hx]; rfl)⟩
def checkErr (k : Nat) (ws : List Int) (t : List Nat) : Nat := if rightB k ws = false then 160 else if 30 < t.length then 3 else if okB false (t ++ [48]) = false ∨ t.length = 0 then 161 else 0
def checkVal (k : Nat) (ws : List Int) (t : List Nat) : Nat := if checkErr k ws t = 0 then shownB (lastOf k (natsOf ws) (vals (t ++ [48]))) else 0
def chkErr (k : Nat) (ws : List Int) (t : List Nat) : Nat := if rightB k ws = false then 160 else if 31 < t.length then 3 else if okB (k == 2) t = false ∨ t.length < 2 then 161 else 0
def testB (k : Nat) (ws : List Int) (t : List Nat) : Bool := chkErr k ws t == 0 && result k (natsOf ws) (vals t) == 0
theorem vals_le {x : Bool} {t : List Nat} (h : txOk x t) : (∀ v ∈ vals t, v ≤ 10) ∧ (x = false → ∀ v ∈ vals t, v < 10) := by
  have key : ∀ v ∈ vals t, v < 11 ∧ (x = false → v < 10) := fun v hv => by
    obtain ⟨c, hc, rfl⟩ := List.mem_map.1 hv
    obtain ⟨j, hj, hje⟩ := List.getElem_of_mem hc
    exact chVal_lt (h j c (by rw [List.getElem?_eq_getElem hj, hje]))
  exact ⟨fun v hv => by have := (key v hv).1; omega, fun hx v hv => (key v hv).2 hx⟩
theorem vals_len (t : List Nat) : (vals t).length = t.length := by simp [vals]
theorem tx_append (a b : ByteArray) : tx (a ++ b) = tx a ++ tx b := by
  unfold tx
  rw [ByteArray.data_append, Array.toList_append, List.map_append]

set_option maxHeartbeats 4000000 in
theorem check_any (k : Nat) (ws : List Int) (v : Value) (s : ByteArray) (w : World) (hs : SysIn w k ws v) (hl : s.size ≤ 999) :
    Calls Tryd.prog 19 #[.agg #[.int .u8 k, v], .string s] w fun e w' => e = .returned (.tuple #[.int .u8 (checkVal k ws (tx s) : Nat), .int .i64 (checkErr k ws (tx s) : Nat)]) ∧ Below w.heap.size w w' := by
  have HS := Lib.hid hs
  obtain ⟨⟨p, c, rfl, _⟩, _⟩ := hs
  have htl := tx_len s
  go_enter Tryd.func19, Tryd.ntmps19
  go_wp2_with fail
  have x0 : BlockAt (w.alloc (.cells #[.int .u8 k, .slice p ws.length c] 25)) w.heap.size #[.int .u8 k, .slice p ws.length c] 25 := BlockAt.new w _ 25
  have hX : Below w.heap.size w (w.alloc (.cells #[.int .u8 k, .slice p ws.length c] 25)) := (Below.refl _ w).alloc (Nat.le_refl _) _
  refine (right_any k ws _ _ (HS.out.below (Nat.le_refl _) hX).row).mono ?_
  rintro e w1 ⟨rfl, hb1⟩
  have x1 := x0.below hb1
  have hX1 := hX.trans (hb1.mono (by simp))
  clear x0 hX hb1
  obtain ⟨p0, p1, _, _⟩ := x1.two
  have v0 := x1.lt
  cases hR : rightB k ws with
  | false =>
    have he : checkErr k ws (tx s) = 160 := by unfold checkErr; rw [if_pos hR]
    have hv : checkVal k ws (tx s) = 0 := by unfold checkVal; rw [he]; rfl
    have HE := Lib.hid he
    have HV := Lib.hid hv
    clear he hv
    go_wp2
    go_ret2
    exact ⟨by rw [HE.out, HV.out]; rfl, hX1⟩
  | true =>
    by_cases h30 : 30 < s.size
    · have he : checkErr k ws (tx s) = 3 := by unfold checkErr; rw [if_neg (by rw [hR]; decide), if_pos (by omega)]
      have hv : checkVal k ws (tx s) = 0 := by unfold checkVal; rw [he]; rfl
      have h30i : (30 : Int) < (s.size : Int) := by omega
      have HE := Lib.hid he
      have HV := Lib.hid hv
      clear he hv
      go_wp2
      go_ret2
      exact ⟨by rw [HE.out, HV.out]; rfl, hX1⟩
    · have h30i : (s.size : Int) ≤ 30 := by omega
      have htx : tx (s ++ ⟨#[48]⟩) = tx s ++ [48] := tx_append s ⟨#[48]⟩
      have hlen1 : (tx s ++ [48]).length = s.size + 1 := by rw [List.length_append, htl]; rfl
      go_wp2_with fail
      refine (values_any _ false _ (by rw [ByteArray.size_append]; show s.size + 1 ≤ 1000; omega)).mono ?_
      rintro e w2 ⟨hcase, hb2⟩
      rw [htx, hlen1] at hcase
      have x2 := x1.below hb2
      have hX2 := hX1.trans (hb2.mono (Nat.le_of_lt v0))
      clear x1 hX1 p0 p1
      rcases hcase with ⟨hok, v', rfl, ho2⟩ | ⟨hno, rfl⟩
      · obtain ⟨pp, cc, rfl⟩ := ownsRow_form ho2
        have hokB : okB false (tx s ++ [48]) = true := okB_iff.2 hok
        obtain ⟨hv10, hv9⟩ := vals_le hok
        have HV9 := Lib.hid (hv9 rfl)
        clear hv9
        obtain ⟨p0, p1, _, _⟩ := x2.two
        have v0' := x2.lt
        have hR2 := Lib.hid hR
        by_cases h0 : s.size = 0
        · have he : checkErr k ws (tx s) = 161 := by unfold checkErr; rw [if_neg (by rw [hR]; decide), if_neg (by omega), if_pos (.inr (by omega))]
          have hv : checkVal k ws (tx s) = 0 := by unfold checkVal; rw [he]; rfl
          have HE := Lib.hid he
          have HV := Lib.hid hv
          have h0i : ((s.size : Int) == 0) = true := by rw [beq_iff_eq]; omega
          clear he hv hok hokB hv10 htx ho2
          go_wp2
          go_ret2
          exact ⟨by rw [HE.out, HV.out]; rfl, hX2⟩
        · have he : checkErr k ws (tx s) = 0 := by unfold checkErr; rw [if_neg (by rw [hR]; decide), if_neg (by omega), if_neg (by rw [hokB, htl]; intro h; rcases h with h | h; cases h; exact h0 h)]
          have hv : checkVal k ws (tx s) = shownB (lastOf k (natsOf ws) (vals (tx s ++ [48]))) := by unfold checkVal; rw [if_pos he]
          have HE := Lib.hid he
          have HV := Lib.hid hv
          have h0i : ((s.size : Int) == 0) = false := by rw [beq_eq_false_iff_ne]; omega
          have HN := Lib.hid (NatRow.of_owns ho2)
          have hlast : lastOf k (natsOf ws) (vals (tx s ++ [48])) < 11 := by
            have := modOf_le k
            have hrl : result k (natsOf ws) (vals (tx s ++ [48])) < 11 := by
              unfold result
              by_cases h4 : k = 4
              · rw [if_pos h4]; have := permFrom_lt (vals (tx s ++ [48])) 0 0 (by decide) HV9.out; omega
              · rw [if_neg h4]; have := Nat.mod_lt (sumFrom k (natsOf ws) 0 (vals (tx s ++ [48]))) (modOf_pos k); omega
            unfold lastOf
            by_cases h4 : k = 4
            · rw [if_pos h4]
              have hr10 : result k (natsOf ws) (vals (tx s ++ [48])) < 10 := by unfold result; rw [if_pos h4]; exact permFrom_lt _ 0 0 (by decide) HV9.out
              have := inv_lt _ hr10
              omega
            · rw [if_neg h4]; have := Nat.mod_lt (modOf k - result k (natsOf ws) (vals (tx s ++ [48]))) (modOf_pos k); omega
          have hvl : (vals (tx s ++ [48])).length ≤ 100 := by rw [vals_len, List.length_append, htl]; simp; omega
          clear he hv hok hokB htx ho2
          go_wp2_with fail
          refine (last_any k (natsOf ws) (vals (tx s ++ [48])) _ _ _ ((HS.out.below (Nat.le_refl _) hX2).at hR2.out) HN.out hvl hv10 (fun _ => HV9.out)).mono ?_
          rintro e w3 ⟨rfl, hb3⟩
          go_wp2_with fail
          refine (shown_any _ _ hlast).mono ?_
          rintro e w4 ⟨rfl, rfl⟩
          go_wp2
          go_ret2
          exact ⟨by rw [HE.out, HV.out]; rfl, hX2.trans (hb3.mono (Nat.le_of_lt v0'))⟩
      · have hokB : okB false (tx s ++ [48]) = false := by
          cases h : okB false (tx s ++ [48]) with
          | false => rfl
          | true => exact absurd (okB_iff.1 h) hno
        have he : checkErr k ws (tx s) = 161 := by unfold checkErr; rw [if_neg (by rw [hR]; decide), if_neg (by omega), if_pos (.inl hokB)]
        have hv : checkVal k ws (tx s) = 0 := by unfold checkVal; rw [he]; rfl
        have HE := Lib.hid he
        have HV := Lib.hid hv
        clear he hv hno hokB htx
        go_wp2
        go_ret2
        exact ⟨by rw [HE.out, HV.out]; rfl, hX2⟩
end Go.Proofs.YtnmnfbibjghjhaaDoor
