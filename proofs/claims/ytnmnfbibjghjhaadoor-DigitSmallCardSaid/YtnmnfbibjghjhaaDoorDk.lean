/-
  The walk of Fill.
-/
import Derived.Test.YtnmnfbibjghjhaaDoorDj
namespace Go.Proofs.YtnmnfbibjghjhaaDoor
open Go.RowKit Dig

/-- Where the first unknown character of a text stands. -/
def QIs (t : List Nat) : Option Nat → Prop
  | none => ∀ j : Nat, t[j]? ≠ some 63
  | some a => t[a]? = some 63 ∧ ∀ j : Nat, j < a → t[j]? ≠ some 63
theorem QIs.unique {t : List Nat} {a b : Option Nat} (h : QIs t a) (k : QIs t b) : a = b := by
  cases a with
  | none =>
    cases b with
    | none => rfl
    | some b => exact absurd k.1 (h b)
  | some a =>
    cases b with
    | none => exact absurd h.1 (k a)
    | some b =>
      have h1 : ¬ a < b := fun e => k.2 a e h.1
      have h2 : ¬ b < a := fun e => h.2 b e k.1
      rw [show a = b from by omega]
def repl (t : List Nat) : Option Nat → List Nat
  | none => t
  | some a => t.set a 48
def fillOk (k : Nat) (ws vs : List Nat) (p x : Nat) : Bool := (decide (x < 10) || (p == 0 && k == 2)) && result k ws (vs.set p x) == 0
def fillErr (k : Nat) (ws : List Int) (t : List Nat) (q : Option Nat) : Nat := if chkErr k ws (repl t q) = 0 then (if q = none then 161 else 0) else chkErr k ws (repl t q)
def fillOut (k : Nat) (ws : List Int) (t : List Nat) : Option Nat → List Nat
  | none => []
  | some a => if chkErr k ws (t.set a 48) = 0 then ((List.range 11).filter (fillOk k (natsOf ws) (vals (t.set a 48)) (t.length - 1 - a))).map shownB else []
theorem repl_len (t : List Nat) (q : Option Nat) : (repl t q).length = t.length := by cases q <;> simp [repl]
theorem range_filter_succ (f : Nat → Bool) (x : Nat) : (List.range (x + 1)).filter f = (List.range x).filter f ++ (if f x = true then [x] else []) := by
  rw [List.range_succ, List.filter_append]
  congr 1
  cases h : f x <;> simp [h]
theorem range_filter_le (f : Nat → Bool) (x : Nat) : ((List.range x).filter f).length ≤ x := by
  have := List.length_filter_le f (List.range x)
  simpa using this

theorem set_le {vs : List Nat} {m x b : Nat} (h : ∀ v ∈ vs, v < b) (hx : x < b) : ∀ v ∈ vs.set m x, v < b := fun v hv => by
  rcases List.mem_or_eq_of_mem_set hv with hv | rfl
  · exact h v hv
  · exact hx
/-- What the first loop of Fill leaves: the place of the first unknown character, and the bytes. -/
def FillAt (t : List Nat) (i : Nat) (W : World) (B : Nat) (av : Value) : Prop :=
  (av = .int .i64 (-1) ∧ (∀ j : Nat, j < i → t[j]? ≠ some 63) ∧ ByteRow W B t) ∨
  (∃ a : Nat, a < i ∧ av = .int .i64 (a : Int) ∧ QIs t (some a) ∧ ByteRow W B (t.set a 48))

set_option maxHeartbeats 8000000 in
theorem fill_any (k : Nat) (ws : List Int) (v : Value) (s : ByteArray) (w : World) (hs : SysIn w k ws v) (hl : s.size ≤ 999) :
    Calls Tryd.prog 15 #[.agg #[.int .u8 k, v], .string s] w fun e w' => ∃ q S, QIs (tx s) q ∧ e = .returned (.tuple #[.string S, .int .i64 (fillErr k ws (tx s) q : Nat)]) ∧ tx S = fillOut k ws (tx s) q ∧ Below w.heap.size w w' := by
  have HS := Lib.hid hs
  obtain ⟨⟨p, c, rfl, _⟩, _⟩ := hs
  obtain ⟨t, ht⟩ : ∃ t, tx s = t := ⟨_, rfl⟩
  have htl : t.length = s.size := by rw [← ht]; exact tx_len s
  obtain ⟨n, hn⟩ : ∃ n, s.size = n := ⟨_, rfl⟩
  obtain ⟨cap, W, hrun, hrow, hB, hsz⟩ := conv_bytes s (w.alloc (.cells #[.int .u8 k, .slice p ws.length c] 25))
  have hW0 : (w.alloc (.cells #[.int .u8 k, .slice p ws.length c] 25)).heap.size = w.heap.size + 1 := by simp
  rw [hW0] at hrun hrow hsz
  rw [ht] at hrow
  rw [hn] at hrun htl hl
  rw [ht]
  have x0 : BlockAt W w.heap.size #[.int .u8 k, .slice p ws.length c] 25 := (BlockAt.new w _ 25).below hB
  have hX : Below w.heap.size w W := ((Below.refl _ w).alloc (Nat.le_refl _) _).trans (hB.mono (by simp))
  clear hB hW0 ht
  go_enter Tryd.func15, Tryd.ntmps15
  go_wp2_with fail
  go_loopw [6, 19] (fun av iv wr => ∃ i : Nat, iv = .int .i64 i ∧ i ≤ n ∧ FillAt t i wr (w.heap.size + 1) av ∧ BlockAt wr w.heap.size #[.int .u8 k, .slice p ws.length c] 25 ∧ Below w.heap.size w wr)
    (fun _ iv _ => n - (intOf iv).toNat)
  case atStart => exact ⟨0, rfl, by omega, .inl ⟨rfl, fun j hj => by omega, hrow⟩, x0, hX⟩
  case round =>
    clear hrow x0 hX hrun hsz
    obtain ⟨i, rfl, hi, hfa, x0, hX⟩ := hrel
    by_cases hlt : i < n
    · have hlti : (i : Int) < (n : Int) := by omega
      obtain ⟨c0, hc0⟩ : ∃ c0, t[i]? = some c0 := ⟨_, List.getElem?_eq_getElem (by omega)⟩
      have HC := Lib.hid hc0
      rcases hfa with ⟨rfl, hno, hrow⟩ | ⟨a, hai, rfl, hq, hrow⟩
      · have hcell := hrow.cell i c0 hc0
        have hfz := hrow.open' i (by omega)
        have v0 := hrow.lt
        clear hc0
        by_cases h63 : c0 = 63
        · subst h63
          have HR := Lib.hid (hrow.set (i := i) (c := 48) (by omega) (by decide))
          have HQ : Hid (QIs t (some i)) := Lib.hid ⟨HC.out, hno⟩
          clear hrow hno
          go_wp2
          go_roundw
          case rel => exact ⟨i + 1, by go_num, by omega, .inr ⟨i, by omega, rfl, HQ.out, HR.out⟩, x0.other (by omega) _, hX.setCell (by show w.heap.size ≤ w.heap.size + 1; omega) _⟩
          case measure => simp [intOf] <;> omega
        · have h63i : ((c0 : Int) == 63) = false := by rw [beq_eq_false_iff_ne]; omega
          have HN : Hid (∀ j : Nat, j < i + 1 → t[j]? ≠ some 63) := Lib.hid (fun j hj e => by
            by_cases ej : j = i
            · subst ej; rw [HC.out] at e; cases e; exact h63 rfl
            · exact hno j (by omega) e)
          have HR := Lib.hid hrow
          clear hrow hno
          go_wp2
          go_roundw
          case rel => exact ⟨i + 1, by go_num, by omega, .inl ⟨rfl, HN.out, HR.out⟩, x0, hX⟩
          case measure => simp [intOf] <;> omega
      · have hc1 : (t.set a 48)[i]? = some c0 := by rw [List.getElem?_set_ne (by omega)]; exact hc0
        have hcell := hrow.cell i c0 hc1
        have v0 := hrow.lt
        have HR := Lib.hid hrow
        have HQ := Lib.hid hq
        have han : ¬ (a : Int) < 0 := by omega
        clear hrow hq hc0 hc1
        by_cases h63 : c0 = 63
        · subst h63
          go_wp2
          go_roundw
          case rel => exact ⟨i + 1, by go_num, by omega, .inr ⟨a, by omega, rfl, HQ.out, HR.out⟩, x0, hX⟩
          case measure => simp [intOf] <;> omega
        · have h63i : ((c0 : Int) == 63) = false := by rw [beq_eq_false_iff_ne]; omega
          go_wp2
          go_roundw
          case rel => exact ⟨i + 1, by go_num, by omega, .inr ⟨a, by omega, rfl, HQ.out, HR.out⟩, x0, hX⟩
          case measure => simp [intOf] <;> omega
    · obtain rfl : i = n := by omega
      have hii : ¬ (i : Int) < (i : Int) := by omega
      rcases hfa with ⟨rfl, hno, hrow⟩ | ⟨a, hai, rfl, hq, hrow⟩
      · have HQ : Hid (QIs t none) := Lib.hid (fun j e => hno j (by have := (List.getElem?_eq_some_iff.1 e).1; omega) e)
        obtain ⟨S1, hrun2, hS1⟩ := conv_text (cap := cap) hrow htl
        have hsz1 : S1.size = i := by rw [← tx_len S1, hS1]; exact htl
        have HS1 := Lib.hid hS1
        obtain ⟨p0, p1, _, _⟩ := x0.two
        have v0 := x0.lt
        clear hrow hno hS1
        go_wp2_with fail
        refine (checked_any k ws _ S1 _ (HS.out.below (Nat.le_refl _) hX) (by omega)).mono ?_
        rintro e w1 ⟨hcase, hb1⟩
        rw [HS1.out, hsz1] at hcase
        have hX1 := hX.trans (hb1.mono (Nat.le_of_lt v0))
        obtain ⟨E, hE⟩ : ∃ E, chkErr k ws t = E := ⟨_, rfl⟩
        rw [hE] at hcase
        have HE := Lib.hid hE
        clear hE
        rcases hcase with ⟨rfl, v', rfl, ho⟩ | ⟨hne, rfl⟩
        · obtain ⟨pp, cc, rfl⟩ := ownsRow_form ho
          clear ho
          go_wp2
          go_ret2
          exact ⟨none, ⟨#[]⟩, HQ.out, by unfold fillErr repl; rw [HE.out]; rfl, rfl, hX1⟩
        · have hEi : ((E : Int) == 0) = false := by rw [beq_eq_false_iff_ne]; omega
          have HNE := Lib.hid hne
          clear hne
          go_wp2
          go_ret2
          exact ⟨none, ⟨#[]⟩, HQ.out, by unfold fillErr repl; rw [HE.out, if_neg HNE.out]; rfl, rfl, hX1⟩
      · have HQ := Lib.hid hq
        have hRl : (t.set a 48).length = i := by rw [List.length_set]; exact htl
        obtain ⟨S1, hrun2, hS1⟩ := conv_text (cap := cap) hrow hRl
        have hsz1 : S1.size = i := by rw [← tx_len S1, hS1]; exact hRl
        have HS1 := Lib.hid hS1
        have han : ¬ (a : Int) < 0 := by omega
        obtain ⟨p0, p1, _, _⟩ := x0.two
        have v0 := x0.lt
        clear hrow hq hS1
        go_wp2_with fail
        refine (checked_any k ws _ S1 _ (HS.out.below (Nat.le_refl _) hX) (by omega)).mono ?_
        rintro e w1 ⟨hcase, hb1⟩
        rw [HS1.out, hsz1] at hcase
        have x1 := x0.below hb1
        have hX1 := hX.trans (hb1.mono (Nat.le_of_lt v0))
        have hXw : w.heap.size < wr.heap.size := v0
        clear x0 hX hb1 p0 p1 v0 hrun2
        obtain ⟨E, hE⟩ : ∃ E, chkErr k ws (t.set a 48) = E := ⟨_, rfl⟩
        rw [hE] at hcase
        have HE := Lib.hid hE
        clear hE
        rcases hcase with ⟨rfl, v', rfl, ho⟩ | ⟨hne, rfl⟩
        rotate_left
        · have hEi : ((E : Int) == 0) = false := by rw [beq_eq_false_iff_ne]; omega
          have HNE := Lib.hid hne
          clear hne
          go_wp2
          go_ret2
          exact ⟨some a, ⟨#[]⟩, HQ.out, by unfold fillErr repl; rw [HE.out, if_neg HNE.out]; rfl, by show _ = (if chkErr k ws (t.set a 48) = 0 then _ else []); rw [HE.out, if_neg HNE.out]; rfl, hX1⟩
        obtain ⟨g, cc, rfl, hg⟩ := ownsRow_pos ho (by omega)
        obtain ⟨hRt, _, _, hok⟩ := chk_ok HE.out
        have HRt := Lib.hid hRt
        obtain ⟨hv10, hv9⟩ := vals_le hok
        obtain ⟨vs, hvs⟩ : ∃ vs, vals (t.set a 48) = vs := ⟨_, rfl⟩
        have hvsl : vs.length = i := by rw [← hvs, vals_len]; exact hRl
        obtain ⟨m, hm⟩ : ∃ m : Nat, (i : Int) - 1 - (a : Int) = (m : Int) := ⟨i - 1 - a, by omega⟩
        have hm2 : m = t.length - 1 - a := by omega
        have hmi : m < i := by omega
        have hmii : (m : Int) < (i : Int) := by omega
        rw [hvs] at ho hv10 hv9
        have HV : Hid ((∀ v ∈ vs, v ≤ 10) ∧ (k = 4 → ∀ v ∈ vs, v < 10)) := Lib.hid ⟨hv10, fun h4 => hv9 (by rw [h4]; rfl)⟩
        obtain ⟨F, hF⟩ : ∃ F : Nat → Bool, fillOk k (natsOf ws) vs m = F := ⟨_, rfl⟩
        have HF := Lib.hid hF
        have HFO : Hid (fillOut k ws t (some a) = ((List.range 11).filter F).map shownB) := Lib.hid (by show (if chkErr k ws (t.set a 48) = 0 then _ else _) = _; rw [if_pos HE.out, hvs, ← hm2, hF])
        have HFE : Hid (fillErr k ws t (some a) = 0) := Lib.hid (by unfold fillErr; show (if chkErr k ws (t.set a 48) = 0 then _ else _) = _; rw [if_pos HE.out]; rfl)
        clear hF hvs hok hv10 hv9 hRt hm2
        obtain ⟨p0, p1, _, _⟩ := x1.two
        have v0 := x1.lt
        go_wp2_with fail
        clear p0 p1 v0
        obtain ⟨wq, hwq⟩ : ∃ wq, wq = wr := ⟨_, rfl⟩
        subst hwq
        go_loopw [13, 56] (fun ov xv wr => ∃ (x : Nat) (S : ByteArray) (us : List Nat), xv = .int .i64 x ∧ x ≤ 11 ∧ ov = .string S ∧ Hid (tx S = ((List.range x).filter F).map shownB) ∧ Hid (us.length = i ∧ ∀ z, us.set m z = vs.set m z) ∧ wr.ownsRow wq.heap.size 3 1 (.slice (some ⟨g, 0, none⟩) i cc) i (natCells us) ∧ BlockAt wr w.heap.size #[.int .u8 k, .slice p ws.length c] 25 ∧ Below w.heap.size w wr)
          (fun _ xv _ => 11 - (intOf xv).toNat)
        case atStart => exact ⟨0, ⟨#[]⟩, vs, rfl, by omega, rfl, Lib.hid rfl, Lib.hid ⟨hvsl, fun _ => rfl⟩, ho, x1, hX1⟩
        case round =>
          clear ho x1 hX1
          obtain ⟨x, S, us, rfl, hx11, rfl, hS, hus, ho, x1, hX1⟩ := hrel
          by_cases hx : x < 11
          · have hxi : (x : Int) < 11 := by omega
            obtain ⟨z, hz⟩ : ∃ z, us[m]? = some z := ⟨_, List.getElem?_eq_getElem (by rw [hus.out.1]; exact hmi)⟩
            have c0 : wr.cell? ⟨g, m, none⟩ = some (.int .i64 (z : Int)) := by rw [ho.cellAt m (by omega)]; simp [natCells, hz]
            have c1 : wr.frozen? ⟨g, m, none⟩ = false := ho.frozenAt m
            obtain ⟨s1, sg⟩ := ho.stored m (.int .i64 (x : Int))
            rw [natCells_set, hus.out.2] at s1
            have v1 := (ho.lt g rfl).2
            have x2 := x1.kept sg (fun e => by have := Option.some.inj (show some w.heap.size = some g from e); omega)
            have hX2 := hX1.grown sg (by have := hX1.size; omega) (fun j hj => by have := Option.some.inj (show some g = some j from hj); omega)
            clear ho x1 hX1 hz
            go_upto_region 19 with fail
            obtain ⟨W2, hW2⟩ : ∃ W2, wr.setCell ⟨g, m, none⟩ (.int .i64 (x : Int)) = W2 := ⟨_, rfl⟩
            rw [hW2] at s1 x2 hX2 ⊢
            clear c0 c1 sg hW2 v1
            have HU : Hid ((vs.set m x).length = i ∧ ∀ z, (vs.set m x).set m z = vs.set m z) := Lib.hid ⟨by rw [List.length_set]; exact hvsl, fun z => by rw [List.set_set]⟩
            have HN := Lib.hid (NatRow.of_owns s1)
            have HO := Lib.hid s1
            have hSsz : S.size ≤ 11 := by rw [← tx_len S, hS.out, List.length_map]; exact Nat.le_trans (range_filter_le F x) (by omega)
            obtain ⟨p0, p1, _, _⟩ := x2.two
            have v0 := x2.lt
            have hX2s := hX2.size
            have hgood : (x < 10 ∨ (m = 0 ∧ k = 2)) → Calls Tryd.prog 33 #[.agg #[.int .u8 k, .slice p ws.length c], .slice (some ⟨g, 0, none⟩) i cc] W2 fun e w' => e = .returned (.int .i64 (result k (natsOf ws) (vs.set m x) : Nat)) ∧ Below W2.heap.size W2 w' := fun hc => by
              have hrow := HN.out
              exact result_any k (natsOf ws) (vs.set m x) _ _ _ ((HS.out.below (Nat.le_refl _) hX2).at HRt.out) hrow (by rw [HU.out.1]; omega) (fun v hv => by have := set_le (b := 11) (fun v hv => by have := HV.out.1 v hv; omega) (show x < 11 by omega) v hv; omega) (fun h4 => set_le (b := 10) (HV.out.2 h4) (by omega))
            have HG := Lib.hid hgood
            clear s1 hgood
            obtain ⟨r, hr⟩ : ∃ r, result k (natsOf ws) (vs.set m x) = r := ⟨_, rfl⟩
            have HRr := Lib.hid hr
            clear hr
            by_cases hx10 : x < 10
            · have hx10i : (x : Int) < 10 := by omega
              have HGs := Lib.hid (HG.out (.inl hx10))
              have hFx : F x = (r == 0) := by rw [← HF.out]; unfold fillOk; rw [HRr.out, decide_eq_true hx10]; rfl
              by_cases hr0 : r = 0
              · subst hr0
                have HT : Hid (tx (S ++ ⟨#[UInt8.ofNat (shownB x)]⟩) = ((List.range (x + 1)).filter F).map shownB) := Lib.hid (by rw [tx_push S _ (shownB_lt hx), hS.out, range_filter_succ, hFx, if_pos (show ((0 : Nat) == 0) = true from rfl), List.map_append]; rfl)
                clear hFx
                go_wp2_with fail
                refine (HGs.out).mono ?_
                rintro e w3 ⟨rfl, hb3⟩
                rw [HRr.out]
                obtain ⟨C, hC⟩ : ∃ C, shownB x = C := ⟨_, rfl⟩
                have hconv := conv_one w3 C (by rw [← hC]; exact shownB_lt hx)
                rw [hC] at HT
                have HCC := Lib.hid hC
                clear hC
                have hs3 := hb3.size
                go_wp2_with (go_at_call 34; refine (shown_any x _ hx).mono ?_; rintro e w4 ⟨rfl, rfl⟩; rw [HCC.out])
                go_roundw
                case rel => exact ⟨x + 1, _, vs.set m x, by go_num, by omega, rfl, HT, HU, (ownsRow_none HO.out hb3).alloc _, (x2.below hb3).alloc _, (hX2.trans (hb3.mono (by omega))).alloc (by omega) _⟩
                case measure => simp [intOf] <;> omega
              · have HT : Hid (tx S = ((List.range (x + 1)).filter F).map shownB) := Lib.hid (by rw [hS.out, range_filter_succ, hFx, beq_eq_false_iff_ne.2 hr0, if_neg (by decide), List.append_nil])
                have hr0i : ((r : Int) == 0) = false := by rw [beq_eq_false_iff_ne]; omega
                clear hFx
                go_wp2_with fail
                refine (HGs.out).mono ?_
                rintro e w3 ⟨rfl, hb3⟩
                rw [HRr.out]
                go_wp2
                go_roundw
                case rel => exact ⟨x + 1, S, vs.set m x, by go_num, by omega, rfl, HT, HU, ownsRow_none HO.out hb3, x2.below hb3, hX2.trans (hb3.mono (by omega))⟩
                case measure => simp [intOf] <;> omega
            · have hx10i : ¬ (x : Int) < 10 := by omega
              by_cases hm0 : m = 0
              · have hm0i : ((m : Int) == 0) = true := by rw [beq_iff_eq]; omega
                by_cases hk2 : k = 2
                · have hk2i : ((k : Int) == 2) = true := by rw [beq_iff_eq]; omega
                  have hFx : F x = (r == 0) := by rw [← HF.out]; unfold fillOk; rw [HRr.out, hm0, hk2]; simp
                  have HGs := Lib.hid (HG.out (.inr ⟨hm0, hk2⟩))
                  clear hm0 hk2
                  by_cases hr0 : r = 0
                  · subst hr0
                    have HT : Hid (tx (S ++ ⟨#[UInt8.ofNat (shownB x)]⟩) = ((List.range (x + 1)).filter F).map shownB) := Lib.hid (by rw [tx_push S _ (shownB_lt hx), hS.out, range_filter_succ, hFx, if_pos (show ((0 : Nat) == 0) = true from rfl), List.map_append]; rfl)
                    clear hFx
                    go_wp2_with fail
                    refine (HGs.out).mono ?_
                    rintro e w3 ⟨rfl, hb3⟩
                    rw [HRr.out]
                    obtain ⟨C, hC⟩ : ∃ C, shownB x = C := ⟨_, rfl⟩
                    have hconv := conv_one w3 C (by rw [← hC]; exact shownB_lt hx)
                    rw [hC] at HT
                    have HCC := Lib.hid hC
                    clear hC
                    have hs3 := hb3.size
                    go_wp2_with (go_at_call 34; refine (shown_any x _ hx).mono ?_; rintro e w4 ⟨rfl, rfl⟩; rw [HCC.out])
                    go_roundw
                    case rel => exact ⟨x + 1, _, vs.set m x, by go_num, by omega, rfl, HT, HU, (ownsRow_none HO.out hb3).alloc _, (x2.below hb3).alloc _, (hX2.trans (hb3.mono (by omega))).alloc (by omega) _⟩
                    case measure => simp [intOf] <;> omega
                  · have HT : Hid (tx S = ((List.range (x + 1)).filter F).map shownB) := Lib.hid (by rw [hS.out, range_filter_succ, hFx, beq_eq_false_iff_ne.2 hr0, if_neg (by decide), List.append_nil])
                    have hr0i : ((r : Int) == 0) = false := by rw [beq_eq_false_iff_ne]; omega
                    clear hFx
                    go_wp2_with fail
                    refine (HGs.out).mono ?_
                    rintro e w3 ⟨rfl, hb3⟩
                    rw [HRr.out]
                    go_wp2
                    go_roundw
                    case rel => exact ⟨x + 1, S, vs.set m x, by go_num, by omega, rfl, HT, HU, ownsRow_none HO.out hb3, x2.below hb3, hX2.trans (hb3.mono (by omega))⟩
                    case measure => simp [intOf] <;> omega
                · have hk2i : ((k : Int) == 2) = false := by rw [beq_eq_false_iff_ne]; omega
                  have hFx : F x = false := by rw [← HF.out]; unfold fillOk; rw [decide_eq_false hx10, beq_eq_false_iff_ne.2 hk2]; simp
                  clear hm0 hk2
                  have HT : Hid (tx S = ((List.range (x + 1)).filter F).map shownB) := Lib.hid (by rw [hS.out, range_filter_succ, hFx, if_neg (by decide), List.append_nil])
                  clear hFx
                  go_wp2
                  go_roundw
                  case rel => exact ⟨x + 1, S, vs.set m x, by go_num, by omega, rfl, HT, HU, HO.out, x2, hX2⟩
                  case measure => simp [intOf] <;> omega
              · have hm0i : ((m : Int) == 0) = false := by rw [beq_eq_false_iff_ne]; omega
                have hFx : F x = false := by rw [← HF.out]; unfold fillOk; rw [decide_eq_false hx10, beq_eq_false_iff_ne.2 hm0]; simp
                have HT : Hid (tx S = ((List.range (x + 1)).filter F).map shownB) := Lib.hid (by rw [hS.out, range_filter_succ, hFx, if_neg (by decide), List.append_nil])
                clear hFx
                go_wp2
                go_roundw
                case rel => exact ⟨x + 1, S, vs.set m x, by go_num, by omega, rfl, HT, HU, HO.out, x2, hX2⟩
                case measure => simp [intOf] <;> omega
          · obtain rfl : x = 11 := by omega
            have hX' := hX1
            go_wp2
            go_ret2
            refine ⟨some a, S, HQ.out, by rw [HFE.out]; rfl, ?_, hX'⟩
            rw [hS.out, HFO.out]
end Go.Proofs.YtnmnfbibjghjhaaDoor
