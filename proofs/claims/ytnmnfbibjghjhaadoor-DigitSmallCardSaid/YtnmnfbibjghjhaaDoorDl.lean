/-
  The walk of Misses.
-/
import Derived.Test.YtnmnfbibjghjhaaDoorDk
namespace Go.Proofs.YtnmnfbibjghjhaaDoor
open Go.RowKit Dig

/-- An error that is not found: exchanged or not, the place, the two digits. -/
abbrev Miss4 := Bool × Nat × Nat × Nat
def Miss4.cells (x : Miss4) : List Value := [.bool x.1, .int .i64 (x.2.1 : Int), .int .i64 (x.2.2.1 : Int), .int .i64 (x.2.2.2 : Int)]
def missCells (l : List Miss4) : List Value := l.flatMap Miss4.cells
theorem missCells_append (a b : List Miss4) : missCells (a ++ b) = missCells a ++ missCells b := by simp [missCells]
def missD (k : Nat) (ws : List Nat) (sw : Bool) (p a b : Nat) : Int := (worth k ws p b : Int) - worth k ws p a + (if sw = true then (worth k ws (p + 1) a : Int) - worth k ws (p + 1) b else 0)
def missB (k : Nat) (ws : List Nat) (sw : Bool) (p a b : Nat) : Bool := decide (missD k ws sw p a b % (modOf k : Int) = 0)
def atOf (n i : Nat) : Nat := if n < i then i - n else i
def swOf (n i : Nat) : Bool := decide (n < i)
def missRow (k : Nat) (ws : List Nat) (n i a c : Nat) : List Miss4 := ((List.range c).filter fun b => decide (a < b) && missB k ws (swOf n i) (atOf n i) a b).map fun b => (swOf n i, atOf n i, a, b)
def missSq (k : Nat) (ws : List Nat) (n i c : Nat) : List Miss4 := (List.range c).flatMap fun a => missRow k ws n i a 10
def missTo (k : Nat) (ws : List Nat) (n c : Nat) : List Miss4 := (List.range c).flatMap fun i => if i = 0 then [] else missSq k ws n i 10
/-- What Misses lists. -/
def missList (k : Nat) (ws : List Nat) (n : Nat) : List Miss4 := if k = 4 then [] else missTo k ws n (2 * n)
theorem flat_succ {α : Type} (f : Nat → List α) (c : Nat) : (List.range (c + 1)).flatMap f = (List.range c).flatMap f ++ f c := by
  rw [List.range_succ, List.flatMap_append]; simp
theorem missRow_start (k : Nat) (ws : List Nat) (n i a : Nat) : missRow k ws n i a (a + 1) = [] := by
  unfold missRow
  rw [List.filter_eq_nil_iff.2, List.map_nil]
  intro b hb
  have := List.mem_range.1 hb
  rw [decide_eq_false (by omega : ¬ a < b)]
  simp
theorem missRow_step (k : Nat) (ws : List Nat) (n i a b : Nat) (h : a < b) : missRow k ws n i a (b + 1) = missRow k ws n i a b ++ (if missB k ws (swOf n i) (atOf n i) a b = true then [(swOf n i, atOf n i, a, b)] else []) := by
  unfold missRow
  rw [range_filter_succ, List.map_append]
  congr 1
  rw [decide_eq_true h, Bool.true_and]
  split <;> rfl
theorem tmod_zero (d : Int) (m : Nat) : (d.tmod (m : Int) == 0) = decide (d % (m : Int) = 0) := by
  have h1 : d.tmod (m : Int) = 0 ↔ d % (m : Int) = 0 := by
    rw [← Int.dvd_iff_tmod_eq_zero, ← Int.dvd_iff_emod_eq_zero]
  by_cases h : d % (m : Int) = 0
  · rw [decide_eq_true h, beq_iff_eq]; exact h1.2 h
  · rw [decide_eq_false h, beq_eq_false_iff_ne]; exact fun e => h (h1.1 e)
theorem Tryd.info50 : (Tryd.prog.info? 50).map (fun i => (i.zero, i.size, i.bytes)) = some (some (.agg #[.bool false, .int .i64 0, .int .i64 0, .int .i64 0]), 4, 32) := by kernel_rfl
theorem BlockAt.not_row {W : World} {B : Nat} {cs : Array Value} {t e : TypeId} (h : BlockAt W B cs t) (hte : t ≠ e) {base size k : Nat} {v : Value} {xs : List Value} (hr : W.ownsRow base e size v k xs) : some B ≠ v.ownBlock := by
  rcases hr.2 with ⟨rfl, _⟩ | ⟨g, cap, cur, rfl, _, hgb, _⟩
  · simp [Value.ownBlock]
  · intro e'
    obtain rfl : B = g := by simpa [Value.ownBlock] using e'
    rw [show W.heap[B]? = _ from h] at hgb
    simp only [Option.some.injEq, Obj.cells.injEq] at hgb
    exact hte hgb.2.1
theorem below_next {w wr w2 : World} (h : Below w.heap.size w wr) (hlt : w.heap.size < wr.heap.size) (hb : Below wr.drew.heap.size wr.drew w2) : Below w.heap.size w w2 := h.drew.trans (hb.mono (Nat.le_of_lt hlt))
theorem below_next2 {w wr w2 : World} (h : Below w.heap.size w wr) (hlt : w.heap.size < wr.heap.size) (hb : Below wr.heap.size wr w2) : Below w.heap.size w w2 := h.trans (hb.mono (Nat.le_of_lt hlt))
def missErr (k : Nat) (ws : List Int) (n : Int) : Nat := if rightB k ws = false then 160 else if n < 1 ∨ 30 < n then 2 else 0

set_option maxHeartbeats 16000000 in
theorem misses_any (k : Nat) (ws : List Int) (v : Value) (n : Int) (w : World) (hs : SysIn w k ws v) :
    Calls Tryd.prog 21 #[.agg #[.int .u8 k, v], .int .i64 n] w fun e w' => ((missErr k ws n = 0 ∧ ∃ v', e = .returned (.tuple #[v', .int .i64 0]) ∧ w'.ownsRow w.heap.size 50 4 v' (missList k (natsOf ws) n.toNat).length (missCells (missList k (natsOf ws) n.toNat))) ∨
      (missErr k ws n ≠ 0 ∧ e = .returned (.tuple #[.slice none 0 0, .int .i64 (missErr k ws n : Nat)]))) ∧ Below w.heap.size w w' := by
  have HS := Lib.hid hs
  obtain ⟨⟨p, c, rfl, _⟩, _⟩ := hs
  obtain ⟨i0, hi, hi0, hi1, hi2⟩ := info_parts Tryd.info50
  obtain ⟨E, hE⟩ : ∃ E, missErr k ws n = E := ⟨_, rfl⟩
  rw [hE]
  have H1 := Lib.hid hE
  clear hE
  go_enter Tryd.func21, Tryd.ntmps21
  go_wp2_with fail
  have x0 : BlockAt (w.alloc (.cells #[.int .u8 k, .slice p ws.length c] 25)) w.heap.size #[.int .u8 k, .slice p ws.length c] 25 := BlockAt.new w _ 25
  have hX : Below w.heap.size w (w.alloc (.cells #[.int .u8 k, .slice p ws.length c] 25)) := (Below.refl _ w).alloc (Nat.le_refl _) _
  refine (right_any k ws _ _ (HS.out.below (Nat.le_refl _) hX).row).mono ?_
  rintro e w1 ⟨rfl, hb1⟩
  have x1 := x0.below hb1
  have hX1 := hX.trans (hb1.mono (by simp))
  clear x0 hX hb1
  obtain ⟨p0, p1, _, _⟩ := x1.two
  have v0 := x1.lt
  cases hR : rightB k ws with
  | false =>
    have he : E = 160 := by rw [← H1.out]; unfold missErr; rw [if_pos hR]
    subst he
    go_wp2
    go_ret2
    exact ⟨.inr ⟨by decide, rfl⟩, hX1⟩
  | true =>
    have HR := Lib.hid hR
    clear hR
    by_cases hn1 : n < 1
    · have he : E = 2 := by rw [← H1.out]; unfold missErr; rw [if_neg (by rw [HR.out]; decide), if_pos (.inl hn1)]
      subst he
      go_wp2
      go_ret2
      exact ⟨.inr ⟨by decide, rfl⟩, hX1⟩
    · by_cases hn30 : 30 < n
      · have he : E = 2 := by rw [← H1.out]; unfold missErr; rw [if_neg (by rw [HR.out]; decide), if_pos (.inr hn30)]
        subst he
        have hn1i : 1 ≤ n := by omega
        go_wp2
        go_ret2
        exact ⟨.inr ⟨by decide, rfl⟩, hX1⟩
      · have he : E = 0 := by rw [← H1.out]; unfold missErr; rw [if_neg (by rw [HR.out]; decide), if_neg (by omega)]
        subst he
        obtain ⟨N, rfl⟩ : ∃ N : Nat, n = (N : Int) := ⟨n.toNat, by omega⟩
        have hN1 : 1 ≤ N := by omega
        have hN30 : N ≤ 30 := by omega
        have hn1i : (1 : Int) ≤ (N : Int) := by omega
        have hn30i : (N : Int) ≤ 30 := by omega
        clear hn1 hn30
        by_cases h4 : k = 4
        · have h4i : ((k : Int) == 4) = true := by rw [beq_iff_eq]; omega
          have HL : Hid (missList k (natsOf ws) N = []) := Lib.hid (by unfold missList; rw [if_pos h4])
          clear h4
          go_wp2
          go_ret2
          exact ⟨⟨_, rfl, by rw [HL.out]; exact World.ownsRow_nil _ _ _ _⟩, hX1⟩
        · have h4i : ((k : Int) == 4) = false := by rw [beq_eq_false_iff_ne]; omega
          have HL : Hid (missList k (natsOf ws) N = missTo k (natsOf ws) N (2 * N)) := Lib.hid (by unfold missList; rw [if_neg h4])
          obtain ⟨us, hus⟩ : ∃ us, natsOf ws = us := ⟨_, rfl⟩
          have hAt := fun (W : World) (hX : Below w.heap.size w W) => (HS.out.below (Nat.le_refl _) hX).at HR.out
          have HAt := Lib.hid hAt
          have hok : SysOk k us := by rw [← hus]; exact (right_nats HR.out).2
          have hwl : ∀ q x, x ≤ 10 → worth k us q x ≤ 100 := fun q x hx => worth_le hok h4 q hx
          have HW := Lib.hid hwl
          have hwor : ∀ (W : World) (q x : Nat), Below w.heap.size w W → q < 1000 → x < 1000 → Calls Tryd.prog 37 #[.agg #[.int .u8 k, .slice p ws.length c], .int .i64 q, .int .i64 x] W fun e w' => e = .returned (.int .i64 (worth k us q x : Nat)) ∧ Below W.heap.size W w' := fun W q x hX hq hx => by
            have := worth_any k us _ q x W (by rw [← hus]; exact (HAt.out W hX).row) (sys_worth hok h4) hq hx
            rwa [Int.toNat_natCast] at this
          have HWo := Lib.hid hwor
          have hworp : ∀ (W : World) (q x : Nat), Below w.heap.size w W → q < 900 → x < 1000 → Calls Tryd.prog 37 #[.agg #[.int .u8 k, .slice p ws.length c], .int .i64 ((q : Int) + 1), .int .i64 x] W fun e w' => e = .returned (.int .i64 (worth k us (q + 1) x : Nat)) ∧ Below W.heap.size W w' := fun W q x hX hq hx => hwor W (q + 1) x hX (by omega) hx
          have HWp := Lib.hid hworp
          clear hworp
          rw [hus] at HL
          have HUS := Lib.hid hus
          obtain ⟨M, hM⟩ : ∃ M, modOf k = M := ⟨_, rfl⟩
          have hM10 : 10 ≤ M := by rw [← hM]; exact modOf_ge k
          have hM2 : modOf (Int.toNat (k : Int)) = M := by rw [Int.toNat_natCast]; exact hM
          have HM := Lib.hid hM
          have hMn : ¬ M = 0 := by omega
          clear hAt hwl hwor hok h4 hus hM
          go_wp2_with fail
          go_loopw [6, 7] (fun ov iv wr => ∃ (i cnt : Nat), iv = .int .i64 i ∧ 1 ≤ i ∧ i ≤ 2 * N ∧ cnt ≤ 100 * i ∧ wr.ownsRow w.heap.size 50 4 ov cnt (missCells (missTo k us N i)) ∧ BlockAt wr w.heap.size #[.int .u8 k, .slice p ws.length c] 25 ∧ Below w.heap.size w wr)
            (fun _ iv _ => 2 * N - (intOf iv).toNat)
          case atStart => exact ⟨1, 0, rfl, by omega, by omega, by omega, World.ownsRow_nil _ _ _ _, x1, hX1⟩
          case round =>
            clear x1 hX1 p0 p1 v0
            obtain ⟨i, cnt, rfl, hi1', hiN, hcnt, ho, x1, hX1⟩ := hrel
            by_cases hlt : i < 2 * N
            · have hlti : (i : Int) < 2 * (N : Int) := by omega
              by_cases hsw : N < i
              · have hswi : (N : Int) < (i : Int) := by omega
                have hsB : swOf N i = true := decide_eq_true hsw
                obtain ⟨A, hA⟩ : ∃ A : Nat, (i : Int) - (N : Int) = (A : Int) := ⟨i - N, by omega⟩
                have hAt : atOf N i = A := by unfold atOf; rw [if_pos hsw]; omega
                have HSB := Lib.hid hsB
                have HA := Lib.hid hAt
                have hA30 : A ≤ 30 := by omega
                clear hsB hAt hsw
                go_wp2_with fail
                go_loopw [6, 40] (fun ov av wr => ∃ (a cnt : Nat), av = .int .i64 a ∧ a ≤ 10 ∧ cnt ≤ 100 * i + 10 * a ∧ wr.ownsRow w.heap.size 50 4 ov cnt (missCells (missTo k us N i ++ missSq k us N i a)) ∧ BlockAt wr w.heap.size #[.int .u8 k, .slice p ws.length c] 25 ∧ Below w.heap.size w wr)
                  (fun _ av _ => 10 - (intOf av).toNat)
                case atStart => exact ⟨0, cnt, rfl, by omega, by omega, by show wr.ownsRow _ _ _ _ _ (missCells (missTo k us N i ++ [])); rw [List.append_nil]; exact ho, x1, hX1⟩
                case round =>
                  clear ho x1 hX1 hcnt
                  obtain ⟨a, cnt, rfl, ha10, hcnt, ho, x1, hX1⟩ := hrel
                  by_cases hla : a < 10
                  · have hlai : (a : Int) < 10 := by omega
                    go_wp2_with fail
                    go_loopw [6, 11] (fun ov bv wr => ∃ (b cnt : Nat), bv = .int .i64 b ∧ a < b ∧ b ≤ 10 ∧ cnt ≤ 100 * i + 10 * a + b ∧ wr.ownsRow w.heap.size 50 4 ov cnt (missCells (missTo k us N i ++ missSq k us N i a ++ missRow k us N i a b)) ∧ BlockAt wr w.heap.size #[.int .u8 k, .slice p ws.length c] 25 ∧ Below w.heap.size w wr)
                      (fun _ bv _ => 10 - (intOf bv).toNat)
                    case atStart => exact ⟨a + 1, cnt, by go_num, by omega, by omega, by omega, by rw [missRow_start, List.append_nil]; exact ho, x1, hX1⟩
                    case round =>
                      clear ho x1 hX1 hcnt
                      obtain ⟨b, cnt, rfl, hab, hb10, hcnt, ho, x1, hX1⟩ := hrel
                      obtain ⟨pp, cc, rfl⟩ := ownsRow_form ho
                      by_cases hlb : b < 10
                      · have hlbi : (b : Int) < 10 := by omega
                        have w1l := HW.out A b (by omega)
                        have w2l := HW.out A a (by omega)
                        have w3l := HW.out (A + 1) a (by omega)
                        have w4l := HW.out (A + 1) b (by omega)
                        have hDe : missD k us true A a b = ((worth k us A b : Nat) : Int) - (worth k us A a : Nat) + (((worth k us (A + 1) a : Nat) : Int) - (worth k us (A + 1) b : Nat)) := rfl
                        have hstep := missRow_step k us N i a b hab
                        rw [HSB.out, HA.out] at hstep
                        unfold missB at hstep
                        rw [HM.out, hDe] at hstep
                        obtain ⟨W1, hW1⟩ : ∃ W1, worth k us A b = W1 := ⟨_, rfl⟩
                        obtain ⟨W2, hW2⟩ : ∃ W2, worth k us A a = W2 := ⟨_, rfl⟩
                        obtain ⟨W3, hW3⟩ : ∃ W3, worth k us (A + 1) a = W3 := ⟨_, rfl⟩
                        obtain ⟨W4, hW4⟩ : ∃ W4, worth k us (A + 1) b = W4 := ⟨_, rfl⟩
                        rw [hW1] at w1l
                        rw [hW2] at w2l
                        rw [hW3] at w3l
                        rw [hW4] at w4l
                        rw [hW1, hW2, hW3, hW4] at hstep
                        have HT := Lib.hid hstep
                        have K1 := Lib.hid hW1
                        have K2 := Lib.hid hW2
                        have K3 := Lib.hid hW3
                        have K4 := Lib.hid hW4
                        have hr1 : IntKind.i64.wrap ((W1 : Int) - (W2 : Int)) = (W1 : Int) - (W2 : Int) := by rw [IntKind.wrap_i64]; omega
                        have hr2 : IntKind.i64.wrap ((W3 : Int) - (W4 : Int)) = (W3 : Int) - (W4 : Int) := by rw [IntKind.wrap_i64]; omega
                        have hr3 : IntKind.i64.wrap ((W1 : Int) - (W2 : Int) + ((W3 : Int) - (W4 : Int))) = (W1 : Int) - (W2 : Int) + ((W3 : Int) - (W4 : Int)) := by rw [IntKind.wrap_i64]; omega
                        have hr4 : IntKind.i64.wrap ((A : Int) + 1) = ((A : Int) + 1) := by rw [IntKind.wrap_i64]; omega
                        have HOw := Lib.hid ho
                        clear hDe hstep hW1 hW2 hW3 hW4 ho
                        obtain ⟨p0, p1, _, _⟩ := x1.two
                        have v0 := x1.lt
                        go_upto_region 20 with fail
                        go_region_held3 (fun w' => w'.cell? ⟨w.heap.size, 0, none⟩ = some (.int .u8 k) ∧ w'.cell? ⟨w.heap.size, 1, none⟩ = some (.slice p ws.length c)) (go_keep)
                          (first
                            | (go_at_call 37; with_reducible refine (HWo.out _ A a (Below.trans hY2 (by exact Below.refl _ _)) (by omega) (by omega)).mono ?_; rintro e w3 ⟨rfl, hb3⟩; rw [K2.out]; have y3 : BlockAt w3 w.heap.size #[.int .u8 k, .slice p ws.length c] 25 := BlockAt.below (by first | exact y2 | exact y2.drew) hb3; obtain ⟨a0, a1, _, _⟩ := y3.two; have v3 := y3.lt)
                            | (go_at_call 37; with_reducible refine (HWo.out _ A b (by first | exact hX1 | exact hX1.drew) (by omega) (by omega)).mono ?_; rintro e w2 ⟨rfl, hb2⟩; rw [K1.out]; have y2 : BlockAt w2 w.heap.size #[.int .u8 k, .slice p ws.length c] 25 := BlockAt.below (by first | exact x1 | exact x1.drew) hb2; obtain ⟨a0, a1, _, _⟩ := y2.two; have v2 := y2.lt; have hY2 : Below w.heap.size w w2 := (by first | exact below_next hX1 v0 hb2 | exact below_next2 hX1 v0 hb2)))
                        have hY3 : Below w.heap.size w w3 := hY2.trans (hb3.mono (Nat.le_of_lt v2))
                        have HO3 := Lib.hid (ownsRow_none (ownsRow_none (W := wr.drew) HOw.out hb2) hb3)
                        clear x1 hX1 y2 hY2 hb2 hb3 p0 p1 v0 v2 a0 a1 HOw
                        obtain ⟨p0, p1, _, _⟩ := y3.two
                        go_upto_region 22 with fail
                        go_region_held3 (fun w' => w'.cell? ⟨w.heap.size, 0, none⟩ = some (.int .u8 k) ∧ w'.cell? ⟨w.heap.size, 1, none⟩ = some (.slice p ws.length c)) (go_keep)
                          (first
                            | (go_at_call 37; with_reducible refine (HWp.out _ A b (Below.trans hY4 (by exact Below.refl _ _)) (by omega) (by omega)).mono ?_; rintro e w5 ⟨rfl, hb5⟩; rw [K4.out]; have y5 : BlockAt w5 w.heap.size #[.int .u8 k, .slice p ws.length c] 25 := BlockAt.below (by first | exact y4 | exact y4.drew) hb5; obtain ⟨a0, a1, _, _⟩ := y5.two; have v5 := y5.lt)
                            | (go_at_call 37; with_reducible refine (HWp.out _ A a (by first | exact hY3 | exact hY3.drew) (by omega) (by omega)).mono ?_; rintro e w4 ⟨rfl, hb4⟩; rw [K3.out]; have y4 : BlockAt w4 w.heap.size #[.int .u8 k, .slice p ws.length c] 25 := BlockAt.below (by first | exact y3 | exact y3.drew) hb4; obtain ⟨a0, a1, _, _⟩ := y4.two; have v4 := y4.lt; have hY4 : Below w.heap.size w w4 := (by first | exact below_next hY3 v3 hb4 | exact below_next2 hY3 v3 hb4)))
                        have hY5 : Below w.heap.size w w5 := hY4.trans (hb5.mono (Nat.le_of_lt v4))
                        have HO5 := Lib.hid (ownsRow_none (ownsRow_none (W := w3.drew) HO3.out hb4) hb5)
                        clear y3 hY3 y4 hY4 hb4 hb5 p0 p1 v3 v4 a0 a1 HO3
                        obtain ⟨p0, p1, _, _⟩ := y5.two
                        obtain ⟨D, hD⟩ : ∃ D : Int, (W1 : Int) - (W2 : Int) + ((W3 : Int) - (W4 : Int)) = D := ⟨_, rfl⟩
                        have hDb : -400 ≤ D ∧ D ≤ 400 := by omega
                        have hT2 := HT.out
                        rw [hD] at hT2
                        rw [hD]
                        have HT2 := Lib.hid hT2
                        clear hT2 hD hr1 hr2 hr3 HT
                        by_cases hz : D % (M : Int) = 0
                        · have hzt : (D.tmod (M : Int) == 0) = true := by rw [tmod_zero]; exact decide_eq_true hz
                          have hzt2 : D.tmod (M : Int) = 0 := by simpa using hzt
                          have HZ := Lib.hid hz
                          clear hz
                          obtain ⟨pq, cq, hq⟩ := ownsRow_form HO5.out
                          go_wp2_with (first
                            | (go_at_call 38; refine (mod_any k _ _ (by omega)).mono ?_; rintro e w6 ⟨rfl, hb6⟩; rw [hM2]; have ho6 := ownsRow_none HO5.out hb6; have hs6 := hb6.size; have hY6 := hY5.trans (hb6.mono (Nat.le_of_lt v5)); have y6 := y5.below hb6)
                            | (at_builtin; refine wpList_append_own _ rfl _ _ 39 rfl w.heap.size 50 i0 (.agg #[.bool false, .int .i64 0, .int .i64 0, .int .i64 0]) 4 32 Tryd.underlying39 hi hi0 hi1 hi2 rfl (by decide) _ _ _ rfl (ho6.alloc _) ⟨w6.heap.size, 0, none⟩ 1 1 (missCells [(true, A, a, b)]) rfl rfl ((BlockAt.new w6 #[.bool true, .int .i64 (A : Int), .int .i64 (a : Int), .int .i64 (b : Int)] 50).newCells rfl) (by intro u hu; simp [missCells, Miss4.cells] at hu; rcases hu with rfl | rfl | rfl | rfl <;> rfl) (by unfold maxLen; omega) (by omega) (by simp; have := hY6.size; omega) ?_; intro v' w7 hown' hgrow _))
                          go_roundw
                          case rel => exact ⟨b + 1, cnt + 1, by go_num, by omega, by omega, by omega, by rw [HT2.out, decide_eq_true HZ.out, if_pos rfl, ← List.append_assoc, missCells_append (_ ++ _)]; exact hown', (y6.alloc (.cells #[.bool true, .int .i64 (A : Int), .int .i64 (a : Int), .int .i64 (b : Int)] 50)).kept hgrow ((y6.alloc (.cells #[.bool true, .int .i64 (A : Int), .int .i64 (a : Int), .int .i64 (b : Int)] 50)).not_row (by decide) (ho6.alloc (.cells #[.bool true, .int .i64 (A : Int), .int .i64 (a : Int), .int .i64 (b : Int)] 50))), ((hY6.alloc hY6.size _).grown hgrow (by simp; have := hY6.size; omega) (fun j hj => ownsRow_base ho6 j hj))⟩
                          case measure => simp [intOf] <;> omega
                        · have hzt : (D.tmod (M : Int) == 0) = false := by rw [tmod_zero]; exact decide_eq_false hz
                          have hzt2 : ¬ D.tmod (M : Int) = 0 := by simpa using hzt
                          have HZ := Lib.hid hz
                          clear hz
                          go_wp2_with (go_at_call 38; refine (mod_any k _ _ (by omega)).mono ?_; rintro e w6 ⟨rfl, hb6⟩; rw [hM2]; have ho6 := ownsRow_none HO5.out hb6; have hY6 := hY5.trans (hb6.mono (Nat.le_of_lt v5)); have y6 := y5.below hb6)
                          go_roundw
                          case rel => exact ⟨b + 1, cnt, by go_num, by omega, by omega, by omega, by rw [HT2.out, decide_eq_false HZ.out, if_neg (by decide), List.append_nil]; exact ho6, y6, hY6⟩
                          case measure => simp [intOf] <;> omega
                      · obtain rfl : b = 10 := by omega
                        go_wp2
                        go_roundw
                        case rel => exact ⟨a + 1, cnt, by go_num, by omega, by omega, by unfold missSq; rw [flat_succ, ← List.append_assoc]; exact ho, x1, hX1⟩
                        case measure => simp [intOf] <;> omega
                  · obtain rfl : a = 10 := by omega
                    have hi0 : ¬ i = 0 := by omega
                    go_wp2
                    go_roundw
                    case rel => exact ⟨i + 1, cnt, by go_num, by omega, by omega, by omega, by unfold missTo; rw [flat_succ, if_neg hi0]; exact ho, x1, hX1⟩
                    case measure => simp [intOf] <;> omega
              · have hswi : (i : Int) ≤ (N : Int) := by omega
                have hsB : swOf N i = false := decide_eq_false hsw
                obtain ⟨A, hA⟩ : ∃ A : Nat, i = A := ⟨i, rfl⟩
                have hAt : atOf N i = A := by unfold atOf; rw [if_neg hsw]; exact hA
                subst hA
                have HSB := Lib.hid hsB
                have HA := Lib.hid hAt
                have hA30 : i ≤ 30 := by omega
                clear hsB hAt
                go_wp2_with fail
                go_loopw [6, 40] (fun ov av wr => ∃ (a cnt : Nat), av = .int .i64 a ∧ a ≤ 10 ∧ cnt ≤ 100 * i + 10 * a ∧ wr.ownsRow w.heap.size 50 4 ov cnt (missCells (missTo k us N i ++ missSq k us N i a)) ∧ BlockAt wr w.heap.size #[.int .u8 k, .slice p ws.length c] 25 ∧ Below w.heap.size w wr)
                  (fun _ av _ => 10 - (intOf av).toNat)
                case atStart => exact ⟨0, cnt, rfl, by omega, by omega, by show wr.ownsRow _ _ _ _ _ (missCells (missTo k us N i ++ [])); rw [List.append_nil]; exact ho, x1, hX1⟩
                case round =>
                  clear ho x1 hX1 hcnt
                  obtain ⟨a, cnt, rfl, ha10, hcnt, ho, x1, hX1⟩ := hrel
                  by_cases hla : a < 10
                  · have hlai : (a : Int) < 10 := by omega
                    go_wp2_with fail
                    go_loopw [6, 11] (fun ov bv wr => ∃ (b cnt : Nat), bv = .int .i64 b ∧ a < b ∧ b ≤ 10 ∧ cnt ≤ 100 * i + 10 * a + b ∧ wr.ownsRow w.heap.size 50 4 ov cnt (missCells (missTo k us N i ++ missSq k us N i a ++ missRow k us N i a b)) ∧ BlockAt wr w.heap.size #[.int .u8 k, .slice p ws.length c] 25 ∧ Below w.heap.size w wr)
                      (fun _ bv _ => 10 - (intOf bv).toNat)
                    case atStart => exact ⟨a + 1, cnt, by go_num, by omega, by omega, by omega, by rw [missRow_start, List.append_nil]; exact ho, x1, hX1⟩
                    case round =>
                      clear ho x1 hX1 hcnt
                      obtain ⟨b, cnt, rfl, hab, hb10, hcnt, ho, x1, hX1⟩ := hrel
                      obtain ⟨pp, cc, rfl⟩ := ownsRow_form ho
                      by_cases hlb : b < 10
                      · have hlbi : (b : Int) < 10 := by omega
                        have w1l := HW.out i b (by omega)
                        have w2l := HW.out i a (by omega)
                        have w3l := HW.out (i + 1) a (by omega)
                        have w4l := HW.out (i + 1) b (by omega)
                        have hDe : missD k us false i a b = ((worth k us i b : Nat) : Int) - (worth k us i a : Nat) + 0 := rfl
                        have hstep := missRow_step k us N i a b hab
                        rw [HSB.out, HA.out] at hstep
                        unfold missB at hstep
                        rw [HM.out, hDe] at hstep
                        obtain ⟨W1, hW1⟩ : ∃ W1, worth k us i b = W1 := ⟨_, rfl⟩
                        obtain ⟨W2, hW2⟩ : ∃ W2, worth k us i a = W2 := ⟨_, rfl⟩
                        obtain ⟨W3, hW3⟩ : ∃ W3, worth k us (i + 1) a = W3 := ⟨_, rfl⟩
                        obtain ⟨W4, hW4⟩ : ∃ W4, worth k us (i + 1) b = W4 := ⟨_, rfl⟩
                        rw [hW1] at w1l
                        rw [hW2] at w2l
                        rw [hW3] at w3l
                        rw [hW4] at w4l
                        rw [hW1, hW2] at hstep
                        have HT := Lib.hid hstep
                        have K1 := Lib.hid hW1
                        have K2 := Lib.hid hW2
                        have K3 := Lib.hid hW3
                        have K4 := Lib.hid hW4
                        have hr1 : IntKind.i64.wrap ((W1 : Int) - (W2 : Int)) = (W1 : Int) - (W2 : Int) := by rw [IntKind.wrap_i64]; omega
                        have hr2 : IntKind.i64.wrap ((W3 : Int) - (W4 : Int)) = (W3 : Int) - (W4 : Int) := by rw [IntKind.wrap_i64]; omega
                        have hr3 : IntKind.i64.wrap ((W1 : Int) - (W2 : Int) + ((W3 : Int) - (W4 : Int))) = (W1 : Int) - (W2 : Int) + ((W3 : Int) - (W4 : Int)) := by rw [IntKind.wrap_i64]; omega
                        have hr4 : IntKind.i64.wrap ((i : Int) + 1) = ((i : Int) + 1) := by rw [IntKind.wrap_i64]; omega
                        have HOw := Lib.hid ho
                        clear hDe hstep hW1 hW2 hW3 hW4 ho
                        obtain ⟨p0, p1, _, _⟩ := x1.two
                        have v0 := x1.lt
                        go_upto_region 20 with fail
                        go_region_held3 (fun w' => w'.cell? ⟨w.heap.size, 0, none⟩ = some (.int .u8 k) ∧ w'.cell? ⟨w.heap.size, 1, none⟩ = some (.slice p ws.length c)) (go_keep)
                          (first
                            | (go_at_call 37; with_reducible refine (HWo.out _ i a (Below.trans hY2 (by exact Below.refl _ _)) (by omega) (by omega)).mono ?_; rintro e w3 ⟨rfl, hb3⟩; rw [K2.out]; have y3 : BlockAt w3 w.heap.size #[.int .u8 k, .slice p ws.length c] 25 := BlockAt.below (by first | exact y2 | exact y2.drew) hb3; obtain ⟨a0, a1, _, _⟩ := y3.two; have v3 := y3.lt)
                            | (go_at_call 37; with_reducible refine (HWo.out _ i b (by first | exact hX1 | exact hX1.drew) (by omega) (by omega)).mono ?_; rintro e w2 ⟨rfl, hb2⟩; rw [K1.out]; have y2 : BlockAt w2 w.heap.size #[.int .u8 k, .slice p ws.length c] 25 := BlockAt.below (by first | exact x1 | exact x1.drew) hb2; obtain ⟨a0, a1, _, _⟩ := y2.two; have v2 := y2.lt; have hY2 : Below w.heap.size w w2 := (by first | exact below_next hX1 v0 hb2 | exact below_next2 hX1 v0 hb2)))
                        have hY3 : Below w.heap.size w w3 := hY2.trans (hb3.mono (Nat.le_of_lt v2))
                        have HO3 := Lib.hid (ownsRow_none (ownsRow_none (W := wr.drew) HOw.out hb2) hb3)
                        clear x1 hX1 y2 hY2 hb2 hb3 p0 p1 v0 v2 a0 a1 HOw
                        obtain ⟨p0, p1, _, _⟩ := y3.two
                        have hY5 := hY3
                        have HO5 := HO3
                        have y5 := y3
                        have v5 := v3
                        clear hY3 HO3 y3 v3 a0 a1
                        obtain ⟨D, hD⟩ : ∃ D : Int, (W1 : Int) - (W2 : Int) = D := ⟨_, rfl⟩
                        have hDb : -400 ≤ D ∧ D ≤ 400 := by omega
                        have hT2 := HT.out
                        rw [Int.add_zero, hD] at hT2
                        rw [hD]
                        have HT2 := Lib.hid hT2
                        clear hT2 hD hr1 hr2 hr3 HT
                        by_cases hz : D % (M : Int) = 0
                        · have hzt : (D.tmod (M : Int) == 0) = true := by rw [tmod_zero]; exact decide_eq_true hz
                          have hzt2 : D.tmod (M : Int) = 0 := by simpa using hzt
                          have HZ := Lib.hid hz
                          clear hz
                          obtain ⟨pq, cq, hq⟩ := ownsRow_form HO5.out
                          go_wp2_with (first
                            | (go_at_call 38; refine (mod_any k _ _ (by omega)).mono ?_; rintro e w6 ⟨rfl, hb6⟩; rw [hM2]; have ho6 := ownsRow_none HO5.out hb6; have hs6 := hb6.size; have hY6 := hY5.trans (hb6.mono (Nat.le_of_lt v5)); have y6 := y5.below hb6)
                            | (at_builtin; refine wpList_append_own _ rfl _ _ 39 rfl w.heap.size 50 i0 (.agg #[.bool false, .int .i64 0, .int .i64 0, .int .i64 0]) 4 32 Tryd.underlying39 hi hi0 hi1 hi2 rfl (by decide) _ _ _ rfl (ho6.alloc _) ⟨w6.heap.size, 0, none⟩ 1 1 (missCells [(false, i, a, b)]) rfl rfl ((BlockAt.new w6 #[.bool false, .int .i64 (i : Int), .int .i64 (a : Int), .int .i64 (b : Int)] 50).newCells rfl) (by intro u hu; simp [missCells, Miss4.cells] at hu; rcases hu with rfl | rfl | rfl | rfl <;> rfl) (by unfold maxLen; omega) (by omega) (by simp; have := hY6.size; omega) ?_; intro v' w7 hown' hgrow _))
                          go_roundw
                          case rel => exact ⟨b + 1, cnt + 1, by go_num, by omega, by omega, by omega, by rw [HT2.out, decide_eq_true HZ.out, if_pos rfl, ← List.append_assoc, missCells_append (_ ++ _)]; exact hown', (y6.alloc (.cells #[.bool false, .int .i64 (i : Int), .int .i64 (a : Int), .int .i64 (b : Int)] 50)).kept hgrow ((y6.alloc (.cells #[.bool false, .int .i64 (i : Int), .int .i64 (a : Int), .int .i64 (b : Int)] 50)).not_row (by decide) (ho6.alloc (.cells #[.bool false, .int .i64 (i : Int), .int .i64 (a : Int), .int .i64 (b : Int)] 50))), ((hY6.alloc hY6.size _).grown hgrow (by simp; have := hY6.size; omega) (fun j hj => ownsRow_base ho6 j hj))⟩
                          case measure => simp [intOf] <;> omega
                        · have hzt : (D.tmod (M : Int) == 0) = false := by rw [tmod_zero]; exact decide_eq_false hz
                          have hzt2 : ¬ D.tmod (M : Int) = 0 := by simpa using hzt
                          have HZ := Lib.hid hz
                          clear hz
                          go_wp2_with (go_at_call 38; refine (mod_any k _ _ (by omega)).mono ?_; rintro e w6 ⟨rfl, hb6⟩; rw [hM2]; have ho6 := ownsRow_none HO5.out hb6; have hY6 := hY5.trans (hb6.mono (Nat.le_of_lt v5)); have y6 := y5.below hb6)
                          go_roundw
                          case rel => exact ⟨b + 1, cnt, by go_num, by omega, by omega, by omega, by rw [HT2.out, decide_eq_false HZ.out, if_neg (by decide), List.append_nil]; exact ho6, y6, hY6⟩
                          case measure => simp [intOf] <;> omega
                      · obtain rfl : b = 10 := by omega
                        go_wp2
                        go_roundw
                        case rel => exact ⟨a + 1, cnt, by go_num, by omega, by omega, by unfold missSq; rw [flat_succ, ← List.append_assoc]; exact ho, x1, hX1⟩
                        case measure => simp [intOf] <;> omega
                  · obtain rfl : a = 10 := by omega
                    have hi0 : ¬ i = 0 := by omega
                    go_wp2
                    go_roundw
                    case rel => exact ⟨i + 1, cnt, by go_num, by omega, by omega, by omega, by unfold missTo; rw [flat_succ, if_neg hi0]; exact ho, x1, hX1⟩
                    case measure => simp [intOf] <;> omega
            · obtain rfl : i = 2 * N := by omega
              have hii : ¬ ((2 * N : Nat) : Int) < 2 * (N : Int) := by omega
              obtain ⟨pq, cq, rfl⟩ := ownsRow_form ho
              have hlen : (missTo k us N (2 * N)).length = cnt := by
                have h1 := ho.1
                have h2 : ∀ l : List Miss4, (missCells l).length = l.length * 4 := fun l => by
                  induction l with
                  | nil => rfl
                  | cons x l ih => show (Miss4.cells x ++ missCells l).length = _; rw [List.length_append, ih]; show 4 + _ = _; rw [List.length_cons]; omega
                rw [h2] at h1
                omega
              have HOL := Lib.hid ho
              have HLN := Lib.hid hlen
              clear ho hlen
              go_wp2
              go_ret2
              exact ⟨⟨_, rfl, by rw [HUS.out, HL.out, HLN.out]; exact HOL.out⟩, hX1⟩
end Go.Proofs.YtnmnfbibjghjhaaDoor
