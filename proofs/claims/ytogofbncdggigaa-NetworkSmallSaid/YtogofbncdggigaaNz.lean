/-
  The walk of the reference's Valid; both come to one number.
-/
import Derived.Deep.QuietTactic
import Derived.BigQuiet
import Derived.LoopTactic
import Derived.Test.YtogofbncdggigaaNy
namespace Go.Proofs.Ytogofbncdggigaa
open Go.RowKit Go.Maps Net

namespace Net
theorem each_ok {ps : List Int} (h : ∀ (k : Nat) (x : Int), ps[k]? = some x → (1 ≤ x ∧ x ≤ 999999) ∧ ps.count x ≤ 1) : PlantsOk ps := by
  refine ⟨List.nodup_iff_count.2 fun x => ?_, fun x hx => ?_⟩
  · by_cases hx : x ∈ ps
    · obtain ⟨k, hk, e⟩ := List.getElem_of_mem hx
      exact (h k x (by rw [List.getElem?_eq_getElem hk, e])).2
    · rw [List.count_eq_zero.2 hx]; omega
  · obtain ⟨k, hk, e⟩ := List.getElem_of_mem hx
    exact (h k x (by rw [List.getElem?_eq_getElem hk, e])).1
theorem twice_bad {ps : List Int} {x : Int} (h : 1 < ps.count x) : ¬ PlantsOk ps := fun hp => by
  have := List.nodup_iff_count.1 hp.1 x; omega
theorem out_bad {ps : List Int} {k : Nat} {x : Int} (hx : ps[k]? = some x) (h : x < 1 ∨ 999999 < x) : ¬ PlantsOk ps := fun hp => by
  have := hp.2 x (List.mem_of_getElem? hx); omega
theorem ids_free {ls : List Leg8} {j : Nat} {i : Int} (h : ∀ (q : Nat) (l : Leg8), q < j → ls[q]? = some l → l.i ≠ i) : ((ls.take j).map Leg8.i).count i = 0 := by
  rw [List.count_eq_zero]
  intro hm
  obtain ⟨l, hl, e⟩ := List.mem_map.1 hm
  obtain ⟨q, hq, e2⟩ := List.getElem_of_mem hl
  rw [List.length_take] at hq
  rw [List.getElem_take] at e2
  exact h q l (by omega) (by rw [List.getElem?_eq_getElem (by omega), e2]) e
theorem ids_taken {ls : List Leg8} {j q : Nat} {l : Leg8} {i : Int} (hq : q < j) (hl : ls[q]? = some l) (e : l.i = i) : ((ls.take j).map Leg8.i).count i ≠ 0 := by
  refine Nat.pos_iff_ne_zero.1 (List.count_pos_iff.2 (List.mem_map.2 ⟨l, ?_, e⟩))
  obtain ⟨hlt, e2⟩ := List.getElem?_eq_some_iff.1 hl
  rw [← e2]
  rw [List.mem_take_iff_getElem]
  exact ⟨q, by omega, rfl⟩
theorem inB_yes {x : Int} (h0 : 1 ≤ x) (h1 : x ≤ 999999) : inB x 1 999999 = true := by unfold inB; exact decide_eq_true ⟨h0, h1⟩
theorem inB_no {x : Int} (h : x < 1 ∨ 999999 < x) : inB x 1 999999 = false := by unfold inB; exact decide_eq_false (by omega)
end Net

theorem IntRow.drewN {W : World} {v : Value} {ps : List Int} (h : IntRow W v ps) (n : Nat) : IntRow (W.drewN n) v ps := h
theorem in_c {x a b : Int} {v : Bool} (h : inB x a b = v) (w : World) : Calls Try.prog 46 #[.int .i64 x, .int .i64 a, .int .i64 b] w fun e w' => e = .returned (.bool v) ∧ w' = w :=
  (in_any x a b w).mono fun _ _ hh => ⟨by rw [hh.1, h], hh.2.symm⟩

set_option maxRecDepth 100000 in
set_option maxHeartbeats 2000000 in
theorem has_any (ps : List Int) (v : Value) (x : Int) (w : World) (h : IntRow w v ps) (hn : ps.length ≤ 100000) (c : Nat) (hc : ps.count x = c) :
    Calls Try.prog 47 #[v, .int .i64 x] w fun e w' => e = .returned (.int .i64 (c : Nat)) ∧ w' = w := by
  obtain ⟨p, cap, rfl, h⟩ := h
  go_enter Try.func47, Try.ntmps47
  go_wp2
  go_loopw [5, 6] (fun nv iv wr => ∃ k : Nat, iv = .int .i64 k ∧ nv = .int .i64 ((ps.take k).count x : Nat) ∧ k ≤ ps.length ∧ wr = w)
    (fun _ iv _ => ps.length - (intOf iv).toNat)
  case atStart => exact ⟨0, rfl, by simp, Nat.zero_le _, rfl⟩
  case round =>
    obtain ⟨k, rfl, rfl, hk, rfl⟩ := hrel
    obtain ⟨n, hn2⟩ : ∃ n, (ps.take k).count x = n := ⟨_, rfl⟩
    have hcl : (ps.take k).count x ≤ k := by have := List.count_le_length (a := x) (l := ps.take k); rw [List.length_take] at this; omega
    rw [hn2] at hcl ⊢
    by_cases hlt : k < ps.length
    · obtain ⟨z, hz⟩ : ∃ z, ps[k]? = some z := ⟨ps[k], List.getElem?_eq_getElem hlt⟩
      obtain ⟨b, o, rfl, hb, hcell⟩ : ∃ b o, p = some ⟨b, o, none⟩ ∧ b < wr.heap.size ∧ ∀ k x, ps[k]? = some x → wr.cell? ⟨b, o + k, none⟩ = some (.int .i64 x) := by
        rcases h with rfl | h
        · simp at hlt
        · exact h
      have kz := hcell k z hz
      have hs : (ps.take (k + 1)).count x = n + if z = x then 1 else 0 := by
        rw [take_snoc hz, List.count_append, hn2]
        by_cases e : z = x
        · subst e; simp
        · simp [e]
      have HS := Lib.hid hs
      have HN := Lib.hid hn2
      have HC := Lib.hid hc
      clear hcell hs hn2 hc hz
      by_cases e : z = x
      · have HE := Lib.hid e
        subst e
        go_wp2
        go_roundw
        case rel => exact ⟨k + 1, by go_num, by rw [HS.out, if_pos rfl]; go_num, by omega, trivial⟩
        case measure => simp [intOf]; omega
      · have hb2 : (z == x) = false := by rw [beq_eq_false_iff_ne]; exact e
        go_wp2
        go_roundw
        case rel => exact ⟨k + 1, by go_num, by rw [HS.out, if_neg e]; rfl, by omega, trivial⟩
        case measure => simp [intOf]; omega
    · rw [show k = ps.length from by omega, List.take_length, hc] at hn2
      subst hn2
      go_wp2
      go_ret
      exact ⟨rfl, rfl⟩

set_option maxRecDepth 100000 in
set_option maxHeartbeats 8000000 in
theorem refvalid_any (ps : List Int) (ls : List Leg8) (pv lv : Value) (w : World) (hp : IntRow w pv ps) (hl : LegRow w lv ls) (hlf : ∀ l ∈ ls, l.fits) :
    Calls Try.prog 25 #[.agg #[pv, lv]] w fun e w' => ∃ r, ValidIs ps ls r ∧ e = .returned (.int .i64 r) ∧ Below w.heap.size w w' := by
  have hprow := Lib.hid hp
  have hlrow := Lib.hid hl
  obtain ⟨pp, pc, rfl, hp⟩ := hp
  obtain ⟨lp, lc, rfl, hl⟩ := hl
  go_enter Try.func25, Try.ntmps25
  have b0 : BlockAt (w.alloc (.cells #[.slice pp ps.length pc, .slice lp ls.length lc] 42)) w.heap.size #[.slice pp ps.length pc, .slice lp ls.length lc] 42 := BlockAt.new w _ 42
  have hB0 : Below w.heap.size w (w.alloc (.cells #[.slice pp ps.length pc, .slice lp ls.length lc] 42)) := (Below.refl _ w).alloc (Nat.le_refl _) _
  by_cases hm1 : 50 < ps.length
  · have hm1i : (50 : Int) < (ps.length : Int) := by omega
    go_wp2
    go_ret
    exact ⟨_, .many (.inl hm1), rfl, hB0⟩
  · by_cases hm2 : 200 < ls.length
    · have hm1i : ¬ (50 : Int) < (ps.length : Int) := by omega
      have hm2i : (200 : Int) < (ls.length : Int) := by omega
      go_wp2
      go_ret
      exact ⟨_, .many (.inr hm2), rfl, hB0⟩
    · have hm1i : (ps.length : Int) ≤ 50 := by omega
      have hm2i : (ls.length : Int) ≤ 200 := by omega
      go_wp2_with fail
      go_loopw [3] (fun iv wr => ∃ k : Nat, iv = .int .i64 k ∧ k ≤ ps.length ∧ (∀ (q : Nat) (x : Int), q < k → ps[q]? = some x → (1 ≤ x ∧ x ≤ 999999) ∧ ps.count x ≤ 1) ∧ BlockAt wr w.heap.size #[.slice pp ps.length pc, .slice lp ls.length lc] 42 ∧ Below w.heap.size w wr)
        (fun iv _ => ps.length - (intOf iv).toNat)
      case atStart => exact ⟨0, rfl, Nat.zero_le _, fun q x h => by omega, b0, hB0⟩
      case round =>
        obtain ⟨k, rfl, hk, hok, hn, yB⟩ := hrel
        obtain ⟨n0, n1, _, _⟩ := hn.two
        have vn := hn.lt
        by_cases hlt : k < ps.length
        · obtain ⟨x, hx⟩ : ∃ x, ps[k]? = some x := ⟨ps[k], List.getElem?_eq_getElem hlt⟩
          obtain ⟨b, o, rfl, hb, hc⟩ : ∃ b o, pp = some ⟨b, o, none⟩ ∧ b < w.heap.size ∧ ∀ k x, ps[k]? = some x → w.cell? ⟨b, o + k, none⟩ = some (.int .i64 x) := by
            rcases hp with rfl | h
            · simp at hlt
            · exact h
          have kx := (yB.cell (p := ⟨b, o + k, none⟩) hb).trans (hc k x hx)
          have hrow : Hid (IntRow wr (.slice (some ⟨b, o, none⟩) ps.length pc) ps) := Lib.hid (hprow.out.below (Nat.le_refl _) yB)
          obtain ⟨c, hcc⟩ : ∃ c, ps.count x = c := ⟨_, rfl⟩
          have hcl : c ≤ ps.length := by rw [← hcc]; exact List.count_le_length
          have HC := Lib.hid hcc
          have Hx := Lib.hid hx
          have Hok := Lib.hid hok
          have HN := Lib.hid hn
          clear hcc hx hok hn hp hl hc hlf
          have hlti : (k : Int) < (ps.length : Int) := by omega
          have hbr : wr.heap.size = (wr.drewN 0).heap.size := rfl
          rcases (by omega : (x < 1 ∨ 999999 < x) ∨ ((1 ≤ x ∧ x ≤ 999999) ∧ (1 < c ∨ c ≤ 1))) with hbad | ⟨⟨h0, h1⟩, h2 | h2⟩
          · have hin := inB_no hbad
            go_wp2_with fail
            go_quiet ((go_at_call 46; exact Calls.quiet_of_same (in_c hin _)))
            go_wp2
            go_ret
            exact ⟨_, .plant (by omega) (by omega) (out_bad Hx.out hbad), rfl, ⟨yB.os, yB.tape, yB.output, yB.size, yB.block⟩⟩
          · have hin := inB_yes h0 h1
            have h2i : (1 : Int) < (c : Int) := by omega
            go_wp2_with fail
            go_quiet (first | (go_at_call 46; exact Calls.quiet_of_same (in_c hin _)) | (go_at_call 47; exact Calls.quiet_of_same (has_any ps _ x _ (hrow.out.drewN _) (by omega) c HC.out)))
            go_wp2
            go_ret
            exact ⟨_, .plant (by omega) (by omega) (twice_bad (by rw [HC.out]; exact h2)), rfl, ⟨yB.os, yB.tape, yB.output, yB.size, yB.block⟩⟩
          · have hin := inB_yes h0 h1
            have h2i : (c : Int) ≤ 1 := by omega
            go_wp2_with fail
            go_quiet (first | (go_at_call 46; exact Calls.quiet_of_same (in_c hin _)) | (go_at_call 47; exact Calls.quiet_of_same (has_any ps _ x _ (hrow.out.drewN _) (by omega) c HC.out)))
            go_wp2
            go_roundw
            case rel =>
              refine ⟨k + 1, by go_num, by omega, fun q z hq hz => ?_, HN.out, ⟨yB.os, yB.tape, yB.output, yB.size, yB.block⟩⟩
              by_cases e : q = k
              · subst e
                have : z = x := by have := Hx.out; rw [hz] at this; cases this; rfl
                subst this
                exact ⟨⟨h0, h1⟩, by rw [HC.out]; exact h2⟩
              · exact Hok.out q z (by omega) hz
            case measure => simp [intOf]; omega
        · obtain rfl : k = ps.length := by omega
          have Hok : Hid (PlantsOk ps) := Lib.hid (each_ok fun q x hx => hok q x (List.getElem?_eq_some_iff.1 hx).1 hx)
          clear hok hp
          go_wp2_with fail
          clear n0 n1 vn
          go_loopw [4] (fun iv wz => ∃ j : Nat, iv = .int .i64 j ∧ j ≤ ls.length ∧ LegsOk ps (ls.take j) ∧ BlockAt wz w.heap.size #[.slice pp ps.length pc, .slice lp ls.length lc] 42 ∧ Below w.heap.size w wz)
            (fun iv _ => ls.length - (intOf iv).toNat)
          case atStart => exact ⟨0, rfl, Nat.zero_le _, legs_start, hn, yB⟩
          case round =>
            clear hn yB
            obtain ⟨j, rfl, hj, hls, hn, zB⟩ := hrel
            obtain ⟨n0, n1, _, _⟩ := hn.two
            have vn := hn.lt
            by_cases hlt2 : j < ls.length
            · obtain ⟨l, hx⟩ : ∃ l, ls[j]? = some l := ⟨ls[j], List.getElem?_eq_getElem hlt2⟩
              have hxf := hlf l (List.mem_of_getElem? hx)
              obtain ⟨b, o, rfl, hb, hc⟩ : ∃ b o, lp = some ⟨b, o, none⟩ ∧ b < w.heap.size ∧ ∀ k (x : Leg8), ls[k]? = some x →
                  w.cell? ⟨b, o + k * 8, none⟩ = some (.int .i64 x.i) ∧ w.cell? ⟨b, o + k * 8 + 1, none⟩ = some (.int .i64 x.f) ∧ w.cell? ⟨b, o + k * 8 + 2, none⟩ = some (.int .i64 x.t) ∧ w.cell? ⟨b, o + k * 8 + 3, none⟩ = some (.int .i64 x.d) ∧
                  w.cell? ⟨b, o + k * 8 + 4, none⟩ = some (.int .i64 x.m) ∧ w.cell? ⟨b, o + k * 8 + 5, none⟩ = some (.int .i64 x.c) ∧ w.cell? ⟨b, o + k * 8 + 6, none⟩ = some (.int .i64 x.g) ∧ w.cell? ⟨b, o + k * 8 + 7, none⟩ = some (.int .u8 x.y) := by
                rcases hl with rfl | h
                · simp at hlt2
                · exact h
              have hids : ∀ (q : Nat) (l' : Leg8), ls[q]? = some l' → w.cell? ⟨b, o + q * 8, none⟩ = some (.int .i64 l'.i) := fun q l' h => (hc q l' h).1
              obtain ⟨i, f, t, d, m, c, g, y⟩ := l
              obtain ⟨q0, q1, q2, q3, q4, q5, q6, q7⟩ := hc j _ hx
              obtain ⟨⟨hi0, hi1⟩, ⟨hf0, hf1⟩, ⟨ht0, ht1⟩, hy0, hy1⟩ := hxf
              dsimp only at q0 q1 q2 q3 q4 q5 q6 q7 hi0 hi1 hf0 hf1 ht0 ht1 hy0 hy1
              have kk : ∀ n, wr.cell? ⟨b, n, none⟩ = w.cell? ⟨b, n, none⟩ := fun n => zB.cell (p := ⟨b, n, none⟩) hb
              rw [← kk] at q0 q1 q2 q3 q4 q5 q6 q7
              obtain ⟨cf, hcf⟩ : ∃ cf, ps.count f = cf := ⟨_, rfl⟩
              obtain ⟨ct, hct⟩ : ∃ ct, ps.count t = ct := ⟨_, rfl⟩
              have HCf := Lib.hid hcf
              have HCt := Lib.hid hct
              have Hx := Lib.hid hx
              have Hls := Lib.hid hls
              have HK := Lib.hid hids
              have HN : Hid (BlockAt (wr.alloc (.cells #[.int .i64 i, .int .i64 f, .int .i64 t, .int .i64 d, .int .i64 m, .int .i64 c, .int .i64 g, .int .u8 y] 23)) w.heap.size #[.slice pp ps.length pc, .slice (some ⟨b, o, none⟩) ls.length lc] 42) := Lib.hid (hn.alloc _)
              have hlti : (j : Int) < (ls.length : Int) := by omega
              have hsz : w.heap.size ≤ wr.heap.size := zB.size
              have ZB : Hid (Below w.heap.size w (wr.alloc (.cells #[.int .i64 i, .int .i64 f, .int .i64 t, .int .i64 d, .int .i64 m, .int .i64 c, .int .i64 g, .int .u8 y] 23))) := Lib.hid (zB.alloc hsz _)
              clear hls hl hc kk hlf hcf hct hx hids hn zB
              have hcase : rightB i f t d m c g y = false ∨ (rightB i f t d m c g y = true ∧ (cf = 0 ∨ (1 ≤ cf ∧ (ct = 0 ∨ 1 ≤ ct)))) := by
                cases rightB i f t d m c g y <;> simp <;> omega
              rcases hcase with hR | ⟨hR, rfl | ⟨hf, rfl | ht⟩⟩
              all_goals
                (try have hfb : ((cf : Int) == 0) = false := by rw [beq_eq_false_iff_ne]; omega)
                (try have htb : ((ct : Int) == 0) = false := by rw [beq_eq_false_iff_ne]; omega)
                go_wp2_with (first
                  | (go_at_call 28; refine (refright_any i f t d m c g y _ hy0 hy1).mono ?_; rintro e w4 ⟨rfl, hb4⟩; have hl4 : LegAt w4 wr.heap.size i f t d m c g y := BlockAt.below (t := 23) (BlockAt.new wr _ 23) hb4; have hn4 := HN.out.below hb4; obtain ⟨r0, r1, r2, r3, r4, r5, r6, r7⟩ := hl4.cells; have v4 := hl4.lt; obtain ⟨m0, m1, _, _⟩ := hn4.two; have vn4 := hn4.lt; have zB4 : Hid (Below w.heap.size w w4) := Lib.hid (ZB.out.trans (hb4.mono (by simp; omega))); have hrow4 : Hid (IntRow w4 (.slice pp ps.length pc) ps) := Lib.hid (hprow.out.below (Nat.le_refl _) zB4.out))
                  | (go_at_call 47; with_reducible refine (has_any ps _ f _ hrow4.out (by omega) _ HCf.out).mono ?_; rintro e w5 ⟨rfl, rfl⟩)
                  | (go_at_call 47; with_reducible refine (has_any ps _ t _ hrow4.out (by omega) _ HCt.out).mono ?_; rintro e w5 ⟨rfl, rfl⟩)
                  | fail)
              · go_ret
                exact ⟨_, .leg (by omega) (by omega) Hok.out (legs_bad Hx.out (.inl hR)), rfl, zB4.out⟩
              · go_ret
                exact ⟨_, .leg (by omega) (by omega) Hok.out (legs_bad Hx.out (.inr (.inl (List.count_eq_zero.1 HCf.out)))), rfl, zB4.out⟩
              · go_ret
                exact ⟨_, .leg (by omega) (by omega) Hok.out (legs_bad Hx.out (.inr (.inr (.inl (List.count_eq_zero.1 HCt.out))))), rfl, zB4.out⟩
              · have hfm : f ∈ ps := List.count_pos_iff.1 (by rw [HCf.out]; omega)
                have htm : t ∈ ps := List.count_pos_iff.1 (by rw [HCt.out]; omega)
                clear hfb htb q0 q1 q2 q3 q4 q5 q6 q7 n0 n1 vn HN ZB hrow4 hb4
                go_loopw [6] (fun iv wq => ∃ q : Nat, iv = .int .i64 q ∧ q ≤ j ∧ (∀ (p : Nat) (l : Leg8), p < q → ls[p]? = some l → l.i ≠ i) ∧ LegAt wq wr.heap.size i f t d m c g y ∧ BlockAt wq w.heap.size #[.slice pp ps.length pc, .slice (some ⟨b, o, none⟩) ls.length lc] 42 ∧ Below w.heap.size w wq)
                  (fun iv _ => j - (intOf iv).toNat)
                case atStart => exact ⟨0, rfl, Nat.zero_le _, fun p l h => by omega, hl4, hn4, zB4.out⟩
                case round =>
                  clear r0 r1 r2 r3 r4 r5 r6 r7 m0 m1 v4 vn4 hl4 hn4 zB4
                  obtain ⟨q, rfl, hq, hfree, hlq, hnq, qB⟩ := hrel
                  obtain ⟨r0, r1, r2, r3, r4, r5, r6, r7⟩ := hlq.cells
                  obtain ⟨m0, m1, _, _⟩ := hnq.two
                  have v4 := hlq.lt
                  have vn4 := hnq.lt
                  have Hfree := Lib.hid hfree
                  have HQ := Lib.hid hlq
                  have HN := Lib.hid hnq
                  clear hfree hlq hnq
                  by_cases hlt3 : q < j
                  · obtain ⟨l, hl⟩ : ∃ l, ls[q]? = some l := ⟨ls[q], List.getElem?_eq_getElem (by omega)⟩
                    have kq := (qB.cell (p := ⟨b, o + q * 8, none⟩) hb).trans (HK.out q l hl)
                    obtain ⟨z, hz⟩ : ∃ z, l.i = z := ⟨_, rfl⟩
                    rw [hz] at kq
                    have HZ := Lib.hid hz
                    have HLq := Lib.hid hl
                    clear hz hl
                    have hqi : (q : Int) < (ls.length : Int) := by omega
                    have hqj : (q : Int) < (j : Int) := by omega
                    by_cases e : z = i
                    · subst e
                      go_wp2_with fail
                      go_quiet (fail)
                      go_wp2
                      go_ret
                      exact ⟨_, .leg (by omega) (by omega) Hok.out (legs_bad Hx.out (.inr (.inr (.inr (ids_taken hlt3 HLq.out HZ.out))))), rfl, ⟨qB.os, qB.tape, qB.output, qB.size, qB.block⟩⟩
                    · have hne : (z == i) = false := by rw [beq_eq_false_iff_ne]; exact e
                      go_wp2_with fail
                      go_quiet (fail)
                      go_wp2
                      go_roundw
                      case rel =>
                        refine ⟨q + 1, by go_num, by omega, fun p l' hp' hl' => ?_, HQ.out, HN.out, ⟨qB.os, qB.tape, qB.output, qB.size, qB.block⟩⟩
                        by_cases e2 : p = q
                        · subst e2
                          have h := HLq.out
                          rw [hl'] at h
                          cases h
                          rw [HZ.out]
                          exact e
                        · exact Hfree.out p l' (by omega) hl'
                      case measure => simp [intOf]; omega
                  · go_wp2
                    go_roundw
                    case rel => exact ⟨j + 1, by go_num, by omega, legs_step Hls.out Hx.out hR hfm htm (ids_free fun p l hp' hl => Hfree.out p l (by omega) hl), HN.out, qB⟩
                    case measure => simp [intOf]; omega
            · go_wp2
              go_ret
              exact ⟨_, .ok (by omega) (by omega) Hok.out (by rw [show j = ls.length from by omega, List.take_length] at hls; exact hls), rfl, zB⟩
end Go.Proofs.Ytogofbncdggigaa
