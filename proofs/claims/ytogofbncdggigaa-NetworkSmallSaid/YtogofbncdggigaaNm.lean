/-
  The walk of the reference's List.
-/
import Derived.Test.YtogofbncdggigaaNj
import Derived.Test.YtogofbncdggigaaNk
namespace Go.Proofs.Ytogofbncdggigaa
open Go.RowKit Net

def RefListPost (on : Int → Bool) (d m a b : Int) (w : World) (e : Ending) (w' : World) : Prop :=
  ∃ ds, IsList on d a b ds ∧ ((ds.length ≤ 1000 ∧ ∃ v, e = .returned (.tuple #[v, .int .i64 0]) ∧ w'.ownsRow w.heap.size 50 2 v ds.length (depCells d m ds)) ∨ (1000 < ds.length ∧ e = .returned (.tuple #[.slice none 0 0, .int .i64 5]))) ∧ Below w.heap.size w w'
theorem Try.info50 : (Try.prog.info? 50).map (fun i => (i.zero, i.size, i.bytes)) = some (some (.agg #[.int .i64 0, .int .i64 0]), 2, 16) := by kernel_rfl
theorem ownsRow_none {W W' : World} {base n size : Nat} {e : TypeId} {v : Value} {xs : List Value} (h : W.ownsRow base e size v n xs) (hb : Below W.heap.size W W') : W'.ownsRow base e size v n xs := by
  refine h.kept (below_grown hb) ?_
  cases hv : v.ownBlock <;> simp
theorem ownsRow_base {W : World} {base n size : Nat} {e : TypeId} {v : Value} {xs : List Value} (h : W.ownsRow base e size v n xs) (j : Nat) (hj : v.ownBlock = some j) : base ≤ j := by
  rcases h.2 with ⟨rfl, _⟩ | ⟨g, cap, cur, rfl, hb, _⟩
  · simp [Value.ownBlock] at hj
  · obtain rfl : g = j := by simpa [Value.ownBlock] using hj
    exact hb

set_option maxRecDepth 100000 in
set_option maxHeartbeats 8000000 in
theorem reflist_right (i f t d m c g y a b : Int) (w : World) (hy0 : 0 ≤ y) (hy1 : y ≤ 255) (hr : rightB i f t d m c g y = true) :
    Calls Try.prog 32 #[.agg #[.int .i64 i, .int .i64 f, .int .i64 t, .int .i64 d, .int .i64 m, .int .i64 c, .int .i64 g, .int .u8 y], .int .i64 a, .int .i64 b] w (RefListPost (onB i f t d m c g y) d m a b w) := by
  obtain ⟨i0, hi, hi0, hi1, hi2⟩ := info_parts Try.info50
  obtain ⟨hF0, hF1⟩ := firstI_bd a
  obtain ⟨hG0, hG1⟩ := firstI_bd b
  obtain ⟨_, _, _, _, _, _, _, _, _, _, _, _, _, _, _, _, _⟩ := rightB_iff.1 hr
  go_enter Try.func32, Try.ntmps32
  go_wp2_with (first
    | (go_at_call 28; refine (refright_any i f t d m c g y _ hy0 hy1).mono ?_; rintro e w1 ⟨rfl, hb0⟩; have hz0 : w.heap.size < w1.heap.size := (by have := hb0.size; simp at this; omega))
    | (go_at_call 52; refine (first_any _ _).mono ?_; rintro e w1 ⟨rfl, rfl⟩))
  have e0 : LegAt w1 w.heap.size i f t d m c g y := by
    refine BlockAt.below (t := 23) ?_ hb0
    exact BlockAt.new w #[.int .i64 i, .int .i64 f, .int .i64 t, .int .i64 d, .int .i64 m, .int .i64 c, .int .i64 g, .int .u8 y] 23
  have hB1 : Below w.heap.size w w1 := ((Below.refl _ w).alloc (Nat.le_refl _) _).trans (hb0.mono (by simp))
  clear hb0
  go_loopw [8, 10] (fun v dv wr => ∃ (k : Int) (ds : List Int), dv = .int .i64 k ∧ firstI a ≤ k ∧ k ≤ 730490 ∧ InWin (onB i f t d m c g y) d a b (firstI a) k ds ∧ ds.length ≤ 1000 ∧ wr.ownsRow w.heap.size 50 2 v ds.length (depCells d m ds) ∧ LegAt wr w.heap.size i f t d m c g y ∧ Below w.heap.size w wr)
    (fun _ dv _ => (730490 - intOf dv).toNat)
  case atStart => exact ⟨_, [], rfl, by omega, by omega, inWin_start, by simp, World.ownsRow_nil _ _ _ _, e0, hB1⟩
  case round =>
    obtain ⟨k, ds, rfl, hk0, hk1, hin, hlen, xo, x0, hX⟩ := hrel
    obtain ⟨l0, l1, l2, l3, l4, l5, l6, l7⟩ := x0.cells
    obtain ⟨p, cp, rfl⟩ := ownsRow_form xo
    have z0 := x0.lt
    by_cases hk : k ≤ firstI b
    · cases hon : onB i f t d m c g y k with
      | true =>
        have hlaw := onLaw (onB_iff.1 hon).1
        have hlo := hlaw.lo k hon
        have hhi := hlaw.hi k hon
        have hda0 := hlaw.day0 k hon
        clear hlaw
        have Hon := Lib.hid hon
        clear hon
        by_cases ha : a ≤ 1440 * k + d
        · by_cases hb : 1440 * k + d ≤ b
          · by_cases h1000 : ds.length = 1000
            · have hL : ((ds.length : Int) == 1000) = true := by rw [beq_iff_eq]; omega
              have H1000 := Lib.hid h1000
              clear h1000
              go_wp2_with (go_at_call 27; refine (refon_yes i f t d m c g y k wr hy0 hy1 Hon.out).mono ?_; rintro e w2 ⟨rfl, hb1⟩; obtain ⟨hc1, hf1⟩ := bcell hb1; have hs1 := hb1.size; have z2 : w.heap.size < w2.heap.size := (by omega))
              go_ret2
              obtain ⟨ls, hls, hlong⟩ := reflist_many hin hk0 Hon.out ha hb H1000.out
              exact ⟨ls, hls, .inr ⟨hlong, rfl⟩, (hX.trans (hb1.mono (by have := hX.size; omega))).alloc (by omega) _⟩
            · have hL : ((ds.length : Int) == 1000) = false := by rw [beq_eq_false_iff_ne]; omega
              have hlt2 : ds.length < 1000 := by omega
              clear h1000
              go_wp2_with (first
                | (go_at_call 27; refine (refon_yes i f t d m c g y k wr hy0 hy1 Hon.out).mono ?_; rintro e w2 ⟨rfl, hb1⟩; obtain ⟨hc1, hf1⟩ := bcell hb1; have hs1 := hb1.size; have z2 : w.heap.size < w2.heap.size := (by omega))
                | (at_builtin; refine wpList_append_own _ rfl _ _ 54 rfl w.heap.size 50 i0 (.agg #[.int .i64 0, .int .i64 0]) 2 16 Try.underlying54 hi hi0 hi1 hi2 rfl (by decide) _ _ _ rfl (((ownsRow_none xo hb1).alloc _).alloc _) ⟨w2.heap.size + 1, 0, none⟩ 1 1 [.int .i64 (1440 * k + d), .int .i64 (1440 * k + d + m)] rfl rfl (by have := cell_two_new (w2.alloc (.cells #[.int .i64 (1440 * k + d), .int .i64 (1440 * k + d + m)] 50)) (.int .i64 (1440 * k + d)) (.int .i64 (1440 * k + d + m)) 50; simpa using this) (by simp [Value.oneCell']) (by unfold maxLen; omega) (by omega) (by simp; omega) ?_; intro v' w4 hown' hgrow _))
              go_roundw
              case rel =>
                have y0 : LegAt w2 w.heap.size i f t d m c g y := BlockAt.below (t := 23) x0 hb1
                have y1 := ((BlockAt.alloc (t := 23) y0 (.cells #[.int .i64 (1440 * k + d), .int .i64 (1440 * k + d + m)] 50)).alloc (.cells #[.int .i64 (1440 * k + d), .int .i64 (1440 * k + d + m)] 50)).kept hgrow (BlockAt.not_row (t := 23) (BlockAt.alloc (t := 23) (BlockAt.alloc (t := 23) y0 (.cells #[.int .i64 (1440 * k + d), .int .i64 (1440 * k + d + m)] 50)) (.cells #[.int .i64 (1440 * k + d), .int .i64 (1440 * k + d + m)] 50)) (by decide) (((ownsRow_none xo hb1).alloc (.cells #[.int .i64 (1440 * k + d), .int .i64 (1440 * k + d + m)] 50)).alloc (.cells #[.int .i64 (1440 * k + d), .int .i64 (1440 * k + d + m)] 50)))
                exact ⟨k + 1, ds ++ [k], by go_num, by omega, by omega, inWin_hit hin hk0 Hon.out ha hb, by simp; omega, by rw [depCells_snoc, List.length_append]; exact hown', y1, ((((hX.trans (hb1.mono (by have := hX.size; omega))).alloc (by omega) _).alloc (by simp; omega) _).grown hgrow (by simp; omega) (fun j hj => ownsRow_base xo j hj))⟩
              case measure => simp [intOf]; omega
          · go_wp2_with (go_at_call 27; refine (refon_yes i f t d m c g y k wr hy0 hy1 Hon.out).mono ?_; rintro e w2 ⟨rfl, hb1⟩; obtain ⟨hc1, hf1⟩ := bcell hb1; have hs1 := hb1.size; have z2 : w.heap.size < w2.heap.size := (by omega))
            go_roundw
            case rel => exact ⟨k + 1, ds, by go_num, by omega, by omega, inWin_miss hin (fun h => by omega), hlen, (ownsRow_none xo hb1).alloc _, BlockAt.alloc (t := 23) (BlockAt.below (t := 23) x0 hb1) _, ((hX.trans (hb1.mono (by have := hX.size; omega))).alloc (by omega) _)⟩
            case measure => simp [intOf]; omega
        · go_wp2_with (go_at_call 27; refine (refon_yes i f t d m c g y k wr hy0 hy1 Hon.out).mono ?_; rintro e w2 ⟨rfl, hb1⟩; obtain ⟨hc1, hf1⟩ := bcell hb1; have hs1 := hb1.size; have z2 : w.heap.size < w2.heap.size := (by omega))
          go_roundw
          case rel => exact ⟨k + 1, ds, by go_num, by omega, by omega, inWin_miss hin (fun h => by omega), hlen, (ownsRow_none xo hb1).alloc _, BlockAt.alloc (t := 23) (BlockAt.below (t := 23) x0 hb1) _, ((hX.trans (hb1.mono (by have := hX.size; omega))).alloc (by omega) _)⟩
          case measure => simp [intOf]; omega
      | false =>
        have Hon := Lib.hid hon
        clear hon
        go_wp2_with (go_at_call 27; refine (refon_no i f t d m c g y k wr hy0 hy1 Hon.out).mono ?_; rintro e w2 ⟨rfl, hb1⟩; obtain ⟨hc1, hf1⟩ := bcell hb1; have hs1 := hb1.size; have z2 : w.heap.size < w2.heap.size := (by omega))
        go_roundw
        case rel => exact ⟨k + 1, ds, by go_num, by omega, by omega, inWin_miss hin (fun h => by rw [Hon.out] at h; cases h.1), hlen, (ownsRow_none xo hb1).alloc _, BlockAt.alloc (t := 23) (BlockAt.below (t := 23) x0 hb1) _, ((hX.trans (hb1.mono (by have := hX.size; omega))).alloc (by omega) _)⟩
        case measure => simp [intOf]; omega
    · go_wp2
      go_ret2
      exact ⟨ds, reflist_done hin (by omega), .inl ⟨hlen, _, rfl, xo⟩, hX⟩

set_option maxHeartbeats 1000000 in
theorem reflist_wrong (i f t d m c g y a b : Int) (w : World) (hy0 : 0 ≤ y) (hy1 : y ≤ 255) (hr : rightB i f t d m c g y = false) :
    Calls Try.prog 32 #[.agg #[.int .i64 i, .int .i64 f, .int .i64 t, .int .i64 d, .int .i64 m, .int .i64 c, .int .i64 g, .int .u8 y], .int .i64 a, .int .i64 b] w fun e w' => e = .returned (.tuple #[.slice none 0 0, .int .i64 2]) ∧ Below w.heap.size w w' := by
  go_enter Try.func32, Try.ntmps32
  go_wp2_with (go_at_call 28; refine (refright_any i f t d m c g y _ hy0 hy1).mono ?_; rintro e w1 ⟨rfl, hb0⟩)
  go_ret2
  exact ⟨rfl, ((Below.refl _ w).alloc (Nat.le_refl _) _).trans (hb0.mono (by simp))⟩

set_option maxHeartbeats 1000000 in
theorem list_wrong (i f t d m c g y a b : Int) (w : World) (hy0 : 0 ≤ y) (hy1 : y ≤ 255) (hr : rightB i f t d m c g y = false) :
    Calls Try.prog 18 #[.agg #[.int .i64 i, .int .i64 f, .int .i64 t, .int .i64 d, .int .i64 m, .int .i64 c, .int .i64 g, .int .u8 y], .int .i64 a, .int .i64 b] w fun e w' => e = .returned (.tuple #[.slice none 0 0, .int .i64 2]) ∧ Below w.heap.size w w' := by
  refine (callsIn_wide (n := 3)).1 ?_
  refine callsIn_of_wp_marks Try.func18 rfl trivial ?_ rfl
  simp only [Try.ntmps18, List.size_toArray, List.length_cons, List.length_nil, Nat.reduceAdd, Nat.reduceSub, Array.replicate_succ, Array.replicate_zero, List.push_toArray, List.append_toArray, List.nil_append, List.cons_append]
  gi_wp2_with (refine ⟨trivial, ?_⟩; gi_at_call 13; refine (callsIn_wide.2 (right_any i f t d m c g y _ hy0 hy1)).mono ?_; rintro e w1 ⟨rfl, hb1⟩; obtain ⟨hc1, hf1⟩ := bcell hb1; have hz : w.heap.size + 4 < w1.heap.size := (by have := hb1.size; simp at this; omega); have hz1 : w.heap.size + 3 < w1.heap.size := (by omega))
  have e3 : BlockAt w1 (w.heap.size + 3) #[.slice none 0 0] 33 := by
    refine BlockAt.below ?_ hb1
    have := (BlockAt.new (((w.alloc (.cells #[.int .i64 i, .int .i64 f, .int .i64 t, .int .i64 d, .int .i64 m, .int .i64 c, .int .i64 g, .int .u8 y] 23)).alloc (.cells #[.int .i64 a] 3)).alloc (.cells #[.int .i64 b] 3)) #[.slice none 0 0] 33).alloc (.cells #[.int .i64 0] 34)
    simpa using this
  have e4 : BlockAt w1 (w.heap.size + 4) #[.int .i64 0] 34 := by
    refine BlockAt.below ?_ hb1
    have := BlockAt.new ((((w.alloc (.cells #[.int .i64 i, .int .i64 f, .int .i64 t, .int .i64 d, .int .i64 m, .int .i64 c, .int .i64 g, .int .u8 y] 23)).alloc (.cells #[.int .i64 a] 3)).alloc (.cells #[.int .i64 b] 3)).alloc (.cells #[.slice none 0 0] 33)) #[.int .i64 0] 34
    simpa using this
  obtain ⟨p1, _⟩ := ((e3.set1 (.slice none 0 0)).other (B' := w.heap.size + 4) (j := 0) (by omega) (.int .i64 2)).one
  obtain ⟨p2, _⟩ := (BlockAt.set1 (e4.other (B' := w.heap.size + 3) (j := 0) (by omega) (.slice none 0 0)) (.int .i64 2)).one
  refine ⟨.tuple #[.slice none 0 0, .int .i64 2], by simp [results, Try.results18, go_sem, p1, p2], rfl, ?_⟩
  repeat (first | exact Below.refl _ _ | (with_reducible refine Below.setCell ?_ (by first | (simp; done) | (simp; omega)) _) | (with_reducible refine Below.trans ?_ (hb1.mono (by simp <;> omega))) | (with_reducible refine Below.alloc ?_ (by simp <;> omega) _))

set_option maxHeartbeats 1000000 in
theorem next_wrong_leg (i f t d m c g y b : Int) (w : World) (hy0 : 0 ≤ y) (hy1 : y ≤ 255) (hr : rightB i f t d m c g y = false) :
    Calls Try.prog 14 #[.agg #[.int .i64 i, .int .i64 f, .int .i64 t, .int .i64 d, .int .i64 m, .int .i64 c, .int .i64 g, .int .u8 y], .int .i64 b] w (NextPost (onB i f t d m c g y) d m c b w) := by
  have hpost : IsNext (onB i f t d m c g y) d c b none := next_wrong (onB_wrong hr)
  refine (callsIn_wide (n := 3)).1 ?_
  refine callsIn_of_wp_marks Try.func14 rfl trivial ?_ rfl
  simp only [Try.ntmps14, List.size_toArray, List.length_cons, List.length_nil, Nat.reduceAdd, Nat.reduceSub, Array.replicate_succ, Array.replicate_zero, List.push_toArray, List.append_toArray, List.nil_append, List.cons_append]
  gi_wp2_with (refine ⟨trivial, ?_⟩; gi_at_call 13; refine (callsIn_wide.2 (right_any i f t d m c g y _ hy0 hy1)).mono ?_; rintro e w1 ⟨rfl, hb1⟩; obtain ⟨hc1, hf1⟩ := bcell hb1; have hz : w.heap.size + 2 < w1.heap.size := (by have := hb1.size; simp at this; omega); have hz1 : w.heap.size + 1 < w1.heap.size := (by omega))
  have e1 : BlockAt w1 (w.heap.size + 1) #[.int .i64 0, .int .i64 0] 28 := by
    refine BlockAt.below ?_ hb1
    have := (BlockAt.new (w.alloc (.cells #[.int .i64 i, .int .i64 f, .int .i64 t, .int .i64 d, .int .i64 m, .int .i64 c, .int .i64 g, .int .u8 y] 23)) #[.int .i64 0, .int .i64 0] 28).alloc (.cells #[.bool false] 4)
    simpa using this
  have e2 : BlockAt w1 (w.heap.size + 2) #[.bool false] 4 := by
    refine BlockAt.below ?_ hb1
    have := BlockAt.new ((w.alloc (.cells #[.int .i64 i, .int .i64 f, .int .i64 t, .int .i64 d, .int .i64 m, .int .i64 c, .int .i64 g, .int .u8 y] 23)).alloc (.cells #[.int .i64 0, .int .i64 0] 28)) #[.bool false] 4
    simpa using this
  obtain ⟨p1, p2, _, _⟩ := (((e1.set20 (.int .i64 0)).set21 (.int .i64 0)).other (B' := w.heap.size + 2) (j := 0) (by omega) (.bool false)).two
  obtain ⟨p3, _⟩ := (BlockAt.set1 ((e2.other (B' := w.heap.size + 1) (j := 0) (by omega) (.int .i64 0)).other (B' := w.heap.size + 1) (j := 1) (by omega) (.int .i64 0)) (.bool false)).one
  refine ⟨encR d m none, by simp [results, Try.results14, go_sem, p1, p2, p3, encR], none, hpost, rfl, ?_⟩
  repeat (first | exact Below.refl _ _ | (with_reducible refine Below.setCell ?_ (by first | (simp; done) | (simp; omega)) _) | (with_reducible refine Below.trans ?_ (hb1.mono (by simp <;> omega))) | (with_reducible refine Below.alloc ?_ (by simp <;> omega) _))

set_option maxHeartbeats 1000000 in
theorem last_wrong_leg (i f t d m c g y b : Int) (w : World) (hy0 : 0 ≤ y) (hy1 : y ≤ 255) (hr : rightB i f t d m c g y = false ∨ rightB i f t d m c g y = true ∧ b < 0) :
    Calls Try.prog 17 #[.agg #[.int .i64 i, .int .i64 f, .int .i64 t, .int .i64 d, .int .i64 m, .int .i64 c, .int .i64 g, .int .u8 y], .int .i64 b] w (LastPost (onB i f t d m c g y) d m b w) := by
  have hpost : IsLast (onB i f t d m c g y) d m b none := by
    rcases hr with hr | ⟨hr, hb⟩
    · exact last_wrong (onB_wrong hr)
    · exact last_early (onLaw hr) hb
  rcases hr with hr | ⟨hr, hb⟩
  all_goals
    go_enter Try.func17, Try.ntmps17
    go_wp2_with (go_at_call 13; refine (right_any i f t d m c g y _ hy0 hy1).mono ?_; rintro e w1 ⟨rfl, hb1⟩; obtain ⟨hc1, hf1⟩ := bcell hb1; have hz : w.heap.size + 1 < w1.heap.size := (by have := hb1.size; simp at this; omega); have hz0 : w.heap.size < w1.heap.size := (by omega))
    have e1 : BlockAt w1 (w.heap.size + 1) #[.int .i64 0, .int .i64 0] 28 := by
      refine BlockAt.below ?_ hb1
      have := BlockAt.new (w.alloc (.cells #[.int .i64 i, .int .i64 f, .int .i64 t, .int .i64 d, .int .i64 m, .int .i64 c, .int .i64 g, .int .u8 y] 23)) #[.int .i64 0, .int .i64 0] 28
      simpa using this
    obtain ⟨p1, p2, _, _⟩ := ((e1.set20 (.int .i64 0)).set21 (.int .i64 0)).two
    refine bodyPost_ret (v := encR d m none) (by simp [results, Try.results17, go_sem, encR, p1, p2]) rfl ⟨none, hpost, rfl, ?_⟩
    repeat (first | exact Below.refl _ _ | (with_reducible refine Below.setCell ?_ (by first | (simp; done) | (simp; omega)) _) | (with_reducible refine Below.trans ?_ (hb1.mono (by simp <;> omega))) | (with_reducible refine Below.alloc ?_ (by simp <;> omega) _))
end Go.Proofs.Ytogofbncdggigaa
