/-
  The walk of NetworkList.
-/
import Derived.Deep.QuietTactic
import Derived.BigQuiet
import Derived.LoopTactic
import Derived.Deep.Cut
import Derived.Deep.CutRange
import Derived.Test.YtogofbncdggigaaNq
import Derived.Test.YtogofbncdggigaaNu
import Derived.Test.YtogofbncdggigaaNw
namespace Go.Proofs.Ytogofbncdggigaa
open Go.RowKit Net

set_option maxRecDepth 100000 in
set_option maxHeartbeats 8000000 in
theorem networklist_any (i f t d m c g y a dy cu : Int) (w : World) (hy0 : 0 ≤ y) (hy1 : y ≤ 255) (hdy0 : 0 ≤ dy) (_ : dy ≤ 255) (hcu0 : 0 ≤ cu) (_ : cu ≤ 255) :
    Calls Try.prog 7 #[.agg #[.int .i64 i, .int .i64 f, .int .i64 t, .int .i64 d, .int .i64 m, .int .i64 c, .int .i64 g, .int .u8 y], .int .i64 a, .int .u8 dy, .int .u8 cu] w fun e w' => e = .returned (.bool true) ∧ Below w.heap.size w w' := by
  go_enter Try.func7, Try.ntmps7
  go_wp2_with fail
  refine (awake_any _).mono ?_
  rintro e w1 ⟨rfl, hb⟩
  have u0 : LegAt w1 w.heap.size i f t d m c g y := BlockAt.below (t := 23) (BlockAt.new w #[.int .i64 i, .int .i64 f, .int .i64 t, .int .i64 d, .int .i64 m, .int .i64 c, .int .i64 g, .int .u8 y] 23) hb
  have uB : Below w.heap.size w w1 := ((Below.refl _ w).alloc (Nat.le_refl _) _).trans (hb.mono (by simp))
  clear hb
  obtain ⟨l0, l1, l2, l3, l4, l5, l6, l7⟩ := LegAt.cells u0
  have v0 := u0.lt
  go_wp2_with fail
  refine (right_any i f t d m c g y _ hy0 hy1).mono ?_
  cases hr : rightB i f t d m c g y with
  | false =>
    have HR := Lib.hid hr
    clear hr
    rintro e w2 ⟨rfl, hb⟩
    have t0 : LegAt w2 w.heap.size i f t d m c g y := BlockAt.below (t := 23) u0 hb
    have tB := uB.trans (hb.mono (by omega))
    clear l0 l1 l2 l3 l4 l5 l6 l7 v0 u0 uB hb
    obtain ⟨l0, l1, l2, l3, l4, l5, l6, l7⟩ := LegAt.cells t0
    have v0 := t0.lt
    go_wp2_with fail
    refine (list_wrong i f t d m c g y a a _ hy0 hy1 HR.out).mono ?_
    rintro e w3 ⟨rfl, hb⟩
    have sB := tB.trans (hb.mono (by omega))
    clear l0 l1 l2 l3 l4 l5 l6 l7 v0 t0 tB hb
    go_wp2
    go_ret
    exact ⟨rfl, sB⟩
  | true =>
    have hlaw := onLaw hr
    obtain ⟨b0, b1, b2, b3, b4, b5, b6, b7, b8, b9, b10, b11, b12, b13, b14, b15, b16⟩ := rightB_iff.1 hr
    clear b0 b1 b2 b3 b4 b5 b12 b13 b14 b15 b16
    have HR := Lib.hid hr
    have HL := Lib.hid hlaw
    clear hr hlaw
    rintro e w2 ⟨rfl, hb⟩
    have t0 : LegAt w2 w.heap.size i f t d m c g y := BlockAt.below (t := 23) u0 hb
    have tB := uB.trans (hb.mono (by omega))
    clear l0 l1 l2 l3 l4 l5 l6 l7 v0 u0 uB hb
    obtain ⟨l0, l1, l2, l3, l4, l5, l6, l7⟩ := LegAt.cells t0
    have v0 := t0.lt
    obtain ⟨A, hA⟩ : ∃ A, pickI a 1051898400 = A := ⟨_, rfl⟩
    have hA0 := pickI_bd a 1051898400 (by omega)
    rw [hA] at hA0
    obtain ⟨hA1, hA2⟩ := hA0
    go_wp2_with fail
    refine (pick_any a 1051898400 _ (by omega) (by omega)).mono ?_
    rintro e w' ⟨rfl, rfl⟩
    rw [hA]
    clear hA
    obtain ⟨D, hD⟩ : ∃ D, dy % 61 = D := ⟨_, rfl⟩
    obtain ⟨C, hC⟩ : ∃ C, cu % 61 = C := ⟨_, rfl⟩
    have hD0 := Int.emod_nonneg dy (b := 61) (by omega)
    have hD1 := Int.emod_lt_of_pos dy (b := 61) (by omega)
    have hC0 := Int.emod_nonneg cu (b := 61) (by omega)
    have hC1 := Int.emod_lt_of_pos cu (b := 61) (by omega)
    rw [hD] at hD0 hD1
    rw [hC] at hC0 hC1
    have hDt : dy.tmod 61 = D := by rw [Int.tmod_eq_emod_of_nonneg hdy0]; exact hD
    have hCt : cu.tmod 61 = C := by rw [Int.tmod_eq_emod_of_nonneg hcu0]; exact hC
    go_wp2_with fail
    refine (list_right i f t d m c g y _ _ _ hy0 hy1 HR.out).mono ?_
    rintro e w3 ⟨xs, hxs, hx, hb⟩
    have hxl := isList_length HL.out hxs hA1 (by omega) (by omega)
    rcases hx with ⟨_, vx, rfl, xo⟩ | ⟨hlong, _⟩
    case inr => omega
    obtain ⟨px, cx, rfl⟩ := ownsRow_form xo
    have s0 : LegAt w3 w.heap.size i f t d m c g y := BlockAt.below (t := 23) t0 hb
    have sB := tB.trans (hb.mono (by omega))
    clear l0 l1 l2 l3 l4 l5 l6 l7 v0 t0 tB hb
    obtain ⟨l0, l1, l2, l3, l4, l5, l6, l7⟩ := LegAt.cells s0
    have v0 := s0.lt
    have HX := Lib.hid hxs
    clear hxs
    go_upto_region 10 with fail
    go_cut [15, 16] from 67 to 75 (fun vu eu wx => ∃ (us : List Int) (pu : Option Addr) (cu2 : Nat), us.length ≤ 1000 ∧ Hid (IsList (onB i f t d m c g y) d A (min (A + 1440 * C) (A + 1440 * D)) us) ∧ vu = .slice pu us.length cu2 ∧ eu = .int .i64 0 ∧ wx.ownsRow w3.heap.size 28 2 vu us.length (depCells d m us) ∧ LegAt wx w.heap.size i f t d m c g y ∧ wx.ownsRow w2.heap.size 28 2 (.slice px xs.length cx) xs.length (depCells d m xs) ∧ Below w.heap.size w wx)
    case first =>
      as_aux_lemma =>
        go_wp2_with fail
        all_goals
          refine (list_right i f t d m c g y _ _ _ hy0 hy1 HR.out).mono ?_
          rintro e w4 ⟨us, hus, hx, hb⟩
          have hul := isList_length HL.out hus hA1 (by omega) (by omega)
          have hHU : Hid (IsList (onB i f t d m c g y) d A (min (A + 1440 * C) (A + 1440 * D)) us) := by
            first
              | (rw [show min (A + 1440 * C) (A + 1440 * D) = A + 1440 * C from by omega]; exact Lib.hid hus)
              | (rw [show min (A + 1440 * C) (A + 1440 * D) = A + 1440 * D from by omega]; exact Lib.hid hus)
          rcases hx with hx | hx
          all_goals
            first
              | (exfalso; have := hx.1; omega)
              | (obtain ⟨_, vx, rfl, uo⟩ := hx
                 obtain ⟨pu, cu2, rfl⟩ := ownsRow_form uo
                 have xo2 := ownsRow_none xo hb
                 have r0 : LegAt w4 w.heap.size i f t d m c g y := BlockAt.below (t := 23) s0 hb
                 have rB := sB.trans (hb.mono (by omega))
                 clear l0 l1 l2 l3 l4 l5 l6 l7 hb hus
                 go_wp2_with fail
                 go_meet
                 case rel => exact ⟨us, pu, cu2, by omega, hHU, rfl, rfl, uo, r0, xo2, rB⟩)
    case rest =>
      as_aux_lemma =>
        obtain ⟨us, pu, cu2, hul, HU, rfl, rfl, uo, r0, xo2, rB⟩ := hcut
        obtain ⟨w4, hw4⟩ : ∃ w4, w4 = wc := ⟨_, rfl⟩
        subst hw4
        clear l0 l1 l2 l3 l4 l5 l6 l7 v0 s0 sB xo
        obtain ⟨l0, l1, l2, l3, l4, l5, l6, l7⟩ := LegAt.cells r0
        have v0 := r0.lt
        go_wp2_with fail
        refine (list_right i f t d m c g y _ _ _ hy0 hy1 HR.out).mono ?_
        rintro e w5 ⟨vs, hvs, hx, hb⟩
        have hparts := isList_parts HX.out HU.out (by rw [show A + 1440 * C + 1 = A + 1440 * C + 1 from rfl] at hvs; exact hvs) (by omega)
        have hlen : xs.length = us.length + vs.length := by rw [hparts, List.length_append]
        have HP := Lib.hid hparts
        have hl1 : us.length ≤ xs.length := by omega
        have hl2 : vs.length ≤ xs.length := by omega
        clear hparts hvs
        rcases hx with ⟨_, vx, rfl, vo⟩ | ⟨hlong, _⟩
        case inr => omega
        obtain ⟨pv, cv, rfl⟩ := ownsRow_form vo
        have q0 : LegAt w5 w.heap.size i f t d m c g y := BlockAt.below (t := 23) r0 hb
        have qB := rB.trans (hb.mono (by omega))
        have xo3 := ownsRow_none xo2 hb
        have uo3 := ownsRow_none uo hb
        clear l0 l1 l2 l3 l4 l5 l6 l7 v0 r0 rB hb xo2 uo
        obtain ⟨l0, l1, l2, l3, l4, l5, l6, l7⟩ := LegAt.cells q0
        have v0 := q0.lt
        have hne : ((us.length : Int) + (vs.length : Int) != (xs.length : Int)) = false := by rw [bne_eq_false_iff_eq]; omega
        have HN := Lib.hid hlen
        clear hlen
        go_wp2_with fail
        clear hne hDt hCt hD hC hdy0 hcu0 l0 l1 l2 l3 l4 l5 l6 l7 v0
  
        go_loopw [19] (fun iv wr => ∃ k : Nat, iv = .int .i64 k ∧ k ≤ xs.length ∧ LegAt wr w.heap.size i f t d m c g y ∧ wr.ownsRow w2.heap.size 28 2 (.slice px xs.length cx) xs.length (depCells d m xs) ∧ wr.ownsRow w3.heap.size 28 2 (.slice pu us.length cu2) us.length (depCells d m us) ∧ wr.ownsRow w4.heap.size 28 2 (.slice pv vs.length cv) vs.length (depCells d m vs) ∧ Below w.heap.size w wr)
          (fun iv _ => xs.length - (intOf iv).toNat)
        case atStart => exact ⟨0, rfl, Nat.zero_le _, q0, xo3, uo3, vo, qB⟩
        case round =>
          as_aux_lemma =>
            obtain ⟨k, rfl, hk, y0, xr, ur, vr, yB⟩ := hrel
            clear q0 xo3 uo3 vo qB
            by_cases hlt : k < xs.length
            · obtain ⟨gp, rfl, hgp⟩ : ∃ gp, px = some ⟨gp, 0, none⟩ ∧ gp < wr.heap.size := by
                rcases xr.2 with ⟨_, h0⟩ | ⟨g1, cap, cur, h1, _, h2, _⟩
                · omega
                · exact ⟨g1, by cases h1; rfl, (Array.getElem?_eq_some_iff.1 h2).1⟩
              obtain ⟨x, hx⟩ : ∃ x, xs[k]? = some x := ⟨xs[k], List.getElem?_eq_getElem hlt⟩
              obtain ⟨hon, hxa, hxb⟩ := (HX.out.2 x).1 (List.mem_of_getElem? hx)
              have hx0 := HL.out.day0 x hon
              have hx1 := HL.out.day1 x hon
              have hx2 := HL.out.lo x hon
              have hx3 := HL.out.hi x hon
              obtain ⟨hc1, hc2⟩ := depCells_get d m xs k x hx
              have k1 := (xr.cellAt (k * 2) (by omega)).trans hc1
              have k2 := (xr.cellAt (k * 2 + 1) (by omega)).trans hc2
              have hbit := Lib.hid (bit_yes hy0 hy1 (onB_iff.1 hon).2.2.1)
              have Hon := Lib.hid hon
              have Hx := Lib.hid hx
              clear hon hx
              have hlti : (k : Int) < (xs.length : Int) := by omega
              go_upto_region 17 with fail
              go_cut [144] from 104 to 236 (fun bv wx => bv = .bool false ∧ ∃ n, wx = wr.drewN n)
              case first =>
                as_aux_lemma =>
                  by_cases hku : k < us.length
                  · have hux : us[k]? = some x := by rw [← Hx.out, HP.out, List.getElem?_append_left hku]
                    obtain ⟨gu, rfl, hgu⟩ : ∃ gu, pu = some ⟨gu, 0, none⟩ ∧ gu < wr.heap.size := by
                      rcases ur.2 with ⟨_, h0⟩ | ⟨g1, cap, cur, h1, _, h2, _⟩
                      · omega
                      · exact ⟨g1, by cases h1; rfl, (Array.getElem?_eq_some_iff.1 h2).1⟩
                    obtain ⟨hc3, hc4⟩ := depCells_get d m us k x hux
                    have k3 := (ur.cellAt (k * 2) (by omega)).trans hc3
                    have k4 := (ur.cellAt (k * 2 + 1) (by omega)).trans hc4
                    clear hc1 hc2 hc3 hc4 hux xr ur vr yB y0
                    have hkui : (k : Int) < (us.length : Int) := by omega
                    have hg1 : decide ((us.length : Int) ≤ (k : Int)) = false := decide_eq_false (by omega)
                    have hg2 : decide (us.length ≤ k) = false := decide_eq_false (by omega)
                    go_quiet (fail)
                    go_wp2_with fail
                    go_meet
                    case rel => exact ⟨rfl, _, rfl⟩
                  · obtain ⟨j, hj⟩ : ∃ j, k = us.length + j := ⟨k - us.length, by omega⟩
                    have hux : vs[j]? = some x := by rw [← Hx.out, HP.out, List.getElem?_append_right (by omega), show k - us.length = j from by omega]
                    have hjlt : j < vs.length := (List.getElem?_eq_some_iff.1 hux).1
                    obtain ⟨gu, rfl, hgu⟩ : ∃ gu, pv = some ⟨gu, 0, none⟩ ∧ gu < wr.heap.size := by
                      rcases vr.2 with ⟨_, h0⟩ | ⟨g1, cap, cur, h1, _, h2, _⟩
                      · omega
                      · exact ⟨g1, by cases h1; rfl, (Array.getElem?_eq_some_iff.1 h2).1⟩
                    obtain ⟨hc3, hc4⟩ := depCells_get d m vs j x hux
                    have k3 := (vr.cellAt (j * 2) (by omega)).trans hc3
                    have k4 := (vr.cellAt (j * 2 + 1) (by omega)).trans hc4
                    clear hc1 hc2 hc3 hc4 hux xr ur vr yB y0
                    have hji : (k : Int) - (us.length : Int) = (j : Int) := by omega
                    have hjlti : (j : Int) < (vs.length : Int) := by omega
                    have hg1 : decide ((k : Int) < (us.length : Int)) = false := decide_eq_false (by omega)
                    have hg2 : decide (k < us.length) = false := decide_eq_false (by omega)
                    have hg3 : decide ((us.length : Int) ≤ (k : Int)) = true := decide_eq_true (by omega)
                    have hg4 : decide (us.length ≤ k) = true := decide_eq_true (by omega)
                    have Hj := Lib.hid hj
                    clear hj
                    go_quiet (fail)
                    go_wp2_with fail
                    go_meet
                    case rel => exact ⟨rfl, _, rfl⟩
              case rest =>
                as_aux_lemma =>
                  obtain ⟨rfl, n, hwc⟩ := hcut
                  have y1 : LegAt wc w.heap.size i f t d m c g y := by rw [hwc]; exact y0
                  have xr1 : wc.ownsRow w2.heap.size 28 2 (.slice (some ⟨gp, 0, none⟩) xs.length cx) xs.length (depCells d m xs) := by rw [hwc]; exact xr
                  have ur1 : wc.ownsRow w3.heap.size 28 2 (.slice pu us.length cu2) us.length (depCells d m us) := by rw [hwc]; exact ur
                  have vr1 : wc.ownsRow w4.heap.size 28 2 (.slice pv vs.length cv) vs.length (depCells d m vs) := by rw [hwc]; exact vr
                  have yB1 : Below w.heap.size w wc := by rw [hwc]; exact ⟨yB.os, yB.tape, yB.output, yB.size, yB.block⟩
                  have hgp1 : gp < wc.heap.size := by rw [hwc]; exact hgp
                  clear hwc y0 xr ur vr yB hgp k1 k2
                  obtain ⟨w6, hw6⟩ : ∃ w6, w6 = wc := ⟨_, rfl⟩
                  subst hw6
                  obtain ⟨l0, l1, l2, l3, l4, l5, l6, l7⟩ := LegAt.cells y1
                  have v0 := y1.lt
                  have k1 := (xr1.cellAt (k * 2) (by omega)).trans hc1
                  have k2 := (xr1.cellAt (k * 2 + 1) (by omega)).trans hc2
                  have hq1 : (1440 * x + d) / 1440 = x := by omega
                  have hwx : IntKind.i64.wrap ((1440 * x + d).tdiv 1440) = x := by rw [Int.tdiv_eq_ediv_of_nonneg (by omega), hq1, IntKind.wrap_i64]; omega
                  go_upto_region 19 with fail
                  have ne3 : ¬ w.heap.size = w6.heap.size := by omega
                  have ne4 : ¬ gp = w6.heap.size := by omega
                  have ne5 : w6.heap.size ≠ w.heap.size := by omega
                  have ne6 : w6.heap.size ≠ gp := by omega
                  go_cut [20, 21] from 104 to 236 (fun pb bv wx => ∃ B : Nat, pb = .pointer (some ⟨B, 0, none⟩) ∧ bv = .bool true ∧ BlockAt wx B #[.int .i64 (1440 * x + d), .int .i64 (1440 * x + d + m)] 28 ∧ Below w6.heap.size w6 wx)
                  case first =>
                    as_aux_lemma =>
                      go_region_held3 (fun w' => w'.cell? ⟨w.heap.size, 0, none⟩ = some (.int .i64 i) ∧ w'.cell? ⟨w.heap.size, 1, none⟩ = some (.int .i64 f) ∧ w'.cell? ⟨w.heap.size, 2, none⟩ = some (.int .i64 t) ∧ w'.cell? ⟨w.heap.size, 3, none⟩ = some (.int .i64 d) ∧ w'.cell? ⟨w.heap.size, 4, none⟩ = some (.int .i64 m) ∧ w'.cell? ⟨w.heap.size, 5, none⟩ = some (.int .i64 c) ∧ w'.cell? ⟨w.heap.size, 6, none⟩ = some (.int .i64 g) ∧ w'.cell? ⟨w.heap.size, 7, none⟩ = some (.int .u8 y) ∧ w'.cell? ⟨gp, k * 2, none⟩ = some (.int .i64 (1440 * x + d)) ∧ w'.cell? ⟨gp, k * 2 + 1, none⟩ = some (.int .i64 (1440 * x + d + m))) (go_keep)
                        (first
                          | (go_at_call 16; (try rw [hwx]); refine (on_yes i f t d m c g y x _ hy0 hy1 Hon.out).mono ?_; rintro e w7 ⟨rfl, hb7⟩; have hc7 : ∀ b o, b < w6.heap.size → w7.cell? ⟨b, o, none⟩ = w6.cell? ⟨b, o, none⟩ := (bcell hb7).1; have hs7 : w6.heap.size ≤ w7.heap.size := hb7.size; have t1 : w.heap.size < w7.heap.size := (by omega); have t2 : gp < w7.heap.size := (by omega); have ne1 : ¬ w.heap.size = w7.heap.size := (by omega); have ne2 : ¬ gp = w7.heap.size := (by omega); have ne7 : w7.heap.size ≠ w.heap.size := (by omega); have ne8 : w7.heap.size ≠ gp := (by omega); have hb8 : Below w6.heap.size w6 w7 := (Below.refl _ w6).drew.trans hb7)
                          | (go_at_call 16; (try rw [hwx]); refine (on_yes i f t d m c g y x _ hy0 hy1 Hon.out).mono ?_; rintro e w7 ⟨rfl, hb7⟩; have hc7 : ∀ b o, b < w6.heap.size → w7.cell? ⟨b, o, none⟩ = w6.cell? ⟨b, o, none⟩ := fun b o h => ((bcell hb7).1 b o (show b < (w6.alloc _).heap.size by simp; omega)).trans (World.cell?_alloc_past _ _ _ h); have hn7 : BlockAt w7 w6.heap.size #[.int .i64 0, .int .i64 0] 28 := (show BlockAt (w6.alloc (.cells #[.int .i64 0, .int .i64 0] 28)).drew w6.heap.size #[.int .i64 0, .int .i64 0] 28 from BlockAt.new w6 _ 28).below hb7; obtain ⟨hn1, hn2, hn3, hn4⟩ := hn7.two; have hn5 := hn7.lt; have hb8 : Below w6.heap.size w6 w7 := (((Below.refl _ w6).alloc (Nat.le_refl _) _).drew).trans (hb7.mono (by show w6.heap.size ≤ (w6.alloc _).heap.size; simp))))
                      all_goals
                        go_wp2_with fail
                        go_meet
                        case rel =>
                          first
                            | exact ⟨_, rfl, rfl, BlockAt.new w7 _ 28, hb8.alloc hs7 _⟩
                            | exact ⟨_, rfl, rfl, (hn7.set20 _).set21 _, (hb8.setCell (p := ⟨w6.heap.size, 0, none⟩) (Nat.le_refl _) _).setCell (p := ⟨w6.heap.size, 1, none⟩) (Nat.le_refl _) _⟩
                  case rest =>
                    as_aux_lemma =>
                      obtain ⟨B, rfl, rfl, z1, hb7⟩ := hcut
                      have y2 : LegAt wc w.heap.size i f t d m c g y := BlockAt.below (t := 23) y1 hb7
                      have xr2 := ownsRow_none xr1 hb7
                      have ur2 := ownsRow_none ur1 hb7
                      have vr2 := ownsRow_none vr1 hb7
                      have yB2 : Below w.heap.size w wc := yB1.trans (hb7.mono (by omega))
                      have hgp2 : gp < wc.heap.size := by have := hb7.size; omega
                      clear hb7 y1 xr1 ur1 vr1 yB1 hgp1 l0 l1 l2 l3 l4 l5 l6 l7 v0 k1 k2 ne3 ne4 ne5 ne6 hwx
                      obtain ⟨w8, hw8⟩ : ∃ w8, w8 = wc := ⟨_, rfl⟩
                      subst hw8
                      obtain ⟨l0, l1, l2, l3, l4, l5, l6, l7⟩ := LegAt.cells y2
                      have v0 := y2.lt
                      have k1 := (xr2.cellAt (k * 2) (by omega)).trans hc1
                      have k2 := (xr2.cellAt (k * 2 + 1) (by omega)).trans hc2
                      obtain ⟨p0, p1, _, _⟩ := z1.two
                      have v1 := z1.lt
                      have hq2 : (1440 * x + d) % 1440 = d := by omega
                      have hm1 : (1440 * x + d).tmod 1440 = d := by rw [Int.tmod_eq_emod_of_nonneg (by omega)]; exact hq2
                      have hq0 : (1440 * x + d).tdiv 1440 = x := by rw [Int.tdiv_eq_ediv_of_nonneg (by omega)]; exact hq1
                      have ht7 : x.tmod 7 = x % 7 := Int.tmod_eq_emod_of_nonneg hx0
                      have hwd : IntKind.i64.wrap d = d := by rw [IntKind.wrap_i64]; omega
                      have hwx2 : IntKind.i64.wrap x = x := by rw [IntKind.wrap_i64]; omega
                      have hw7 : IntKind.i64.wrap (x % 7) = x % 7 := by rw [IntKind.wrap_i64]; omega
                      have h70 : 0 ≤ x % 7 := by omega
                      have h71 : x % 7 < 7 := by omega
                      have hd1 : decide (1440 * x + d < A) = false := decide_eq_false (by omega)
                      have hd2 : decide (A + 1440 * D < 1440 * x + d) = false := decide_eq_false (by omega)
                      have hbit2 := hbit.out
                      go_upto_region 20 with fail
                      go_cut [208] from 104 to 236 (fun bv wx => bv = .bool false ∧ ∃ n, wx = w8.drewN n)
                      case first =>
                        as_aux_lemma =>
                          clear y2 xr2 ur2 vr2 yB2 hc1 hc2 z1 Hon Hx hbit hx1 hx2 hx3 hlt hk hC0 hC1 b8 b9 b10 b11 HX HU HP HN HL HR
                          go_quiet (fail)
                          go_wp2_with fail
                          go_meet
                          case rel => exact ⟨by first | rfl | (simp; omega), _, rfl⟩
                      case rest =>
                        as_aux_lemma =>
                          obtain ⟨rfl, n, hwc⟩ := hcut
                          have y3 : LegAt wc w.heap.size i f t d m c g y := by rw [hwc]; exact y2
                          have xr3 : wc.ownsRow w2.heap.size 28 2 (.slice (some ⟨gp, 0, none⟩) xs.length cx) xs.length (depCells d m xs) := by rw [hwc]; exact xr2
                          have ur3 : wc.ownsRow w3.heap.size 28 2 (.slice pu us.length cu2) us.length (depCells d m us) := by rw [hwc]; exact ur2
                          have vr3 : wc.ownsRow w4.heap.size 28 2 (.slice pv vs.length cv) vs.length (depCells d m vs) := by rw [hwc]; exact vr2
                          have yB3 : Below w.heap.size w wc := by rw [hwc]; exact ⟨yB2.os, yB2.tape, yB2.output, yB2.size, yB2.block⟩
                          have hgp3 : gp < wc.heap.size := by rw [hwc]; exact hgp2
                          clear hwc y2 xr2 ur2 vr2 yB2 hgp2 k1 k2 l0 l1 l2 l3 l4 l5 l6 l7 v0 v1 p0 p1 z1 hm1 hq0 ht7 hwd hwx2 hw7 h70 h71 hd1 hd2 hbit hbit2 hq1 hq2
                          obtain ⟨w9, hw9⟩ : ∃ w9, w9 = wc := ⟨_, rfl⟩
                          subst hw9
                          have k1 := (xr3.cellAt (k * 2) (by omega)).trans hc1
                          have k2 := (xr3.cellAt (k * 2 + 1) (by omega)).trans hc2
                          go_upto_region 22 with fail
                          go_cut [22] from 104 to 236 (fun gv wx => (∃ n, wx = w9.drewN n) ∧ ((k = 0 ∧ gv = .int .i64 0) ∨ (0 < k ∧ ∃ n : Int, 1 ≤ n ∧ n ≤ 7 ∧ gv = .int .i64 (1440 * n))))
                          case first =>
                            as_aux_lemma =>
                              by_cases hk0 : k = 0
                              · subst hk0
                                clear y3 ur3 vr3 yB3 xr3 hc1 hc2
                                have k3 : w9.cell? ⟨gp, 0, none⟩ = some (.int .i64 (1440 * x + d)) := by simpa using k1
                                go_quiet (fail)
                                go_wp2_with fail
                                go_meet
                                case rel => exact ⟨⟨_, rfl⟩, .inl ⟨by first | rfl | trivial, by go_num⟩⟩
                              · obtain ⟨j, hj⟩ : ∃ j, k = j + 1 := ⟨k - 1, by omega⟩
                                obtain ⟨x', hx'⟩ : ∃ x', xs[j]? = some x' := ⟨xs[j], List.getElem?_eq_getElem (by omega)⟩
                                obtain ⟨hn1, hn2⟩ := isList_gap HX.out hx' (by rw [← hj]; exact Hx.out)
                                obtain ⟨hc3, hc4⟩ := depCells_get d m xs j x' hx'
                                have k3 := (xr3.cellAt (j * 2) (by omega)).trans hc3
                                have hxm := (HX.out.2 x').1 (List.mem_of_getElem? hx')
                                have hx4 := HL.out.day0 x' hxm.1
                                have hji : (k : Int) - 1 = (j : Int) := by omega
                                have hk1 : (1 : Int) ≤ (k : Int) := by omega
                                have hk2 : 0 < k := by omega
                                have hjl : (j : Int) < (xs.length : Int) := by omega
                                have Hj := Lib.hid hj
                                clear hj hxm hx' y3 ur3 vr3 yB3 xr3 hc1 hc2 hc3 hc4
                                go_quiet (fail)
                                go_wp2_with fail
                                go_meet
                                case rel => exact ⟨⟨_, rfl⟩, .inr ⟨hk2, x - x', by omega, by omega, by go_num⟩⟩
                          case rest =>
                            as_aux_lemma =>
                              obtain ⟨⟨n, hwc⟩, hgv⟩ := hcut
                              have y4 : LegAt wc w.heap.size i f t d m c g y := by rw [hwc]; exact y3
                              have xr4 : wc.ownsRow w2.heap.size 28 2 (.slice (some ⟨gp, 0, none⟩) xs.length cx) xs.length (depCells d m xs) := by rw [hwc]; exact xr3
                              have ur4 : wc.ownsRow w3.heap.size 28 2 (.slice pu us.length cu2) us.length (depCells d m us) := by rw [hwc]; exact ur3
                              have vr4 : wc.ownsRow w4.heap.size 28 2 (.slice pv vs.length cv) vs.length (depCells d m vs) := by rw [hwc]; exact vr3
                              have yB4 : Below w.heap.size w wc := by rw [hwc]; exact ⟨yB3.os, yB3.tape, yB3.output, yB3.size, yB3.block⟩
                              clear hwc y3 xr3 ur3 vr3 yB3 hgp3 k1 k2 hc1 hc2 Hx Hon hx0 hx1 hx2 hx3 hxa hxb
                              rcases hgv with ⟨hk0, rfl⟩ | ⟨hk0, e, he1, he2, rfl⟩
                              · have hd : decide ((0 : Int) < (k : Int)) = false := decide_eq_false (by omega)
                                have hd2 : decide (0 < k) = false := decide_eq_false (by omega)
                                have Hk0 := Lib.hid hk0
                                clear hk0
                                go_wp2_with fail
                                go_roundw
                                case rel => exact ⟨k + 1, by go_num, by omega, y4, xr4, ur4, vr4, yB4⟩
                                case measure => simp [intOf]; omega
                              · have hk1 : (0 : Int) < (k : Int) := by omega
                                go_wp2_with fail
                                go_roundw
                                case rel => exact ⟨k + 1, by go_num, by omega, y4, xr4, ur4, vr4, yB4⟩
                                case measure => simp [intOf]; omega
            · as_aux_lemma =>
                go_wp2_with fail
                clear xr ur vr
                have hup := upTo_start HX.out b6 b7 hA1
                go_loopw [23, 24] (fun mv dv wz => ∃ j : Int, dv = .int .i64 j ∧ mv = .int .i64 ((upTo xs j).length : Nat) ∧ A / 1440 ≤ j ∧ j ≤ (A + 1440 * D) / 1440 + 1 ∧ LegAt wz w.heap.size i f t d m c g y ∧ Below w.heap.size w wz)
                  (fun _ dv _ => ((A + 1440 * D) / 1440 + 1 - intOf dv).toNat)
                case atStart => exact ⟨_, rfl, by rw [hup]; rfl, by omega, by omega, y0, yB⟩
                case round =>
                  as_aux_lemma =>
                    obtain ⟨j, rfl, rfl, hj0, hj1, z0, zB⟩ := hrel
                    obtain ⟨l0, l1, l2, l3, l4, l5, l6, l7⟩ := LegAt.cells z0
                    have v0 := z0.lt
                    have hup1 := upTo_le xs j
                    by_cases hlt2 : j ≤ (A + 1440 * D) / 1440
                    · cases hon : onB i f t d m c g y j with
                      | true =>
                        have hl1 := HL.out.lo j hon
                        have hl2 := HL.out.hi j hon
                        by_cases hin : A ≤ 1440 * j + d ∧ 1440 * j + d ≤ A + 1440 * D
                        · obtain ⟨hin0, hin1⟩ := hin
                          have hlen := upTo_len_yes HX.out.1 ((HX.out.2 j).2 ⟨hon, hin0, hin1⟩)
                          have HLEN := Lib.hid hlen
                          have Hon := Lib.hid hon
                          clear hon hlen
                          go_wp2_with (go_at_call 16; refine (on_yes i f t d m c g y j wr hy0 hy1 Hon.out).mono ?_; rintro e w5 ⟨rfl, hb⟩; obtain ⟨hc1, hf1⟩ := bcell hb; have hs := hb.size; have hz0 : w.heap.size < w5.heap.size := (by omega))
                          go_roundw
                          case rel => exact ⟨j + 1, by go_num, by rw [HLEN.out]; go_num, by omega, by omega, BlockAt.alloc (t := 23) (BlockAt.below (t := 23) z0 hb) _, (zB.trans (hb.mono (by omega))).alloc (by omega) _⟩
                          case measure => simp [intOf]; omega
                        · have hlen := upTo_len_no (xs := xs) (k := j) (fun hm => hin ((HX.out.2 j).1 hm).2)
                          have HLEN := Lib.hid hlen
                          have Hon := Lib.hid hon
                          clear hon hlen
                          rcases (by omega : 1440 * j + d < A ∨ (A ≤ 1440 * j + d ∧ A + 1440 * D < 1440 * j + d)) with hin2 | ⟨hin2, hin3⟩
                          all_goals
                            clear hin
                            go_wp2_with (go_at_call 16; refine (on_yes i f t d m c g y j wr hy0 hy1 Hon.out).mono ?_; rintro e w5 ⟨rfl, hb⟩; obtain ⟨hc1, hf1⟩ := bcell hb; have hs := hb.size; have hz0 : w.heap.size < w5.heap.size := (by omega))
                            go_roundw
                            case rel => exact ⟨j + 1, by go_num, by rw [HLEN.out], by omega, by omega, BlockAt.alloc (t := 23) (BlockAt.below (t := 23) z0 hb) _, (zB.trans (hb.mono (by omega))).alloc (by omega) _⟩
                            case measure => simp [intOf]; omega
                      | false =>
                        have hlen := upTo_len_no (xs := xs) (k := j) (fun hm => by have := ((HX.out.2 j).1 hm).1; rw [hon] at this; cases this)
                        have HLEN := Lib.hid hlen
                        have Hon := Lib.hid hon
                        clear hon hlen
                        go_wp2_with (go_at_call 16; refine (on_no i f t d m c g y j wr hy0 hy1 Hon.out).mono ?_; rintro e w5 ⟨rfl, hb⟩; obtain ⟨hc1, hf1⟩ := bcell hb; have hs := hb.size; have hz0 : w.heap.size < w5.heap.size := (by omega))
                        go_roundw
                        case rel => exact ⟨j + 1, by go_num, by rw [HLEN.out], by omega, by omega, BlockAt.alloc (t := 23) (BlockAt.below (t := 23) z0 hb) _, (zB.trans (hb.mono (by omega))).alloc (by omega) _⟩
                        case measure => simp [intOf]; omega
                    · rw [upTo_end (k := j) HX.out b6 b7 (by omega)]
                      go_wp2
                      go_ret
                      exact ⟨rfl, zB⟩
end Go.Proofs.Ytogofbncdggigaa
