/-
  The walk of NetworkLast.
-/
import Derived.Test.YtogofbncdggigaaNq
import Derived.Test.YtogofbncdggigaaNu
import Derived.LoopTactic
namespace Go.Proofs.Ytogofbncdggigaa
open Go.RowKit Net

set_option maxRecDepth 100000 in
set_option maxHeartbeats 4000000 in
theorem networklast_any (i f t d m c g y a : Int) (w : World) (hy0 : 0 ≤ y) (hy1 : y ≤ 255) :
    Calls Try.prog 5 #[.agg #[.int .i64 i, .int .i64 f, .int .i64 t, .int .i64 d, .int .i64 m, .int .i64 c, .int .i64 g, .int .u8 y], .int .i64 a] w fun e w' => e = .returned (.bool true) ∧ Below w.heap.size w w' := by
  go_enter Try.func5, Try.ntmps5
  go_wp2_with fail
  refine (awake_any _).mono ?_
  rintro e w1 ⟨rfl, hb⟩
  have u0 : LegAt w1 w.heap.size i f t d m c g y := BlockAt.below (t := 23) (BlockAt.new w #[.int .i64 i, .int .i64 f, .int .i64 t, .int .i64 d, .int .i64 m, .int .i64 c, .int .i64 g, .int .u8 y] 23) hb
  have uB : Below w.heap.size w w1 := ((Below.refl _ w).alloc (Nat.le_refl _) _).trans (hb.mono (by simp))
  clear hb
  obtain ⟨l0, l1, l2, l3, l4, l5, l6, l7⟩ := LegAt.cells u0
  have v0 := u0.lt
  go_wp2_with fail
  refine (right_any i f t d m c g y _ hy0 hy1).mono ?_
  cases hr : rightB i f t d m c g y with
  | false =>
    have HR := Lib.hid hr
    clear hr
    rintro e w2 ⟨rfl, hb⟩
    have t0 : LegAt w2 w.heap.size i f t d m c g y := BlockAt.below (t := 23) u0 hb
    have tB := uB.trans (hb.mono (by omega))
    clear l0 l1 l2 l3 l4 l5 l6 l7 v0 u0 uB hb
    obtain ⟨l0, l1, l2, l3, l4, l5, l6, l7⟩ := LegAt.cells t0
    have v0 := t0.lt
    go_wp2_with fail
    refine (last_any i f t d m c g y a _ hy0 hy1).mono ?_
    rintro e w3 ⟨r, hr, rfl, hb⟩
    obtain rfl := last_unique hr (last_wrong (onB_wrong HR.out))
    have sB := tB.trans (hb.mono (by omega))
    clear l0 l1 l2 l3 l4 l5 l6 l7 v0 t0 tB hb hr
    simp only [rA, rB, rP]
    go_wp2
    go_ret
    exact ⟨rfl, sB.alloc sB.size _⟩
  | true =>
    have hlaw := onLaw hr
    obtain ⟨_, _, _, _, _, _, _, _, _, _, _, _, _, _, _, _, _⟩ := rightB_iff.1 hr
    have HR := Lib.hid hr
    have HL := Lib.hid hlaw
    clear hr hlaw
    rintro e w2 ⟨rfl, hb⟩
    have t0 : LegAt w2 w.heap.size i f t d m c g y := BlockAt.below (t := 23) u0 hb
    have tB := uB.trans (hb.mono (by omega))
    clear l0 l1 l2 l3 l4 l5 l6 l7 v0 u0 uB hb
    obtain ⟨l0, l1, l2, l3, l4, l5, l6, l7⟩ := LegAt.cells t0
    have v0 := t0.lt
    obtain ⟨rd, hrd⟩ : ∃ rd, pickI a 1051898400 = rd := ⟨_, rfl⟩
    have hbd := pickI_bd a 1051898400 (by omega)
    rw [hrd] at hbd
    obtain ⟨hrd0, hrd1⟩ := hbd
    go_wp2_with fail
    refine (pick_any a 1051898400 _ (by omega) (by omega)).mono ?_
    rintro e w' ⟨rfl, rfl⟩
    rw [hrd]
    clear hrd
    go_wp2_with fail
    refine (last_any i f t d m c g y rd _ hy0 hy1).mono ?_
    rintro e w3 ⟨r, hr, rfl, hb⟩
    have s0 : LegAt w3 w.heap.size i f t d m c g y := BlockAt.below (t := 23) t0 hb
    have sB := tB.trans (hb.mono (by omega))
    clear l0 l1 l2 l3 l4 l5 l6 l7 v0 t0 tB hb
    obtain ⟨l0, l1, l2, l3, l4, l5, l6, l7⟩ := LegAt.cells s0
    have v0 := s0.lt
    have x0 : LegAt (w3.alloc (.cells #[.int .i64 (rA d r), .int .i64 (rB d m r)] 28)) w.heap.size i f t d m c g y := BlockAt.alloc (t := 23) s0 _
    have x1 : BlockAt (w3.alloc (.cells #[.int .i64 (rA d r), .int .i64 (rB d m r)] 28)) w3.heap.size #[.int .i64 (rA d r), .int .i64 (rB d m r)] 28 := BlockAt.new w3 _ 28
    have xB := sB.alloc sB.size (.cells #[.int .i64 (rA d r), .int .i64 (rB d m r)] 28)
    clear s0 sB
    cases r with
    | none =>
      simp only [rA, rB, rP] at x0 x1 xB ⊢
      have Hr := Lib.hid hr
      clear hr
      go_wp2_with fail
      clear l0 l1 l2 l3 l4 l5 l6 l7 v0
      go_loopw [9, 10] (fun fv dv wr => ∃ j : Int, dv = .int .i64 j ∧ fv = .bool false ∧ rd / 1440 - 35 ≤ j ∧ j ≤ rd / 1440 + 7 ∧ LegAt wr w.heap.size i f t d m c g y ∧ Below w.heap.size w wr)
        (fun _ dv _ => (rd / 1440 + 7 - intOf dv).toNat)
      case atStart => exact ⟨_, rfl, rfl, by omega, by omega, x0, xB⟩
      case round =>
        obtain ⟨j, rfl, rfl, hj0, hj1, y0, yB⟩ := hrel
        obtain ⟨l0, l1, l2, l3, l4, l5, l6, l7⟩ := LegAt.cells y0
        have v0 := y0.lt
        by_cases hlt : j < rd / 1440 + 7
        · cases hon : onB i f t d m c g y j with
          | true =>
            have hskip := Hr.out j hon
            have hl1 := HL.out.lo j hon
            have hl2 := HL.out.hi j hon
            have Hon := Lib.hid hon
            clear hon
            go_wp2_with (go_at_call 16; refine (on_yes i f t d m c g y j wr hy0 hy1 Hon.out).mono ?_; rintro e w5 ⟨rfl, hb⟩; obtain ⟨hc1, hf1⟩ := bcell hb; have hs := hb.size; have hz0 : w.heap.size < w5.heap.size := (by omega))
            go_roundw
            case rel => exact ⟨j + 1, by go_num, rfl, by omega, by omega, BlockAt.alloc (t := 23) (BlockAt.below (t := 23) y0 hb) _, (yB.trans (hb.mono (by omega))).alloc (by omega) _⟩
            case measure => simp [intOf]; omega
          | false =>
            have Hon := Lib.hid hon
            clear hon
            go_wp2_with (go_at_call 16; refine (on_no i f t d m c g y j wr hy0 hy1 Hon.out).mono ?_; rintro e w5 ⟨rfl, hb⟩; obtain ⟨hc1, hf1⟩ := bcell hb; have hs := hb.size; have hz0 : w.heap.size < w5.heap.size := (by omega))
            go_roundw
            case rel => exact ⟨j + 1, by go_num, rfl, by omega, by omega, BlockAt.alloc (t := 23) (BlockAt.below (t := 23) y0 hb) _, (yB.trans (hb.mono (by omega))).alloc (by omega) _⟩
            case measure => simp [intOf]; omega
        · go_wp2
          go_ret
          exact ⟨rfl, yB⟩
    | some k =>
      simp only [rA, rB, rP] at x0 x1 xB ⊢
      obtain ⟨hk, htake, hmin⟩ := hr
      have hwin := last_window hk htake hmin hrd0 hrd1
      have hk0 := HL.out.day0 k hk
      have hk1 := HL.out.day1 k hk
      have hk2 := HL.out.lo k hk
      have hk3 := HL.out.hi k hk
      obtain ⟨hwin0, hwin1⟩ := hwin
      have Hk := Lib.hid hk
      have Hmin := Lib.hid hmin
      clear hk hmin
      obtain ⟨p0, p1, _, _⟩ := x1.two
      have v1 := x1.lt
      have hne : (1440 * k + d + m != 1440 * k + d + m) = false := by simp
      go_wp2_with fail
      clear l0 l1 l2 l3 l4 l5 l6 l7 v0 p0 p1 v1 hne
      go_loopw [9, 10] (fun fv dv wr => ∃ j : Int, dv = .int .i64 j ∧ (fv = .bool false ∧ j ≤ k ∨ fv = .bool true ∧ k < j) ∧ rd / 1440 - 35 ≤ j ∧ j ≤ rd / 1440 + 7 ∧ LegAt wr w.heap.size i f t d m c g y ∧ BlockAt wr w3.heap.size #[.int .i64 (1440 * k + d), .int .i64 (1440 * k + d + m)] 28 ∧ Below w.heap.size w wr)
        (fun _ dv _ => (rd / 1440 + 7 - intOf dv).toNat)
      case atStart => exact ⟨_, rfl, .inl ⟨rfl, by omega⟩, by omega, by omega, x0, x1, xB⟩
      case round =>
        obtain ⟨j, rfl, hfv, hj0, hj1, y0, y1, yB⟩ := hrel
        obtain ⟨l0, l1, l2, l3, l4, l5, l6, l7⟩ := LegAt.cells y0
        obtain ⟨p0, p1, _, _⟩ := y1.two
        have v0 := y0.lt
        have v1 := y1.lt
        by_cases hlt : j < rd / 1440 + 7
        · cases hon : onB i f t d m c g y j with
          | true =>
            have hl0 := HL.out.day0 j hon
            have hl1 := HL.out.lo j hon
            have hl2 := HL.out.hi j hon
            by_cases hskip : rd < 1440 * j + d + m
            · have hjk : j ≠ k := by intro e; subst e; omega
              have Hon := Lib.hid hon
              have Hjk := Lib.hid hjk
              clear hon hjk
              rcases hfv with ⟨rfl, hf⟩ | ⟨rfl, hf⟩
              all_goals
                first
                  | (exfalso; omega)
                  | (go_wp2_with (go_at_call 16; refine (on_yes i f t d m c g y j wr hy0 hy1 Hon.out).mono ?_; rintro e w5 ⟨rfl, hb⟩; obtain ⟨hc1, hf1⟩ := bcell hb; have hs := hb.size; have hz0 : w.heap.size < w5.heap.size := (by omega); have hz1 : w3.heap.size < w5.heap.size := (by omega))
                     go_roundw
                     case rel => exact ⟨j + 1, by go_num, (by have := Hjk.out; first | exact .inl ⟨rfl, by omega⟩ | exact .inr ⟨rfl, by omega⟩), by omega, by omega, BlockAt.alloc (t := 23) (BlockAt.below (t := 23) y0 hb) _, (y1.below hb).alloc _, (yB.trans (hb.mono (by omega))).alloc (by omega) _⟩
                     case measure => simp [intOf]; omega)
            · have hkj : j ≤ k := by
                by_cases e : k < j
                · have := Hmin.out j e hon; omega
                · omega
              have Hon := Lib.hid hon
              clear hon
              rcases hfv with ⟨rfl, hf⟩ | ⟨rfl, hf⟩
              · skip
                by_cases hjk : j = k
                · subst hjk
                  go_wp2_with (go_at_call 16; refine (on_yes i f t d m c g y j wr hy0 hy1 Hon.out).mono ?_; rintro e w5 ⟨rfl, hb⟩; obtain ⟨hc1, hf1⟩ := bcell hb; have hs := hb.size; have hz0 : w.heap.size < w5.heap.size := (by omega); have hz1 : w3.heap.size < w5.heap.size := (by omega))
                  go_roundw
                  case rel => exact ⟨j + 1, by go_num, .inr ⟨rfl, by omega⟩, by omega, by omega, BlockAt.alloc (t := 23) (BlockAt.below (t := 23) y0 hb) _, (y1.below hb).alloc _, (yB.trans (hb.mono (by omega))).alloc (by omega) _⟩
                  case measure => simp [intOf]; omega
                · have hb0 : (1440 * j + d == 1440 * k + d) = false := by rw [beq_eq_false_iff_ne]; omega
                  have hjk2 : j < k := by omega
                  clear hjk
                  go_wp2_with (go_at_call 16; refine (on_yes i f t d m c g y j wr hy0 hy1 Hon.out).mono ?_; rintro e w5 ⟨rfl, hb⟩; obtain ⟨hc1, hf1⟩ := bcell hb; have hs := hb.size; have hz0 : w.heap.size < w5.heap.size := (by omega); have hz1 : w3.heap.size < w5.heap.size := (by omega))
                  go_roundw
                  case rel => exact ⟨j + 1, by go_num, .inl ⟨rfl, by omega⟩, by omega, by omega, BlockAt.alloc (t := 23) (BlockAt.below (t := 23) y0 hb) _, (y1.below hb).alloc _, (yB.trans (hb.mono (by omega))).alloc (by omega) _⟩
                  case measure => simp [intOf]; omega
              · omega
          | false =>
            have hjk : j ≠ k := by intro e; subst e; rw [Hk.out] at hon; cases hon
            have Hon := Lib.hid hon
            have Hjk := Lib.hid hjk
            clear hon hjk
            rcases hfv with ⟨rfl, hf⟩ | ⟨rfl, hf⟩
            all_goals
              go_wp2_with (go_at_call 16; refine (on_no i f t d m c g y j wr hy0 hy1 Hon.out).mono ?_; rintro e w5 ⟨rfl, hb⟩; obtain ⟨hc1, hf1⟩ := bcell hb; have hs := hb.size; have hz0 : w.heap.size < w5.heap.size := (by omega); have hz1 : w3.heap.size < w5.heap.size := (by omega))
              go_roundw
              case rel => exact ⟨j + 1, by go_num, (by have := Hjk.out; first | exact .inl ⟨rfl, by omega⟩ | exact .inr ⟨rfl, by omega⟩), by omega, by omega, BlockAt.alloc (t := 23) (BlockAt.below (t := 23) y0 hb) _, (y1.below hb).alloc _, (yB.trans (hb.mono (by omega))).alloc (by omega) _⟩
              case measure => simp [intOf]; omega
        · rcases hfv with ⟨rfl, hf⟩ | ⟨rfl, hf⟩
          · omega
          · go_wp2
            go_ret
            exact ⟨rfl, yB⟩
end Go.Proofs.Ytogofbncdggigaa
