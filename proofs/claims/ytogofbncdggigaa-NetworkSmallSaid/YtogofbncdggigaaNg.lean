/-
  The walk of network.Next.
-/
import Derived.Test.YtogofbncdggigaaNf
import Derived.Test.YtogofbncdggigaaNv
import Derived.Deep.RegionWith
import Derived.IntWalk
namespace Go.Proofs.Ytogofbncdggigaa
open Go.RowKit Go.Shelf Net
attribute [local go_sem] Oper.semAt_some

set_option maxRecDepth 100000 in
set_option maxHeartbeats 8000000 in
theorem next_right (i f t d m c g y ready : Int) (w : World) (hy0 : 0 ≤ y) (hy1 : y ≤ 255) (hr : rightB i f t d m c g y = true) :
    Calls Try.prog 14 #[.agg #[.int .i64 i, .int .i64 f, .int .i64 t, .int .i64 d, .int .i64 m, .int .i64 c, .int .i64 g, .int .u8 y], .int .i64 ready] w (NextPost (onB i f t d m c g y) d m c ready w) := by
  have hlaw := onLaw hr
  obtain ⟨_, _, _, _, _, _, _, _, _, _, _, _, _, _, _, _, _⟩ := rightB_iff.1 hr
  have hnear : -1440 ≤ nearI ready ∧ nearI ready ≤ 1051899839 := by unfold nearI; split <;> (try split) <;> omega
  obtain ⟨hn0, hn1⟩ := hnear
  refine (callsIn_wide (n := 3)).1 ?_
  refine callsIn_of_wp_marks Try.func14 rfl trivial ?_ rfl
  simp only [Try.ntmps14, List.size_toArray, List.length_cons, List.length_nil, Nat.reduceAdd, Nat.reduceSub, Array.replicate_succ, Array.replicate_zero, List.push_toArray, List.append_toArray, List.nil_append, List.cons_append]
  gi_wp2_with (refine ⟨trivial, ?_⟩; gi_at_call 13; refine (callsIn_wide.2 (right_any i f t d m c g y _ hy0 hy1)).mono ?_; rintro e w1 ⟨rfl, hb1⟩; obtain ⟨hc1, hf1⟩ := bcell hb1; have hz : w.heap.size + 2 < w1.heap.size := (by have := hb1.size; simp at this; omega); have hz0 : w.heap.size < w1.heap.size := (by omega); have hz1 : w.heap.size + 1 < w1.heap.size := (by omega))
  obtain ⟨v14, hv⟩ : ∃ v : Int, v = (if nearI ready < 0 then 0 else nearI ready) := ⟨_, rfl⟩
  obtain ⟨want, hwant⟩ : ∃ want : Int, want = v14 + c := ⟨_, rfl⟩
  have hw0 : 0 ≤ want ∧ want ≤ 1051909919 := by rw [hwant, hv]; split <;> omega
  obtain ⟨hw0, hw1⟩ := hw0
  have Hv := Lib.hid hv
  have Hwant := Lib.hid hwant
  clear hv hwant
  refine wpIn_mono (Q := Exit.then (fun a' w' => a' = { tmps := #[.agg #[.int .i64 i, .int .i64 f, .int .i64 t, .int .i64 d, .int .i64 m, .int .i64 c, .int .i64 g, .int .u8 y], .int .i64 ready, .pointer (some ⟨w.heap.size, 0, none⟩), undef, .pointer (some ⟨w.heap.size + 1, 0, none⟩), .pointer (some ⟨w.heap.size + 2, 0, none⟩), .pointer (some ⟨w1.heap.size, 0, none⟩), undef, .agg #[.int .i64 i, .int .i64 f, .int .i64 t, .int .i64 d, .int .i64 m, .int .i64 c, .int .i64 g, .int .u8 y], .bool true, .bool false, undef, .int .i64 ready, .int .i64 (nearI ready), .int .i64 v14, .pointer (some ⟨w.heap.size, 5, none⟩), .int .i64 c, .int .i64 want, undef, undef, undef, undef, undef, undef, undef, undef, undef, undef, undef], defers := [] } ∧ w' = (w1.alloc (.cells #[.int .i64 want] 3)).drew) (fun _ _ _ => False)) ?reg ?rest
  case reg =>
    by_cases hneg : nearI ready < 0
    · obtain rfl : v14 = 0 := by rw [Hv.out, if_pos hneg]
      have hwr : IntKind.i64.wrap c = c := IntWalk.i64_in _ (by omega)
      obtain rfl : want = c := by rw [Hwant.out]; omega
      refine wpIn_wide.2 ?_
      go_region_with (go_at_call 33; refine (near_any _ _).mono ?_; rintro e w' ⟨rfl, rfl⟩)
      all_goals exact ⟨rfl, rfl⟩
    · obtain rfl : v14 = nearI ready := by rw [Hv.out, if_neg hneg]
      have hwr : IntKind.i64.wrap (nearI ready + c) = nearI ready + c := IntWalk.i64_in _ (by omega)
      obtain rfl : want = nearI ready + c := Hwant.out
      refine wpIn_wide.2 ?_
      go_region_with (go_at_call 33; refine (near_any _ _).mono ?_; rintro e w' ⟨rfl, rfl⟩)
      all_goals (simp only [if_neg (show ¬ nearI ready < 0 by omega), hwr]; exact ⟨rfl, rfl⟩)
  case rest =>
    intro e a1 W1 hK1
    cases e with
    | normal =>
      obtain ⟨rfl, rfl⟩ := hK1
      have e1 : BlockAt w1 (w.heap.size + 1) #[.int .i64 0, .int .i64 0] 28 := by
        refine BlockAt.below ?_ hb1
        have := (BlockAt.new (w.alloc (.cells #[.int .i64 i, .int .i64 f, .int .i64 t, .int .i64 d, .int .i64 m, .int .i64 c, .int .i64 g, .int .u8 y] 23)) #[.int .i64 0, .int .i64 0] 28).alloc (.cells #[.bool false] 4)
        simpa using this
      have e2 : BlockAt w1 (w.heap.size + 2) #[.bool false] 4 := by
        refine BlockAt.below ?_ hb1
        have := BlockAt.new ((w.alloc (.cells #[.int .i64 i, .int .i64 f, .int .i64 t, .int .i64 d, .int .i64 m, .int .i64 c, .int .i64 g, .int .u8 y] 23)).alloc (.cells #[.int .i64 0, .int .i64 0] 28)) #[.bool false] 4
        simpa using this
      have e0 : LegAt w1 w.heap.size i f t d m c g y := by
        refine BlockAt.below (t := 23) ?_ hb1
        exact ((BlockAt.new w #[.int .i64 i, .int .i64 f, .int .i64 t, .int .i64 d, .int .i64 m, .int .i64 c, .int .i64 g, .int .u8 y] 23).alloc _).alloc _
      have hB1 : Below w.heap.size w w1 := by
        have h0 : Below w.heap.size w (((w.alloc (.cells #[.int .i64 i, .int .i64 f, .int .i64 t, .int .i64 d, .int .i64 m, .int .i64 c, .int .i64 g, .int .u8 y] 23)).alloc (.cells #[.int .i64 0, .int .i64 0] 28)).alloc (.cells #[.bool false] 4)) := (((Below.refl _ w).alloc (Nat.le_refl _) _).alloc (by simp) _).alloc (by simp; omega) _
        exact h0.trans (hb1.mono (by simp; omega))
      clear hb1 hc1 hf1
      obtain ⟨W, hW⟩ : ∃ W, (w1.alloc (.cells #[.int .i64 want] 3)).drew = W := ⟨_, rfl⟩
      have b0 : LegAt W w.heap.size i f t d m c g y := by rw [← hW]; exact BlockAt.alloc (t := 23) e0 _
      have b1 : BlockAt W (w.heap.size + 1) #[.int .i64 0, .int .i64 0] 28 := by rw [← hW]; exact e1.alloc _
      have b2 : BlockAt W (w.heap.size + 2) #[.bool false] 4 := by rw [← hW]; exact e2.alloc _
      have b3 : BlockAt W w1.heap.size #[.int .i64 want] 3 := by rw [← hW]; exact BlockAt.new w1 _ 3
      have hB : Below w.heap.size w W := by rw [← hW]; exact (hB1.alloc (by omega) _).drew
      have hszW : W.heap.size = w1.heap.size + 1 := by rw [← hW]; simp
      rw [hW]
      clear hW e0 e1 e2 hB1
      have HszW := Lib.hid hszW
      clear hszW
      obtain ⟨hl0, hl1, hl2, hl3, hl4, hl5, hl6, hl7⟩ := b0.cells
      obtain ⟨hcw, _⟩ := b3.one
      gi_wp2_with (refine ⟨trivial, ?_⟩; gi_at_call 34; refine (callsIn_wide.2 (from_any i f t d m c g y _ _)).mono ?_; rintro e w' ⟨rfl, rfl⟩)
      clear hl0 hl1 hl2 hl3 hl4 hl5 hl6 hl7 hcw
      have hszW := HszW.out
      have c4 : LegAt ((W.alloc (.cells #[.int .i64 i, .int .i64 f, .int .i64 t, .int .i64 d, .int .i64 m, .int .i64 c, .int .i64 g, .int .u8 y] 23)).alloc (.cells #[.int .i64 (want / 1440)] 3)) (w1.heap.size + 1) i f t d m c g y := by
        have := (BlockAt.new W #[.int .i64 i, .int .i64 f, .int .i64 t, .int .i64 d, .int .i64 m, .int .i64 c, .int .i64 g, .int .u8 y] 23).alloc (.cells #[.int .i64 (want / 1440)] 3)
        rw [hszW] at this; exact this
      have c5 : Boxed ((W.alloc (.cells #[.int .i64 i, .int .i64 f, .int .i64 t, .int .i64 d, .int .i64 m, .int .i64 c, .int .i64 g, .int .u8 y] 23)).alloc (.cells #[.int .i64 (want / 1440)] 3)) (w1.heap.size + 1 + 1) 3 (.int .i64 (want / 1440)) := by
        have := Boxed.new (W.alloc (.cells #[.int .i64 i, .int .i64 f, .int .i64 t, .int .i64 d, .int .i64 m, .int .i64 c, .int .i64 g, .int .u8 y] 23)) 3 (.int .i64 (want / 1440))
        rw [World.size_alloc, hszW] at this; exact this
      have c1 := (b1.alloc (.cells #[.int .i64 i, .int .i64 f, .int .i64 t, .int .i64 d, .int .i64 m, .int .i64 c, .int .i64 g, .int .u8 y] 23)).alloc (.cells #[.int .i64 (want / 1440)] 3)
      have c2 := (b2.alloc (.cells #[.int .i64 i, .int .i64 f, .int .i64 t, .int .i64 d, .int .i64 m, .int .i64 c, .int .i64 g, .int .u8 y] 23)).alloc (.cells #[.int .i64 (want / 1440)] 3)
      have c3 := (b3.alloc (.cells #[.int .i64 i, .int .i64 f, .int .i64 t, .int .i64 d, .int .i64 m, .int .i64 c, .int .i64 g, .int .u8 y] 23)).alloc (.cells #[.int .i64 (want / 1440)] 3)
      have hB0 : Below w.heap.size w ((W.alloc (.cells #[.int .i64 i, .int .i64 f, .int .i64 t, .int .i64 d, .int .i64 m, .int .i64 c, .int .i64 g, .int .u8 y] 23)).alloc (.cells #[.int .i64 (want / 1440)] 3)) := (hB.alloc (by omega) _).alloc (by simp; omega) _
      have hsz0 : ((W.alloc (.cells #[.int .i64 i, .int .i64 f, .int .i64 t, .int .i64 d, .int .i64 m, .int .i64 c, .int .i64 g, .int .u8 y] 23)).alloc (.cells #[.int .i64 (want / 1440)] 3)).heap.size = w1.heap.size + 3 := by simp; omega
      rw [hszW]
      obtain ⟨W0, hW0⟩ : ∃ W0, (W.alloc (.cells #[.int .i64 i, .int .i64 f, .int .i64 t, .int .i64 d, .int .i64 m, .int .i64 c, .int .i64 g, .int .u8 y] 23)).alloc (.cells #[.int .i64 (want / 1440)] 3) = W0 := ⟨_, rfl⟩
      rw [hW0] at c1 c2 c3 c4 c5 hB0 hsz0 ⊢
      clear hW0 hszW HszW b0 b1 b2 b3 hB
      refine wpIn_rangeFunc_ownH rfl (by omega) (gf := 53) (lb := #[.pointer (some ⟨w1.heap.size + 1 + 1, 0, none⟩), .pointer (some ⟨w1.heap.size + 1, 0, none⟩)]) rfl trivial (enters_of Try.func53 (by kernel_rfl) rfl)
        (iter_stops i f t d m c g y (want / 1440) (want / 1440) hy0 hy1 (by omega) (.inl ⟨by omega, rfl⟩) (w1.heap.size + 1 + 1) (w1.heap.size + 1) W0 c5 c4) (fun h k => keepsLeg_t h k) (keepsLeg_b (by omega)) (Below.refl _ _) (fun _ => rfl)
        (fun pre W => (((((∀ x ∈ pre, 1440 * x + d < want) ∧ BlockAt W (w.heap.size + 1) #[.int .i64 0, .int .i64 0] 28) ∧ BlockAt W (w.heap.size + 2) #[.bool false] 4) ∧ BlockAt W w1.heap.size #[.int .i64 want] 3) ∧ BlockAt W (w1.heap.size + 1) #[.int .i64 i, .int .i64 f, .int .i64 t, .int .i64 d, .int .i64 m, .int .i64 c, .int .i64 g, .int .u8 y] 23) ∧ Below w.heap.size w W)
        (fun (c' : Code) (pre : List Int) W => (((c' = .ret ∧ ∃ q k, pre = q ++ [k] ∧ want ≤ 1440 * k + d ∧ ∀ x ∈ q, 1440 * x + d < want) ∧ BlockAt W (w.heap.size + 1) #[.int .i64 (1440 * pre.getLastD 0 + d), .int .i64 (1440 * pre.getLastD 0 + d + m)] 28) ∧ BlockAt W (w.heap.size + 2) #[.bool true] 4) ∧ Below w.heap.size w W)
        (OwnFrom.and (OwnFrom.and (OwnFrom.and (OwnFrom.and (OwnFrom.and (ownFrom_pure _ (fun pre => ∀ x ∈ pre, 1440 * x + d < want)) (Own.from (blockAt_own _ (fun _ => _) _) _)) (Own.from (blockAt_own _ (fun _ => _) _) _)) (Own.from (blockAt_own _ (fun _ => _) _) _)) (Own.from (blockAt_own _ (fun _ => _) _) _)) (ownFrom_below (Nat.le_refl _) (by omega)))
        (fun c' => OwnFrom.and (OwnFrom.and (OwnFrom.and (ownFrom_pure _ (fun (pre : List Int) => c' = .ret ∧ ∃ q k, pre = q ++ [k] ∧ want ≤ 1440 * k + d ∧ ∀ x ∈ q, 1440 * x + d < want)) (Own.from (blockAt_own _ (fun (pre : List Int) => #[.int .i64 (1440 * pre.getLastD 0 + d), .int .i64 (1440 * pre.getLastD 0 + d + m)]) _) _)) (Own.from (blockAt_own _ (fun _ => _) _) _)) (ownFrom_below (Nat.le_refl _) (by omega)))
        ⟨⟨⟨⟨⟨fun x hx => (by cases hx), c1⟩, c2⟩, c3⟩, c4⟩, hB0⟩
        (fun k a' W => ∃ Bx, w1.heap.size + 1 < Bx ∧ BlockAt W Bx #[.int .i64 (1440 * k + d), .int .i64 (1440 * k + d + m)] 28 ∧ a' = { tmps := #[.agg #[.int .i64 i, .int .i64 f, .int .i64 t, .int .i64 d, .int .i64 m, .int .i64 c, .int .i64 g, .int .u8 y], .int .i64 ready, .pointer (some ⟨w.heap.size, 0, none⟩), undef, .pointer (some ⟨w.heap.size + 1, 0, none⟩), .pointer (some ⟨w.heap.size + 2, 0, none⟩), .pointer (some ⟨w1.heap.size, 0, none⟩), .pointer (some ⟨Bx, 0, none⟩), .agg #[.int .i64 i, .int .i64 f, .int .i64 t, .int .i64 d, .int .i64 m, .int .i64 c, .int .i64 g, .int .u8 y], .bool true, .bool false, undef, .int .i64 ready, .int .i64 (nearI ready), .int .i64 v14, .pointer (some ⟨w.heap.size, 5, none⟩), .int .i64 c, .int .i64 want, .agg #[.int .i64 i, .int .i64 f, .int .i64 t, .int .i64 d, .int .i64 m, .int .i64 c, .int .i64 g, .int .u8 y], .int .i64 want, .int .i64 (want / 1440), .func (.func 53) #[] #[.pointer (some ⟨w1.heap.size + 1 + 1, 0, none⟩), .pointer (some ⟨w1.heap.size + 1, 0, none⟩)], .agg #[.int .i64 (1440 * k + d), .int .i64 (1440 * k + d + m)], undef, undef, undef, undef, undef, undef], defers := [] })
        (fun k a' _ X Y row hs hg hr => by obtain ⟨Bx, h1, h2, h3⟩ := hs; exact ⟨Bx, h1, blockAt_own Bx (fun (_ : Unit) => #[.int .i64 (1440 * k + d), .int .i64 (1440 * k + d + m)]) 28 () X Y row h2 hg (fun r e => (hr r e).2), h3⟩)
        ?assign ?body ?done ?stop
      case assign =>
        rintro l pre k X K ⟨⟨⟨⟨⟨hq, x1⟩, x2⟩, x3⟩, x4⟩, hX⟩ hK
        dsimp only [encDep]
        gi_wp2
        have hlt4 := x4.lt
        exact hK _ _ ((KeepsOthers.alloc _ _).from _) (Below.heap_alloc X _ _ x4.lt) ⟨⟨⟨⟨⟨hq, x1.alloc _⟩, x2.alloc _⟩, x3.alloc _⟩, x4.alloc _⟩, hX.alloc (by omega) _⟩ ⟨X.heap.size, x4.lt, BlockAt.new X _ 28, rfl⟩
      case body =>
        rintro l pre k a' X hl ⟨r, hr'⟩ ⟨⟨⟨⟨⟨hq, x1⟩, x2⟩, x3⟩, x4⟩, hX⟩ ⟨Bx, hBx, bX, rfl⟩ hlt
        obtain ⟨q1, q2, q3, q4⟩ := x1.two
        obtain ⟨q5, q6⟩ := x2.one
        obtain ⟨q7, q8⟩ := x3.one
        obtain ⟨q9, q10, q11, q12⟩ := bX.two
        gi_wp2
        · have hk : want ≤ 1440 * k + d := by assumption
          exact ⟨(((KeepsOthers.setCell _ _ _).trans (KeepsOthers.setCell _ _ _)).trans (KeepsOthers.setCell _ _ _)).from _, ⟨⟨⟨⟨rfl, pre, k, rfl, hk, hq⟩, by rw [List.getLastD_concat]; exact ((x1.set20 _).set21 _).other (by omega) _⟩, BlockAt.set1 ((x2.other (by omega) _).other (by omega) _) _⟩, ((hX.setCell (p := ⟨w.heap.size + 1, 0, none⟩) (by simp) _).setCell (p := ⟨w.heap.size + 1, 1, none⟩) (by simp) _).setCell (p := ⟨w.heap.size + 2, 0, none⟩) (by simp) _⟩⟩
        · have hk : 1440 * k + d < want := by assumption
          refine ⟨KeepsFrom.refl _ _, rfl, ⟨⟨⟨⟨⟨fun x hx => ?_, x1⟩, x2⟩, x3⟩, x4⟩, hX⟩⟩
          rcases List.mem_append.1 hx with hx | hx
          · exact hq x hx
          · obtain rfl := List.mem_singleton.1 hx
            exact hk
      case done =>
        rintro D ys X hD rfl ⟨⟨⟨⟨⟨hq, x1⟩, x2⟩, x3⟩, x4⟩, hX⟩ hK
        obtain ⟨q1, q2, q3, q4⟩ := x1.two
        obtain ⟨q5, q6⟩ := x2.one
        gi_wp2
        have hK' := (((KeepsOthers.setCell _ _ _).trans (KeepsOthers.setCell _ _ _)).trans (KeepsOthers.setCell _ _ _) : KeepsOthers X (((X.setCell ⟨w.heap.size + 1, 0, none⟩ (.int .i64 0)).setCell ⟨w.heap.size + 1, 1, none⟩ (.int .i64 0)).setCell ⟨w.heap.size + 2, 0, none⟩ (.bool false))).same D _ hK rfl
        have z1 := BlockAt.putObj (((x1.set20 (.int .i64 0)).set21 (.int .i64 0)).other (B' := w.heap.size + 2) (j := 0) (by omega) (.bool false)) hK' rfl (.deferred none)
        have z2 := BlockAt.putObj (BlockAt.set1 ((x2.other (B' := w.heap.size + 1) (j := 0) (by omega) (.int .i64 0)).other (B' := w.heap.size + 1) (j := 1) (by omega) (.int .i64 0)) (.bool false)) hK' rfl (.deferred none)
        obtain ⟨p1, p2, _, _⟩ := z1.two
        obtain ⟨p3, _⟩ := z2.one
        refine ⟨by simp, .inl ⟨_, _, rfl, run_takeDeferred hK', ?_⟩⟩
        exact ⟨encR d m none, by simp [results, Try.results14, go_sem, p1, p2, p3, encR], none, next_done hlaw (by rw [Hwant.out, Hv.out]) hq, rfl, (((hX.setCell (p := ⟨w.heap.size + 1, 0, none⟩) (by simp) _).setCell (p := ⟨w.heap.size + 1, 1, none⟩) (by simp) _).setCell (p := ⟨w.heap.size + 2, 0, none⟩) (by simp) _).trans (belowK_b (w := w) (Nat.le_refl _) _ D _ _ (by omega) hK' rfl rfl)⟩
      case stop =>
        rintro D c' pre X hD hpre ⟨⟨⟨⟨rfl, q, k, rfl, hk, hq⟩, x1⟩, x2⟩, hX⟩ hK
        rw [List.getLastD_concat] at x1
        gi_wp2
        have z1 := x1.putObj hK rfl (.deferred none)
        have z2 := x2.putObj hK rfl (.deferred none)
        obtain ⟨p1, p2, _, _⟩ := z1.two
        obtain ⟨p3, _⟩ := z2.one
        refine ⟨by simp, .inl ⟨_, _, rfl, run_takeDeferred hK, ?_⟩⟩
        exact ⟨encR d m (some k), by simp [results, Try.results14, go_sem, p1, p2, p3, encR], some k, next_stop hlaw (by rw [Hwant.out, Hv.out]) hpre hk hq, rfl, hX.trans (belowK_b (w := w) (Nat.le_refl _) X D _ _ (by omega) hK rfl rfl)⟩
    | _ => exact hK1.elim
end Go.Proofs.Ytogofbncdggigaa
