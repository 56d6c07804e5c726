/-
  The walk of awake: the chapter's examples.
-/
import Derived.Test.YtogofbncdggigaaNo
import Derived.Deep.QuietTactic
import Derived.BigQuiet
namespace Go.Proofs.Ytogofbncdggigaa
open Go.RowKit Net

theorem mon_right : rightB 7 1 2 600 120 30 0 1 = true := by decide
theorem mon_day {j : Int} (h : (onB 7 1 2 600 120 30 0 1) j = true) : 0 ≤ j ∧ j % 7 = 0 := by
  obtain ⟨_, h1, h2, _⟩ := onB_iff.1 h
  refine ⟨h1.1, ?_⟩
  unfold runsB at h2
  have h3 := of_decide_eq_true h2
  have hc : j % 7 = 0 ∨ j % 7 = 1 ∨ j % 7 = 2 ∨ j % 7 = 3 ∨ j % 7 = 4 ∨ j % 7 = 5 ∨ j % 7 = 6 := by omega
  rcases hc with e | e | e | e | e | e | e <;> rw [e] at h3 ⊢ <;> revert h3 <;> decide
theorem mon_next0 : IsNext (onB 7 1 2 600 120 30 0 1) 600 30 0 (some 0) := ⟨by decide, by decide, fun j hj hon => by have := mon_day hon; omega⟩
theorem mon_next570 : IsNext (onB 7 1 2 600 120 30 0 1) 600 30 570 (some 0) := ⟨by decide, by decide, fun j hj hon => by have := mon_day hon; omega⟩
theorem mon_next571 : IsNext (onB 7 1 2 600 120 30 0 1) 600 30 571 (some 7) := ⟨by decide, by decide, fun j hj hon => by have := mon_day hon; omega⟩
theorem mon_last720 : IsLast (onB 7 1 2 600 120 30 0 1) 600 120 720 (some 0) := ⟨by decide, by decide, fun j hj hon => by omega⟩
theorem mon_last719 : IsLast (onB 7 1 2 600 120 30 0 1) 600 120 719 none := fun j hon => by have := mon_day hon; omega
theorem mon_list : IsList (onB 7 1 2 600 120 30 0 1) 600 0 20000 [0, 7] := by
  refine ⟨by simp, fun k => ?_⟩
  constructor
  · intro h
    rcases List.mem_cons.1 h with rfl | h
    · decide
    · obtain rfl := List.mem_singleton.1 h
      decide
  · rintro ⟨h1, h2, h3⟩
    have := mon_day h1
    have : k = 0 ∨ k = 7 := by omega
    rcases this with rfl | rfl <;> simp

theorem mon_on0 (w : World) : Calls Try.prog 16 #[.agg #[.int .i64 7, .int .i64 1, .int .i64 2, .int .i64 600, .int .i64 120, .int .i64 30, .int .i64 0, .int .u8 1], .int .i64 0] w fun e w' => e = .returned (.tuple #[.agg #[.int .i64 600, .int .i64 720], .bool true]) ∧ Below w.heap.size w w' :=
  on_yes 7 1 2 600 120 30 0 1 0 w (by decide) (by decide) (by decide)
theorem mon_on1 (w : World) : Calls Try.prog 16 #[.agg #[.int .i64 7, .int .i64 1, .int .i64 2, .int .i64 600, .int .i64 120, .int .i64 30, .int .i64 0, .int .u8 1], .int .i64 1] w fun e w' => e = .returned (.tuple #[.agg #[.int .i64 0, .int .i64 0], .bool false]) ∧ Below w.heap.size w w' :=
  on_no 7 1 2 600 120 30 0 1 1 w (by decide) (by decide) (by decide)
theorem mon_on10 (w : World) : Calls Try.prog 16 #[.agg #[.int .i64 7, .int .i64 1, .int .i64 2, .int .i64 10, .int .i64 120, .int .i64 30, .int .i64 0, .int .u8 1], .int .i64 0] w fun e w' => e = .returned (.tuple #[.agg #[.int .i64 0, .int .i64 0], .bool false]) ∧ Below w.heap.size w w' :=
  on_no 7 1 2 10 120 30 0 1 0 w (by decide) (by decide) (by decide)
theorem mon_n0 (w : World) : Calls Try.prog 14 #[.agg #[.int .i64 7, .int .i64 1, .int .i64 2, .int .i64 600, .int .i64 120, .int .i64 30, .int .i64 0, .int .u8 1], .int .i64 0] w fun e w' => e = .returned (.tuple #[.agg #[.int .i64 600, .int .i64 720], .bool true]) ∧ Below w.heap.size w w' :=
  (next_any 7 1 2 600 120 30 0 1 0 w (by decide) (by decide)).mono fun e w' ⟨r, hr, he, hb⟩ => by
    obtain rfl := next_unique hr mon_next0
    exact ⟨he, hb⟩
theorem mon_n570 (w : World) : Calls Try.prog 14 #[.agg #[.int .i64 7, .int .i64 1, .int .i64 2, .int .i64 600, .int .i64 120, .int .i64 30, .int .i64 0, .int .u8 1], .int .i64 570] w fun e w' => e = .returned (.tuple #[.agg #[.int .i64 600, .int .i64 720], .bool true]) ∧ Below w.heap.size w w' :=
  (next_any 7 1 2 600 120 30 0 1 570 w (by decide) (by decide)).mono fun e w' ⟨r, hr, he, hb⟩ => by
    obtain rfl := next_unique hr mon_next570
    exact ⟨he, hb⟩
theorem mon_n571 (w : World) : Calls Try.prog 14 #[.agg #[.int .i64 7, .int .i64 1, .int .i64 2, .int .i64 600, .int .i64 120, .int .i64 30, .int .i64 0, .int .u8 1], .int .i64 571] w fun e w' => e = .returned (.tuple #[.agg #[.int .i64 10680, .int .i64 10800], .bool true]) ∧ Below w.heap.size w w' :=
  (next_any 7 1 2 600 120 30 0 1 571 w (by decide) (by decide)).mono fun e w' ⟨r, hr, he, hb⟩ => by
    obtain rfl := next_unique hr mon_next571
    exact ⟨he, hb⟩
theorem mon_l720 (w : World) : Calls Try.prog 17 #[.agg #[.int .i64 7, .int .i64 1, .int .i64 2, .int .i64 600, .int .i64 120, .int .i64 30, .int .i64 0, .int .u8 1], .int .i64 720] w fun e w' => e = .returned (.tuple #[.agg #[.int .i64 600, .int .i64 720], .bool true]) ∧ Below w.heap.size w w' :=
  (last_any 7 1 2 600 120 30 0 1 720 w (by decide) (by decide)).mono fun e w' ⟨r, hr, he, hb⟩ => by
    obtain rfl := last_unique hr mon_last720
    exact ⟨he, hb⟩
theorem mon_l719 (w : World) : Calls Try.prog 17 #[.agg #[.int .i64 7, .int .i64 1, .int .i64 2, .int .i64 600, .int .i64 120, .int .i64 30, .int .i64 0, .int .u8 1], .int .i64 719] w fun e w' => e = .returned (.tuple #[.agg #[.int .i64 0, .int .i64 0], .bool false]) ∧ Below w.heap.size w w' :=
  (last_any 7 1 2 600 120 30 0 1 719 w (by decide) (by decide)).mono fun e w' ⟨r, hr, he, hb⟩ => by
    obtain rfl := last_unique hr mon_last719
    exact ⟨he, hb⟩
def MonList (w : World) (e : Ending) (w' : World) : Prop :=
  ∃ g cap, e = .returned (.tuple #[.slice (some ⟨g, 0, none⟩) 2 cap, .int .i64 0]) ∧ w'.cell? ⟨g, 0, none⟩ = some (.int .i64 600) ∧ w'.cell? ⟨g, 1, none⟩ = some (.int .i64 720) ∧ w'.cell? ⟨g, 2, none⟩ = some (.int .i64 10680) ∧ w'.cell? ⟨g, 3, none⟩ = some (.int .i64 10800) ∧ Below w.heap.size w w'
theorem mon_li (w : World) : Calls Try.prog 18 #[.agg #[.int .i64 7, .int .i64 1, .int .i64 2, .int .i64 600, .int .i64 120, .int .i64 30, .int .i64 0, .int .u8 1], .int .i64 0, .int .i64 20000] w (MonList w) :=
  (list_right 7 1 2 600 120 30 0 1 0 20000 w (by decide) (by decide) mon_right).mono fun e w' ⟨ds, hds, h, hb⟩ => by
    obtain rfl := isList_unique hds mon_list
    rcases h with ⟨_, v, rfl, xo⟩ | ⟨h, _⟩
    · obtain ⟨g, cap, rfl⟩ := ownsRow_succ (k := 1) xo
      exact ⟨g, cap, rfl, xo.cellAt 0 (by decide), xo.cellAt 1 (by decide), xo.cellAt 2 (by decide), xo.cellAt 3 (by decide), hb⟩
    · exact absurd h (by decide)

set_option maxRecDepth 100000 in
set_option maxHeartbeats 8000000 in
theorem awake_any (w : World) : Calls Try.prog 12 #[] w fun e w' => e = .returned (.bool true) ∧ Below w.heap.size w w' := by
  go_enter Try.func12, Try.ntmps12
  go_wp2_with fail
  refine (monday_any _).mono ?_
  rintro e w1 ⟨rfl, hb⟩
  have uB : Below w.heap.size w w1 := hb
  clear hb
  have hw1 := uB.size
  have u0 : BlockAt ((w1.alloc (.cells #[.int .i64 7, .int .i64 1, .int .i64 2, .int .i64 600, .int .i64 120, .int .i64 30, .int .i64 0, .int .u8 1] 23)).alloc (.cells #[.int .i64 600, .int .i64 720] 28)) w1.heap.size #[.int .i64 7, .int .i64 1, .int .i64 2, .int .i64 600, .int .i64 120, .int .i64 30, .int .i64 0, .int .u8 1] 23 := (BlockAt.new w1 #[.int .i64 7, .int .i64 1, .int .i64 2, .int .i64 600, .int .i64 120, .int .i64 30, .int .i64 0, .int .u8 1] 23).alloc _
  have u1 : BlockAt ((w1.alloc (.cells #[.int .i64 7, .int .i64 1, .int .i64 2, .int .i64 600, .int .i64 120, .int .i64 30, .int .i64 0, .int .u8 1] 23)).alloc (.cells #[.int .i64 600, .int .i64 720] 28)) (w1.heap.size + 1) #[.int .i64 600, .int .i64 720] 28 := by
    have := BlockAt.new (w1.alloc (.cells #[.int .i64 7, .int .i64 1, .int .i64 2, .int .i64 600, .int .i64 120, .int .i64 30, .int .i64 0, .int .u8 1] 23)) #[.int .i64 600, .int .i64 720] 28
    rwa [World.size_alloc] at this
  have uC : Below w.heap.size w ((w1.alloc (.cells #[.int .i64 7, .int .i64 1, .int .i64 2, .int .i64 600, .int .i64 120, .int .i64 30, .int .i64 0, .int .u8 1] 23)).alloc (.cells #[.int .i64 600, .int .i64 720] 28)) := (uB.alloc (by omega) _).alloc (by simp; omega) _
  go_wp2_with fail
  refine (mon_on0 _).mono ?_
  rintro e w2 ⟨rfl, hb⟩
  have t0 := u0.below hb
  have t1 := u1.below hb
  have tC : Below w.heap.size w w2 := uC.trans (hb.mono uC.size)
  clear u0 u1 uC hb
  obtain ⟨l0, l1, l2, l3, l4, l5, l6, l7⟩ := LegAt.cells t0
  have v0 := t0.lt
  have u0 := t0.alloc (.cells #[.int .i64 600, .int .i64 720] 28)
  have u1 := t1.alloc (.cells #[.int .i64 600, .int .i64 720] 28)
  have u2 := BlockAt.new w2 #[.int .i64 600, .int .i64 720] 28
  have uC := tC.alloc (tC.size) (.cells #[.int .i64 600, .int .i64 720] 28)
  clear t0 t1 tC
  go_wp2_with fail
  refine (mon_on1 _).mono ?_
  rintro e w3 ⟨rfl, hb⟩
  have t0 := u0.below hb
  have t1 := u1.below hb
  have t2 := u2.below hb
  have tC : Below w.heap.size w w3 := uC.trans (hb.mono uC.size)
  clear u0 u1 u2 uC hb l0 l1 l2 l3 l4 l5 l6 l7 v0
  obtain ⟨l0, l1, l2, l3, l4, l5, l6, l7⟩ := LegAt.cells t0
  have v0 := t0.lt
  have u0 := t0.alloc (.cells #[.int .i64 0, .int .i64 0] 28)
  have u1 := t1.alloc (.cells #[.int .i64 0, .int .i64 0] 28)
  have u2 := t2.alloc (.cells #[.int .i64 0, .int .i64 0] 28)
  have u3 := BlockAt.new w3 #[.int .i64 0, .int .i64 0] 28
  have uC := tC.alloc (tC.size) (.cells #[.int .i64 0, .int .i64 0] 28)
  clear t0 t1 t2 tC
  go_wp2_with fail
  refine (mon_n0 _).mono ?_
  rintro e w4 ⟨rfl, hb⟩
  have t0 := u0.below hb
  have t1 := u1.below hb
  have t2 := u2.below hb
  have t3 := u3.below hb
  have tC : Below w.heap.size w w4 := uC.trans (hb.mono uC.size)
  clear u0 u1 u2 u3 uC hb l0 l1 l2 l3 l4 l5 l6 l7 v0
  obtain ⟨l0, l1, l2, l3, l4, l5, l6, l7⟩ := LegAt.cells t0
  have v0 := t0.lt
  have u0 := t0.alloc (.cells #[.int .i64 600, .int .i64 720] 28)
  have u1 := t1.alloc (.cells #[.int .i64 600, .int .i64 720] 28)
  have u2 := t2.alloc (.cells #[.int .i64 600, .int .i64 720] 28)
  have u3 := t3.alloc (.cells #[.int .i64 600, .int .i64 720] 28)
  have u4 := BlockAt.new w4 #[.int .i64 600, .int .i64 720] 28
  have uC := tC.alloc (tC.size) (.cells #[.int .i64 600, .int .i64 720] 28)
  clear t0 t1 t2 t3 tC
  go_wp2_with fail
  refine (mon_n570 _).mono ?_
  rintro e w5 ⟨rfl, hb⟩
  have t0 := u0.below hb
  have t1 := u1.below hb
  have t2 := u2.below hb
  have t3 := u3.below hb
  have t4 := u4.below hb
  have tC : Below w.heap.size w w5 := uC.trans (hb.mono uC.size)
  clear u0 u1 u2 u3 u4 uC hb l0 l1 l2 l3 l4 l5 l6 l7 v0
  obtain ⟨l0, l1, l2, l3, l4, l5, l6, l7⟩ := LegAt.cells t0
  have v0 := t0.lt
  have u0 := t0.alloc (.cells #[.int .i64 600, .int .i64 720] 28)
  have u1 := t1.alloc (.cells #[.int .i64 600, .int .i64 720] 28)
  have u2 := t2.alloc (.cells #[.int .i64 600, .int .i64 720] 28)
  have u3 := t3.alloc (.cells #[.int .i64 600, .int .i64 720] 28)
  have u4 := t4.alloc (.cells #[.int .i64 600, .int .i64 720] 28)
  have u5 := BlockAt.new w5 #[.int .i64 600, .int .i64 720] 28
  have uC := tC.alloc (tC.size) (.cells #[.int .i64 600, .int .i64 720] 28)
  clear t0 t1 t2 t3 t4 tC
  go_wp2_with fail
  refine (mon_n571 _).mono ?_
  rintro e w6 ⟨rfl, hb⟩
  have t0 := u0.below hb
  have t1 := u1.below hb
  have t2 := u2.below hb
  have t3 := u3.below hb
  have t4 := u4.below hb
  have t5 := u5.below hb
  have tC : Below w.heap.size w w6 := uC.trans (hb.mono uC.size)
  clear u0 u1 u2 u3 u4 u5 uC hb l0 l1 l2 l3 l4 l5 l6 l7 v0
  obtain ⟨l0, l1, l2, l3, l4, l5, l6, l7⟩ := LegAt.cells t0
  have v0 := t0.lt
  have u0 := t0.alloc (.cells #[.int .i64 10680, .int .i64 10800] 28)
  have u1 := t1.alloc (.cells #[.int .i64 10680, .int .i64 10800] 28)
  have u2 := t2.alloc (.cells #[.int .i64 10680, .int .i64 10800] 28)
  have u3 := t3.alloc (.cells #[.int .i64 10680, .int .i64 10800] 28)
  have u4 := t4.alloc (.cells #[.int .i64 10680, .int .i64 10800] 28)
  have u5 := t5.alloc (.cells #[.int .i64 10680, .int .i64 10800] 28)
  have u6 := BlockAt.new w6 #[.int .i64 10680, .int .i64 10800] 28
  have uC := tC.alloc (tC.size) (.cells #[.int .i64 10680, .int .i64 10800] 28)
  clear t0 t1 t2 t3 t4 t5 tC
  go_wp2_with fail
  refine (mon_l720 _).mono ?_
  rintro e w7 ⟨rfl, hb⟩
  have t0 := u0.below hb
  have t1 := u1.below hb
  have t2 := u2.below hb
  have t3 := u3.below hb
  have t4 := u4.below hb
  have t5 := u5.below hb
  have t6 := u6.below hb
  have tC : Below w.heap.size w w7 := uC.trans (hb.mono uC.size)
  clear u0 u1 u2 u3 u4 u5 u6 uC hb l0 l1 l2 l3 l4 l5 l6 l7 v0
  obtain ⟨l0, l1, l2, l3, l4, l5, l6, l7⟩ := LegAt.cells t0
  have v0 := t0.lt
  have u0 := t0.alloc (.cells #[.int .i64 600, .int .i64 720] 28)
  have u1 := t1.alloc (.cells #[.int .i64 600, .int .i64 720] 28)
  have u2 := t2.alloc (.cells #[.int .i64 600, .int .i64 720] 28)
  have u3 := t3.alloc (.cells #[.int .i64 600, .int .i64 720] 28)
  have u4 := t4.alloc (.cells #[.int .i64 600, .int .i64 720] 28)
  have u5 := t5.alloc (.cells #[.int .i64 600, .int .i64 720] 28)
  have u6 := t6.alloc (.cells #[.int .i64 600, .int .i64 720] 28)
  have u7 := BlockAt.new w7 #[.int .i64 600, .int .i64 720] 28
  have uC := tC.alloc (tC.size) (.cells #[.int .i64 600, .int .i64 720] 28)
  clear t0 t1 t2 t3 t4 t5 t6 tC
  go_wp2_with fail
  refine (mon_l719 _).mono ?_
  rintro e w8 ⟨rfl, hb⟩
  have t0 := u0.below hb
  have t1 := u1.below hb
  have t2 := u2.below hb
  have t3 := u3.below hb
  have t4 := u4.below hb
  have t5 := u5.below hb
  have t6 := u6.below hb
  have t7 := u7.below hb
  have tC : Below w.heap.size w w8 := uC.trans (hb.mono uC.size)
  clear u0 u1 u2 u3 u4 u5 u6 u7 uC hb l0 l1 l2 l3 l4 l5 l6 l7 v0
  obtain ⟨l0, l1, l2, l3, l4, l5, l6, l7⟩ := LegAt.cells t0
  have v0 := t0.lt
  have u0 := t0.alloc (.cells #[.int .i64 0, .int .i64 0] 28)
  have u1 := t1.alloc (.cells #[.int .i64 0, .int .i64 0] 28)
  have u2 := t2.alloc (.cells #[.int .i64 0, .int .i64 0] 28)
  have u3 := t3.alloc (.cells #[.int .i64 0, .int .i64 0] 28)
  have u4 := t4.alloc (.cells #[.int .i64 0, .int .i64 0] 28)
  have u5 := t5.alloc (.cells #[.int .i64 0, .int .i64 0] 28)
  have u6 := t6.alloc (.cells #[.int .i64 0, .int .i64 0] 28)
  have u7 := t7.alloc (.cells #[.int .i64 0, .int .i64 0] 28)
  have u8 := BlockAt.new w8 #[.int .i64 0, .int .i64 0] 28
  have uC := tC.alloc (tC.size) (.cells #[.int .i64 0, .int .i64 0] 28)
  clear t0 t1 t2 t3 t4 t5 t6 t7 tC
  go_wp2_with fail
  refine (mon_li _).mono ?_
  rintro e w9 ⟨g, cap, rfl, c0, c1, c2, c3, hb⟩
  have t0 := u0.below hb
  have t1 := u1.below hb
  have t2 := u2.below hb
  have t3 := u3.below hb
  have t4 := u4.below hb
  have t5 := u5.below hb
  have t6 := u6.below hb
  have t7 := u7.below hb
  have t8 := u8.below hb
  have tC : Below w.heap.size w w9 := uC.trans (hb.mono uC.size)
  clear u0 u1 u2 u3 u4 u5 u6 u7 u8 uC hb l0 l1 l2 l3 l4 l5 l6 l7 v0
  obtain ⟨l0, l1, l2, l3, l4, l5, l6, l7⟩ := LegAt.cells t0
  have v0 := t0.lt
  obtain ⟨a1, b1, _, _⟩ := t1.two
  obtain ⟨a2, b2, _, _⟩ := t2.two
  obtain ⟨a3, b3, _, _⟩ := t3.two
  obtain ⟨a4, b4, _, _⟩ := t4.two
  obtain ⟨a5, b5, _, _⟩ := t5.two
  obtain ⟨a6, b6, _, _⟩ := t6.two
  obtain ⟨a7, b7, _, _⟩ := t7.two
  obtain ⟨a8, b8, _, _⟩ := t8.two
  have fz : w9.frozen? ⟨w1.heap.size, 3, none⟩ = false := by
    have h : w9.heap[w1.heap.size]? = _ := t0
    simp [World.frozen?, h]
  go_wp2_with fail
  go_quiet (fail)
  go_wp2_with fail
  refine (mon_on10 _).mono ?_
  rintro e w10 ⟨rfl, hb⟩
  have tD : Below w.heap.size w w10 := ((below_drewN tC nq).setCell (p := ⟨w1.heap.size, 3, none⟩) hw1 _).trans (hb.mono (by simp; exact tC.size))
  clear l0 l1 l2 l3 l4 l5 l6 l7 v0 hb
  go_wp2
  go_ret
  exact ⟨rfl, tD.alloc tD.size _⟩
end Go.Proofs.Ytogofbncdggigaa
