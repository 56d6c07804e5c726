/-
  The iterator of the departures of a leg: its value (network.from) and its contract (network.from's literal).
-/
import Derived.RangeFuncNested
import Derived.RangeFuncBound
import Derived.RangeFuncCalls
import Derived.RangeFuncLeaves
import Derived.RangeFuncBox
import Derived.Shelf.Abstract
import Derived.Shelf.RegionOpen
import Derived.OwnWalkIn
import Derived.TacticsInMore
import Derived.LoopNIn
import Derived.LoopIn
import Derived.Maps.AppendAt
import Derived.Lib.Hide
import Derived.Test.YtogofbncdggigaaNd
namespace Go.Proofs.Ytogofbncdggigaa
open Go.RowKit Go.Shelf Net
attribute [local go_sem] Oper.semAt_some

/-- A leg in a block of its own. -/
def LegAt (W : World) (B : Nat) (i f t d m c g y : Int) : Prop := W.heap[B]? = some (.cells #[.int .i64 i, .int .i64 f, .int .i64 t, .int .i64 d, .int .i64 m, .int .i64 c, .int .i64 g, .int .u8 y] 23 (0, 0))
theorem LegAt.cells {W : World} {B : Nat} {i f t d m c g y : Int} (h : LegAt W B i f t d m c g y) :
    W.cell? ⟨B, 0, none⟩ = some (.int .i64 i) ∧ W.cell? ⟨B, 1, none⟩ = some (.int .i64 f) ∧ W.cell? ⟨B, 2, none⟩ = some (.int .i64 t) ∧ W.cell? ⟨B, 3, none⟩ = some (.int .i64 d) ∧
    W.cell? ⟨B, 4, none⟩ = some (.int .i64 m) ∧ W.cell? ⟨B, 5, none⟩ = some (.int .i64 c) ∧ W.cell? ⟨B, 6, none⟩ = some (.int .i64 g) ∧ W.cell? ⟨B, 7, none⟩ = some (.int .u8 y) := by
  unfold LegAt at h
  refine ⟨?_, ?_, ?_, ?_, ?_, ?_, ?_, ?_⟩ <;> simp [World.cell?, h]
theorem LegAt.lt {W : World} {B : Nat} {i f t d m c g y : Int} (h : LegAt W B i f t d m c g y) : B < W.heap.size := (Array.getElem?_eq_some_iff.1 h).1

theorem below_grown {W W' : World} (h : Below W.heap.size W W') : W.grownBy W' none := ⟨h.os, h.tape, h.output, h.size, fun k hk _ => h.block k hk⟩

set_option maxHeartbeats 1000000 in
theorem from_any (i f t d m c g y day : Int) (w : World) :
    Calls Try.prog 34 #[.agg #[.int .i64 i, .int .i64 f, .int .i64 t, .int .i64 d, .int .i64 m, .int .i64 c, .int .i64 g, .int .u8 y], .int .i64 day] w fun e w' =>
      e = .returned (.func (.func 53) #[] #[.pointer (some ⟨w.heap.size + 1, 0, none⟩), .pointer (some ⟨w.heap.size, 0, none⟩)]) ∧
      w' = (w.alloc (.cells #[.int .i64 i, .int .i64 f, .int .i64 t, .int .i64 d, .int .i64 m, .int .i64 c, .int .i64 g, .int .u8 y] 23)).alloc (.cells #[.int .i64 day] 3) := by
  go_enter Try.func34, Try.ntmps34
  go_wp2
  go_ret
  exact ⟨rfl, rfl⟩

/-- What a departure is handed to the loop's body as. -/
def encDep (d m k : Int) : Array Value := #[.agg #[.int .i64 (1440 * k + d), .int .i64 (1440 * k + d + m)]]

set_option maxRecDepth 100000 in
set_option maxHeartbeats 2000000 in
theorem iter_in (i f t d m c g y day s : Int) (hy0 : 0 ≤ y) (hy1 : y ≤ 255) (hday : day ≤ 800000) (hs : (0 ≤ day ∧ s = day) ∨ (day < 0 ∧ s = 0)) (l Bd Bl : Nat) (J Jx : List Int → World → Prop)
    (hY : ∀ pre k W, J pre W → pre.length < (depDays (onB i f t d m c g y) s).length → YieldAt Fence.wide 1 Try.prog l (encDep d m k) W fun e W' =>
      (e = .returned (.bool true) ∧ J (pre ++ [k]) W' ∧ W'.heap[Bl]? = W.heap[Bl]?) ∨ (e = .returned (.bool false) ∧ Jx (pre ++ [k]) W'))
    (W : World) (hJ : AbidesFrom W.heap.size J) (hBd : W.cell? ⟨Bd, 0, none⟩ = some (.int .i64 day)) (hL : LegAt W Bl i f t d m c g y) (h0 : J [] W) :
    CallsIn Fence.wide 2 Try.prog 53 #[.func (.yield l) #[] #[], .pointer (some ⟨Bd, 0, none⟩), .pointer (some ⟨Bl, 0, none⟩)] W fun e W' => (∃ v, e = .returned v) ∧
      ((∃ ys, ys = depDays (onB i f t d m c g y) s ∧ J ys W') ∨ (∃ pre, pre <+: depDays (onB i f t d m c g y) s ∧ Jx pre W')) := by
  refine callsIn_of_wp Try.func53 rfl trivial ?_ rfl
  simp only [Try.ntmps53, List.size_toArray, List.length_cons, List.length_nil, Nat.reduceAdd, Nat.reduceSub, Array.replicate_succ, Array.replicate_zero, List.push_toArray, List.append_toArray, List.nil_append, List.cons_append]
  obtain ⟨xs, hxs⟩ : ∃ xs, depDays (onB i f t d m c g y) s = xs := ⟨_, rfl⟩
  rw [hxs] at hY ⊢
  have HX := Lib.hid hxs
  clear hxs
  rcases hs with ⟨hs0, rfl⟩ | ⟨hs0, rfl⟩
  all_goals
    gi_wp2
    gi_loopw [4] (fun dv wr => ∃ (k : Int) (pre : List Int), dv = .int .i64 k ∧ 0 ≤ k ∧ k ≤ 800000 ∧ Hid (xs = pre ++ depDays (onB i f t d m c g y) k) ∧ LegAt wr Bl i f t d m c g y ∧ J pre wr)
      (fun dv wr => (800000 - intOf dv).toNat)
    case atStart => exact ⟨_, [], rfl, by omega, by omega, Lib.hid (by rw [← HX.out]; rfl), hL, h0⟩
    case round =>
      obtain ⟨k, pre, rfl, hk0, hk1, hx, hLr, hJr⟩ := hrel
      obtain ⟨hl0, hl1, hl2, hl3, hl4, hl5, hl6, hl7⟩ := hLr.cells
      by_cases hk : k ≤ 730484
      · cases hon : onB i f t d m c g y k with
        | true =>
          have Hon := Lib.hid hon
          clear hon
          have hx' : xs = (pre ++ [k]) ++ depDays (onB i f t d m c g y) (k + 1) := by rw [hx.out, depDays_yes hk Hon.out]; simp
          have hlen : pre.length < xs.length := by rw [hx']; simp
          have Hx' := Lib.hid hx'
          clear hx'
          gi_wp2_with (refine ⟨trivial, ?_⟩; gi_at_call 16; refine (callsIn_wide.2 (on_yes i f t d m c g y k wr hy0 hy1 Hon.out)).mono ?_; rintro e w1 ⟨rfl, hb1⟩; obtain ⟨fn, tmps, assign, body, hy, hR⟩ := hY pre k (w1.alloc (.cells #[.int .i64 (1440 * k + d), .int .i64 (1440 * k + d + m)] 28)) (hJ _ _ _ none (hJ _ _ _ none hJr (below_grown hb1) (fun r e => by cases e)) (World.grownBy_alloc _ _ none) (fun r e => by cases e)) hlen; dsimp only [encDep] at hy)
          refine hR.mono ?_
          have hLw : LegAt (w1.alloc (.cells #[.int .i64 (1440 * k + d), .int .i64 (1440 * k + d + m)] 28)) Bl i f t d m c g y := by
            have h1 : LegAt w1 Bl i f t d m c g y := (hb1.block Bl hLr.lt).trans hLr
            exact (Below.heap_alloc w1 _ Bl h1.lt).trans h1
          rintro e W3 (⟨rfl, hJ3, hk3⟩ | ⟨rfl, hJx3⟩)
          · gi_wp2
            go_roundw
            case rel => exact ⟨k + 1, pre ++ [k], by go_num, by omega, by omega, Hx', hk3.trans hLw, hJ3⟩
            case measure => simp [intOf]; omega
          · gi_wp2
            refine bodyPost_ret (results_none rfl _ _ _) rfl ?_
            exact ⟨⟨_, rfl⟩, .inr ⟨pre ++ [k], ⟨_, Hx'.out.symm⟩, hJx3⟩⟩
        | false =>
          have hx' : xs = pre ++ depDays (onB i f t d m c g y) (k + 1) := by rw [hx.out, depDays_no hk hon]
          have Hx' := Lib.hid hx'
          clear hx'
          have Hon := Lib.hid hon
          clear hon
          gi_wp2_with (refine ⟨trivial, ?_⟩; gi_at_call 16; refine (callsIn_wide.2 (on_no i f t d m c g y k wr hy0 hy1 Hon.out)).mono ?_; rintro e w1 ⟨rfl, hb1⟩)
          have hLw : LegAt (w1.alloc (.cells #[.int .i64 0, .int .i64 0] 28)) Bl i f t d m c g y := by
            have h1 : LegAt w1 Bl i f t d m c g y := (hb1.block Bl hLr.lt).trans hLr
            exact (Below.heap_alloc w1 _ Bl h1.lt).trans h1
          refine ⟨fun _ h => (by cases h), ?_⟩
          gi_wp2
          go_roundw
          case rel => exact ⟨k + 1, pre, by go_num, by omega, by omega, Hx', hLw, hJ _ _ _ none (hJ _ _ _ none hJr (below_grown hb1) (fun r e => by cases e)) (World.grownBy_alloc _ _ none) (fun r e => by cases e)⟩
          case measure => simp [intOf]; omega
      · gi_wp2
        go_end0
        exact ⟨⟨_, rfl⟩, .inl (by have e := hx.out; rw [depDays_end (by omega), List.append_nil] at e; rw [e]; exact hJr)⟩

/-- What a round of a loop over the departures must keep: the block of the leg. -/
def KeepsLeg (Bl : Nat) (A B : World) : Prop := B.heap[Bl]? = A.heap[Bl]?
theorem keepsLeg_t {Bl : Nat} {A B C : World} (h : KeepsLeg Bl A B) (k : KeepsLeg Bl B C) : KeepsLeg Bl A C := Eq.trans k h
theorem keepsLeg_b {Bl : Nat} {w : World} (hB : Bl < w.heap.size) (W : World) (l : Nat) (o o' : Obj) (hl : w.heap.size ≤ l) (_ : W.heap[l]? = some o) (_ : o.isCells = false) (_ : o.isWalk = false) : KeepsLeg Bl W (W.putObj l o') :=
  World.putObj_heap_other (by omega)

theorem iter_stops (i f t d m c g y day s : Int) (hy0 : 0 ≤ y) (hy1 : y ≤ 255) (hday : day ≤ 800000) (hs : (0 ≤ day ∧ s = day) ∨ (day < 0 ∧ s = 0)) (Bd Bl : Nat) (w0 : World)
    (hBd : Boxed w0 Bd 3 (.int .i64 day)) (hL : LegAt w0 Bl i f t d m c g y) :
    SeqStopsK Fence.wide 2 Try.prog 53 #[.pointer (some ⟨Bd, 0, none⟩), .pointer (some ⟨Bl, 0, none⟩)] (encDep d m) (KeepsLeg Bl) (fun ys => ys = depDays (onB i f t d m c g y) s) (fun pre => pre <+: depDays (onB i f t d m c g y) s) (depDays (onB i f t d m c g y) s).length w0 :=
  fun l J Jx W hW hJ _ hY h0 =>
    iter_in i f t d m c g y day s hy0 hy1 hday hs l Bd Bl J Jx hY W hJ ((hW.cell (p := ⟨Bd, 0, none⟩) hBd.lt).trans hBd.cell) ((hW.block Bl hL.lt).trans hL) h0

/-- A block of cells as it lies. -/
def BlockAt (W : World) (B : Nat) (cs : Array Value) (t : TypeId) : Prop := W.heap[B]? = some (.cells cs t (0, 0))
theorem BlockAt.lt {W : World} {B : Nat} {cs : Array Value} {t : TypeId} (h : BlockAt W B cs t) : B < W.heap.size := (Array.getElem?_eq_some_iff.1 h).1
theorem blockAt_own {β : Type} (B : Nat) (cs : β → Array Value) (t : TypeId) : Own (fun (s : β) W => BlockAt W B (cs s) t) := fun _ _ _ _ hs hg hrow =>
  (grownBy_keeps_cells hg hrow hs rfl).trans hs
theorem BlockAt.kept {W W' : World} {row : Option Nat} {B : Nat} {cs : Array Value} {t : TypeId} (h : BlockAt W B cs t) (hg : W.grownBy W' row) (hne : some B ≠ row) : BlockAt W' B cs t := (hg.block B h.lt hne).trans h
theorem BlockAt.alloc {W : World} {B : Nat} {cs : Array Value} {t : TypeId} (h : BlockAt W B cs t) (o : Obj) : BlockAt (W.alloc o) B cs t := h.kept (World.grownBy_alloc W o none) (by simp)
theorem BlockAt.new (W : World) (cs : Array Value) (t : TypeId) : BlockAt (W.alloc (.cells cs t)) W.heap.size cs t := World.alloc_heap_new W _
theorem grownBy_setCell2 (W : World) (b j : Nat) (v : Value) : W.grownBy (W.setCell ⟨b, j, none⟩ v) (some b) :=
  ⟨rfl, rfl, rfl, (KeepsWalks.setCell W _ v).size, fun k _ hk => Below.heap_setCell _ _ _ k (fun e => hk (by rw [e]))⟩
theorem BlockAt.other {W : World} {B B' j : Nat} {cs : Array Value} {t : TypeId} (h : BlockAt W B cs t) (hne : B ≠ B') (u : Value) : BlockAt (W.setCell ⟨B', j, none⟩ u) B cs t := h.kept (grownBy_setCell2 W B' j u) (fun e => hne (by cases e; rfl))
theorem BlockAt.set1 {W : World} {B : Nat} {t : TypeId} {a : Value} (h : BlockAt W B #[a] t) (v : Value) : BlockAt (W.setCell ⟨B, 0, none⟩ v) B #[v] t := by
  obtain ⟨hlt, hk⟩ := Array.getElem?_eq_some_iff.1 h
  show (W.heap.modify B _)[B]? = _
  rw [Array.getElem?_eq_getElem (by rw [Array.size_modify]; exact hlt), Array.getElem_modify_self, hk]
  rfl
theorem BlockAt.set20 {W : World} {B : Nat} {t : TypeId} {a b : Value} (h : BlockAt W B #[a, b] t) (v : Value) : BlockAt (W.setCell ⟨B, 0, none⟩ v) B #[v, b] t := by
  obtain ⟨hlt, hk⟩ := Array.getElem?_eq_some_iff.1 h
  show (W.heap.modify B _)[B]? = _
  rw [Array.getElem?_eq_getElem (by rw [Array.size_modify]; exact hlt), Array.getElem_modify_self, hk]
  rfl
theorem BlockAt.set21 {W : World} {B : Nat} {t : TypeId} {a b : Value} (h : BlockAt W B #[a, b] t) (v : Value) : BlockAt (W.setCell ⟨B, 1, none⟩ v) B #[a, v] t := by
  obtain ⟨hlt, hk⟩ := Array.getElem?_eq_some_iff.1 h
  show (W.heap.modify B _)[B]? = _
  rw [Array.getElem?_eq_getElem (by rw [Array.size_modify]; exact hlt), Array.getElem_modify_self, hk]
  rfl
theorem BlockAt.one {W : World} {B : Nat} {t : TypeId} {a : Value} (h : BlockAt W B #[a] t) : W.cell? ⟨B, 0, none⟩ = some a ∧ W.frozen? ⟨B, 0, none⟩ = false := by
  unfold BlockAt at h; constructor <;> simp [World.cell?, World.frozen?, h]
theorem BlockAt.two {W : World} {B : Nat} {t : TypeId} {a b : Value} (h : BlockAt W B #[a, b] t) : W.cell? ⟨B, 0, none⟩ = some a ∧ W.cell? ⟨B, 1, none⟩ = some b ∧ W.frozen? ⟨B, 0, none⟩ = false ∧ W.frozen? ⟨B, 1, none⟩ = false := by
  unfold BlockAt at h; refine ⟨?_, ?_, ?_, ?_⟩ <;> simp [World.cell?, World.frozen?, h]
theorem BlockAt.below {W W' : World} {B : Nat} {cs : Array Value} {t : TypeId} (h : BlockAt W B cs t) (hb : Below W.heap.size W W') : BlockAt W' B cs t := (hb.block B h.lt).trans h
theorem BlockAt.putObj {W : World} {B l : Nat} {cs : Array Value} {t : TypeId} {o : Obj} (h : BlockAt W B cs t) (hl : W.heap[l]? = some o) (ho : o.isCells = false) (o' : Obj) : BlockAt (W.putObj l o') B cs t := by
  refine (World.putObj_heap_other ?_).trans h
  intro e; subst e; rw [show W.heap[B]? = _ from h] at hl; cases hl; cases ho
end Go.Proofs.Ytogofbncdggigaa
