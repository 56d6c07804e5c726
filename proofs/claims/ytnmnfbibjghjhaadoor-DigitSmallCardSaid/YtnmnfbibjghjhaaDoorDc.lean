/-
  The walks of weighted and worth.
-/
import Derived.Test.YtnmnfbibjghjhaaDoorDb
import Derived.WideMake
import Derived.Carry
namespace Go.Proofs.YtnmnfbibjghjhaaDoor
open Go.RowKit Dig

set_option maxHeartbeats 1000000 in
theorem weighted_any (k : Int) (ws : List Nat) (v : Value) (p x : Nat) (w : World) (hr : NatRow w v ws) (hws : ws ≠ []) (hwl : ws.length ≤ 10) (hwb : ∀ u ∈ ws, u ≤ 10) (hp : p < 1000) (hx : x < 1000) :
    Calls Tryd.prog 44 #[.agg #[.int .u8 k, v], .int .i64 p, .int .i64 x] w fun e w' => e = .returned (.int .i64 (wt ws p * x : Nat)) ∧ Below w.heap.size w w' := by
  have hwt : wt ws p ≤ 10 := by
    unfold wt
    split
    · omega
    · have hpos : 0 < ws.length := List.length_pos_iff.2 hws
      have hlt : (p - 1) % ws.length < ws.length := Nat.mod_lt _ hpos
      rw [List.getD_eq_getElem?_getD, List.getElem?_eq_getElem hlt]
      exact hwb _ (List.getElem_mem hlt)
  have hmul : wt ws p * x ≤ 10 * 1000 := Nat.mul_le_mul hwt (by omega)
  have hb := hr.below (Nat.le_refl _) ((Below.refl _ w).alloc (Nat.le_refl _) (.cells #[.int .u8 k, v] 25))
  obtain ⟨pp, cap, rfl, _⟩ := hr
  go_enter Tryd.func44, Tryd.ntmps44
  go_wp2_with (go_at_call 49; refine (weight_any k ws _ p _ hb hws hwl hp).mono ?_; rintro e w1 ⟨rfl, hb1⟩)
  go_ret
  exact ⟨by show Ending.returned (Value.int IntKind.i64 (_ * _)) = _; push_cast; rfl, ((Below.refl _ w).alloc (Nat.le_refl _) _).trans (hb1.mono (by simp))⟩

theorem World.alloc_heap_new2 (W : World) (o : Obj) : (W.alloc o).heap[W.heap.size]? = some o := heap_alloc_new W o
/-- An entry of the table of methods. -/
abbrev ent (n : Int) (F born : Nat) : MapEntry := { key := .int .u8 n, val := .func (.func F) #[] #[], born := born }
/-- A function is laid into a map, at a key that it does not have. -/
theorem put_fn (w : World) {ops : Array Oper} {rest : List Oper} {o : Oper} {a : Act} {Q : Exit → Act → World → Prop} (hg : o.guard = none) (m x v : Operand) (hop : o.op = Op.insert 79 m x v)
    (B : Nat) (es : Array MapEntry) (clock : Nat) (hm : a.eval m = .map (some B)) (hb : w.heap[B]? = some (.map es clock)) (n : Int) (F : Nat) (hx : a.eval x = .int .u8 n) (hv : a.eval v = .func (.func F) #[] #[])
    (hf : Instr.findNow (.int .u8) (.int .u8 n) es.toList 0 = some none)
    (hK : ∀ w', w'.heap[B]? = some (.map (es.push (ent n F clock)) (clock + 1)) → w.grownBy w' (some B) → wpList Tryd.prog ops Q rest (a.put o.dst undef) w') : wpList Tryd.prog ops Q (o :: rest) a w := by
  have hrun : (Instr.mapUpdate 79 (.map (some B)) (.int .u8 n) (.func (.func F) #[] #[])).run Tryd.prog w = .ok () { w with heap := w.heap.setIfInBounds B (.map (es.push (ent n F clock)) (clock + 1)) } := by
    have hc := MapKept.run_checkKey (w := w) (k := .int .u8 n) Tryd.underlying5 (by simp [MapKept.IsKey]) false 9999
    simp [Instr.mapUpdate, run_underlying Tryd.underlying79, MapKept.run_getObj_map hb, hc, MapKept.run_findKey Tryd.underlying5 hf, MapKept.run_setObj_map _ hb, Result.andThen]
  refine wpList_plain hg fun K hKK => ?_
  unfold Oper.wp execOp
  simp [hop, hm, hx, hv, hrun, Result.andThen]
  obtain ⟨h1, h2⟩ := MapKept.heap_set (o' := .map (es.push (ent n F clock)) (clock + 1)) hb
  exact hKK _ _ (hK _ h1 ⟨rfl, rfl, rfl, by simp, fun r _ hr => h2 r (fun e => hr (by rw [e]))⟩)
/-- A function is looked up in a map that has it. -/
theorem get_fn (w : World) {ops : Array Oper} {rest : List Oper} {o : Oper} {a : Act} {Q : Exit → Act → World → Prop} (hg : o.guard = none) (m x : Operand) (hop : o.op = Op.lookup 79 m x false)
    (B : Nat) (es : Array MapEntry) (clock : Nat) (hm : a.eval m = .map (some B)) (hb : w.heap[B]? = some (.map es clock)) (n : Int) (F i : Nat) (hx : a.eval x = .int .u8 n)
    (hf : Instr.findNow (.int .u8) (.int .u8 n) es.toList 0 = some (some (i, .func (.func F) #[] #[])))
    (hK : wpList Tryd.prog ops Q rest (a.put o.dst (.func (.func F) #[] #[])) w) : wpList Tryd.prog ops Q (o :: rest) a w := by
  have hrun : (Instr.lookup 79 (.map (some B)) (.int .u8 n) false).run Tryd.prog w = .ok (.func (.func F) #[] #[]) w := by
    have hc := fun e => MapKept.run_checkKey (w := w) (k := .int .u8 n) Tryd.underlying5 (by simp [MapKept.IsKey]) e 9999
    simp [Instr.lookup, run_underlying Tryd.underlying79, MapKept.run_getObj_map hb, hc, MapKept.run_findKey Tryd.underlying5 hf, Result.andThen]
  refine wpList_plain hg fun K hKK => ?_
  unfold Oper.wp execOp
  simp [hop, hm, hx, hrun, Result.andThen]
  exact hKK _ _ hK

set_option maxHeartbeats 2000000 in
theorem worth_any (k : Int) (ws : List Nat) (v : Value) (p x : Nat) (w : World) (hr : NatRow w v ws) (hk : ((k = 1 ∨ k = 2) ∧ ws ≠ [] ∧ ws.length ≤ 10 ∧ ∀ u ∈ ws, u ≤ 10) ∨ k = 3) (hp : p < 1000) (hx : x < 1000) :
    Calls Tryd.prog 37 #[.agg #[.int .u8 k, v], .int .i64 p, .int .i64 x] w fun e w' => e = .returned (.int .i64 (worth k.toNat ws p x : Nat)) ∧ Below w.heap.size w w' := by
  have hmm := @run_makeMap Tryd.prog
  have HR := Lib.hid hr
  obtain ⟨pp, cap, rfl, _⟩ := hr
  rcases hk with ⟨hk | hk, hws, hwl, hwb⟩ | hk
  all_goals subst hk
  · go_enter Tryd.func37, Tryd.ntmps37
    go_wp2_with (first
      | (refine put_fn _ rfl _ _ _ rfl (w.heap.size + 1) #[] 0 rfl (by have := World.alloc_heap_new2 (w.alloc (.cells #[.int .u8 1, .slice pp ws.length cap] 25)) (.map #[] 0); simpa using this) 1 44 rfl rfl (by rfl) ?_; intro w3 hm3 hg3)
      | (refine put_fn _ rfl _ _ _ rfl (w.heap.size + 1) #[ent 1 44 0] 1 rfl hm3 2 44 rfl rfl (by rfl) ?_; intro w4 hm4 hg4)
      | (refine put_fn _ rfl _ _ _ rfl (w.heap.size + 1) #[ent 1 44 0, ent 2 44 1] 2 rfl hm4 3 45 rfl rfl (by rfl) ?_; intro w5 hm5 hg5; have x5 : BlockAt w5 w.heap.size #[.int .u8 1, .slice pp ws.length cap] 25 := ((((BlockAt.new w #[.int .u8 1, .slice pp ws.length cap] 25).alloc _).kept hg3 (by simp)).kept hg4 (by simp)).kept hg5 (by simp); obtain ⟨p0, p1, _, _⟩ := x5.two; have v0 := x5.lt; have hB5 : Below w.heap.size w w5 := ((((((Below.refl _ w).alloc (Nat.le_refl _) (.cells #[.int .u8 1, .slice pp ws.length cap] 25)).alloc (by simp) (.map #[] 0)).grown hg3 (by simp; omega) (fun j hj => by cases hj; omega)).grown hg4 (by have := hg3.size; simp at this; omega) (fun j hj => by cases hj; omega)).grown hg5 (by have := hg3.size; have := hg4.size; simp at *; omega) (fun j hj => by cases hj; omega)))
      | (refine get_fn _ rfl _ _ rfl (w.heap.size + 1) #[ent 1 44 0, ent 2 44 1, ent 3 45 2] 3 rfl hm5 1 44 0 rfl (by rfl) ?_)
      | (go_at_call 44; refine (weighted_any _ ws _ p x _ (HR.out.below (Nat.le_refl _) hB5) hws hwl hwb hp hx).mono ?_; rintro e w6 ⟨rfl, hb6⟩))
    go_ret
    exact ⟨rfl, hB5.trans (hb6.mono (Nat.le_of_lt v0))⟩
  · go_enter Tryd.func37, Tryd.ntmps37
    go_wp2_with (first
      | (refine put_fn _ rfl _ _ _ rfl (w.heap.size + 1) #[] 0 rfl (by have := World.alloc_heap_new2 (w.alloc (.cells #[.int .u8 2, .slice pp ws.length cap] 25)) (.map #[] 0); simpa using this) 1 44 rfl rfl (by rfl) ?_; intro w3 hm3 hg3)
      | (refine put_fn _ rfl _ _ _ rfl (w.heap.size + 1) #[ent 1 44 0] 1 rfl hm3 2 44 rfl rfl (by rfl) ?_; intro w4 hm4 hg4)
      | (refine put_fn _ rfl _ _ _ rfl (w.heap.size + 1) #[ent 1 44 0, ent 2 44 1] 2 rfl hm4 3 45 rfl rfl (by rfl) ?_; intro w5 hm5 hg5; have x5 : BlockAt w5 w.heap.size #[.int .u8 2, .slice pp ws.length cap] 25 := ((((BlockAt.new w #[.int .u8 2, .slice pp ws.length cap] 25).alloc _).kept hg3 (by simp)).kept hg4 (by simp)).kept hg5 (by simp); obtain ⟨p0, p1, _, _⟩ := x5.two; have v0 := x5.lt; have hB5 : Below w.heap.size w w5 := ((((((Below.refl _ w).alloc (Nat.le_refl _) (.cells #[.int .u8 2, .slice pp ws.length cap] 25)).alloc (by simp) (.map #[] 0)).grown hg3 (by simp; omega) (fun j hj => by cases hj; omega)).grown hg4 (by have := hg3.size; simp at this; omega) (fun j hj => by cases hj; omega)).grown hg5 (by have := hg3.size; have := hg4.size; simp at *; omega) (fun j hj => by cases hj; omega)))
      | (refine get_fn _ rfl _ _ rfl (w.heap.size + 1) #[ent 1 44 0, ent 2 44 1, ent 3 45 2] 3 rfl hm5 2 44 1 rfl (by rfl) ?_)
      | (go_at_call 44; refine (weighted_any _ ws _ p x _ (HR.out.below (Nat.le_refl _) hB5) hws hwl hwb hp hx).mono ?_; rintro e w6 ⟨rfl, hb6⟩))
    go_ret
    exact ⟨rfl, hB5.trans (hb6.mono (Nat.le_of_lt v0))⟩
  · go_enter Tryd.func37, Tryd.ntmps37
    go_wp2_with (first
      | (refine put_fn _ rfl _ _ _ rfl (w.heap.size + 1) #[] 0 rfl (by have := World.alloc_heap_new2 (w.alloc (.cells #[.int .u8 3, .slice pp ws.length cap] 25)) (.map #[] 0); simpa using this) 1 44 rfl rfl (by rfl) ?_; intro w3 hm3 hg3)
      | (refine put_fn _ rfl _ _ _ rfl (w.heap.size + 1) #[ent 1 44 0] 1 rfl hm3 2 44 rfl rfl (by rfl) ?_; intro w4 hm4 hg4)
      | (refine put_fn _ rfl _ _ _ rfl (w.heap.size + 1) #[ent 1 44 0, ent 2 44 1] 2 rfl hm4 3 45 rfl rfl (by rfl) ?_; intro w5 hm5 hg5; have x5 : BlockAt w5 w.heap.size #[.int .u8 3, .slice pp ws.length cap] 25 := ((((BlockAt.new w #[.int .u8 3, .slice pp ws.length cap] 25).alloc _).kept hg3 (by simp)).kept hg4 (by simp)).kept hg5 (by simp); obtain ⟨p0, p1, _, _⟩ := x5.two; have v0 := x5.lt; have hB5 : Below w.heap.size w w5 := ((((((Below.refl _ w).alloc (Nat.le_refl _) (.cells #[.int .u8 3, .slice pp ws.length cap] 25)).alloc (by simp) (.map #[] 0)).grown hg3 (by simp; omega) (fun j hj => by cases hj; omega)).grown hg4 (by have := hg3.size; simp at this; omega) (fun j hj => by cases hj; omega)).grown hg5 (by have := hg3.size; have := hg4.size; simp at *; omega) (fun j hj => by cases hj; omega)))
      | (refine get_fn _ rfl _ _ rfl (w.heap.size + 1) #[ent 1 44 0, ent 2 44 1, ent 3 45 2] 3 rfl hm5 3 45 2 rfl (by rfl) ?_)
      | (go_at_call 45; refine (doubled_any _ _ p x _ hp hx).mono ?_; rintro e w6 ⟨rfl, hb6⟩))
    go_ret
    exact ⟨rfl, hB5.trans (hb6.mono (Nat.le_of_lt v0))⟩
end Go.Proofs.YtnmnfbibjghjhaaDoor
