/-
  Rows of numbers; the walks of the small methods of a system: weight, mod, weighted, doubled.
-/
import Derived.WalkKit
import Derived.LoopTactic
import Derived.Deep.QuietTactic
import Derived.BigQuiet
import Derived.Lib.Hide
import Derived.OwnWalk
import Derived.Laws.OwnMore
import Derived.Laws.AppendOwnNone
import Derived.Laws.Rows
import Derived.OneCell
import Derived.Test.YtnmnfbibjghjhaaDoorProg
import Derived.Test.YtnmnfbibjghjhaaDoorDa
namespace Go.Proofs.YtnmnfbibjghjhaaDoor
open Go.RowKit Dig

def natCells (vs : List Nat) : List Value := vs.map fun (x : Nat) => .int .i64 (x : Int)
/-- A slice of numbers, as it lies. -/
def NatRow (W : World) (v : Value) (vs : List Nat) : Prop := ∃ p cap, v = .slice p vs.length cap ∧ (vs = [] ∨ ∃ b o, p = some ⟨b, o, none⟩ ∧ b < W.heap.size ∧ ∀ (k x : Nat), vs[k]? = some x → W.cell? ⟨b, o + k, none⟩ = some (.int .i64 (x : Int)))
theorem NatRow.below {B : Nat} {W W' : World} {v : Value} {vs : List Nat} (h : NatRow W v vs) (hB : W.heap.size ≤ B) (hb : Below B W W') : NatRow W' v vs := by
  obtain ⟨p, cap, rfl, h⟩ := h
  refine ⟨p, cap, rfl, h.imp id ?_⟩
  rintro ⟨b, o, rfl, hlt, hc⟩
  exact ⟨b, o, rfl, Nat.lt_of_lt_of_le hlt hb.size, fun k x hx => (hb.cell (p := ⟨b, o + k, none⟩) (Nat.lt_of_lt_of_le hlt hB)).trans (hc k x hx)⟩
/-- A block of cells as it lies. -/
def BlockAt (W : World) (B : Nat) (cs : Array Value) (t : TypeId) : Prop := W.heap[B]? = some (.cells cs t (0, 0))
theorem BlockAt.lt {W : World} {B : Nat} {cs : Array Value} {t : TypeId} (h : BlockAt W B cs t) : B < W.heap.size := (Array.getElem?_eq_some_iff.1 h).1
theorem BlockAt.kept {W W' : World} {row : Option Nat} {B : Nat} {cs : Array Value} {t : TypeId} (h : BlockAt W B cs t) (hg : W.grownBy W' row) (hne : some B ≠ row) : BlockAt W' B cs t := (hg.block B h.lt hne).trans h
theorem BlockAt.alloc {W : World} {B : Nat} {cs : Array Value} {t : TypeId} (h : BlockAt W B cs t) (o : Obj) : BlockAt (W.alloc o) B cs t := h.kept (World.grownBy_alloc W o none) (by simp)
theorem BlockAt.new (W : World) (cs : Array Value) (t : TypeId) : BlockAt (W.alloc (.cells cs t)) W.heap.size cs t := by unfold BlockAt; exact heap_alloc_new W _
theorem BlockAt.new_at {X : World} {cs : Array Value} {t : TypeId} {B : Nat} (hB : X.heap.size = B) : BlockAt (X.alloc (.cells cs t)) B cs t := by subst hB; exact BlockAt.new X cs t
theorem BlockAt.drew {X : World} {cs : Array Value} {t : TypeId} {B : Nat} (h : BlockAt X B cs t) : BlockAt X.drew B cs t := h
theorem grownBy_setCell2 (W : World) (b j : Nat) (v : Value) : W.grownBy (W.setCell ⟨b, j, none⟩ v) (some b) :=
  ⟨rfl, rfl, rfl, by simp, fun k _ hk => Below.heap_setCell _ _ _ k (fun e => hk (by rw [e]))⟩
theorem BlockAt.other {W : World} {B B' j : Nat} {cs : Array Value} {t : TypeId} (h : BlockAt W B cs t) (hne : B ≠ B') (u : Value) : BlockAt (W.setCell ⟨B', j, none⟩ u) B cs t := h.kept (grownBy_setCell2 W B' j u) (fun e => hne (by cases e; rfl))
theorem BlockAt.set1 {W : World} {B : Nat} {t : TypeId} {a : Value} (h : BlockAt W B #[a] t) (v : Value) : BlockAt (W.setCell ⟨B, 0, none⟩ v) B #[v] t := by
  obtain ⟨hlt, hk⟩ := Array.getElem?_eq_some_iff.1 h
  show (W.heap.modify B _)[B]? = _
  rw [Array.getElem?_eq_getElem (by rw [Array.size_modify]; exact hlt), Array.getElem_modify_self, hk]
  rfl
theorem BlockAt.set20 {W : World} {B : Nat} {t : TypeId} {a b : Value} (h : BlockAt W B #[a, b] t) (v : Value) : BlockAt (W.setCell ⟨B, 0, none⟩ v) B #[v, b] t := by
  obtain ⟨hlt, hk⟩ := Array.getElem?_eq_some_iff.1 h
  show (W.heap.modify B _)[B]? = _
  rw [Array.getElem?_eq_getElem (by rw [Array.size_modify]; exact hlt), Array.getElem_modify_self, hk]
  rfl
theorem BlockAt.set21 {W : World} {B : Nat} {t : TypeId} {a b : Value} (h : BlockAt W B #[a, b] t) (v : Value) : BlockAt (W.setCell ⟨B, 1, none⟩ v) B #[a, v] t := by
  obtain ⟨hlt, hk⟩ := Array.getElem?_eq_some_iff.1 h
  show (W.heap.modify B _)[B]? = _
  rw [Array.getElem?_eq_getElem (by rw [Array.size_modify]; exact hlt), Array.getElem_modify_self, hk]
  rfl
theorem BlockAt.one {W : World} {B : Nat} {t : TypeId} {a : Value} (h : BlockAt W B #[a] t) : W.cell? ⟨B, 0, none⟩ = some a ∧ W.frozen? ⟨B, 0, none⟩ = false := by
  unfold BlockAt at h; constructor <;> simp [World.cell?, World.frozen?, h]
theorem BlockAt.two {W : World} {B : Nat} {t : TypeId} {a b : Value} (h : BlockAt W B #[a, b] t) : W.cell? ⟨B, 0, none⟩ = some a ∧ W.cell? ⟨B, 1, none⟩ = some b ∧ W.frozen? ⟨B, 0, none⟩ = false ∧ W.frozen? ⟨B, 1, none⟩ = false := by
  unfold BlockAt at h; refine ⟨?_, ?_, ?_, ?_⟩ <;> simp [World.cell?, World.frozen?, h]
theorem BlockAt.below {W W' : World} {B : Nat} {cs : Array Value} {t : TypeId} (h : BlockAt W B cs t) (hb : Below W.heap.size W W') : BlockAt W' B cs t := (hb.block B h.lt).trans h
theorem addr_add (b o j : Nat) : (⟨b, o, none⟩ : Addr).add j = ⟨b, o + j, none⟩ := by
  unfold Addr.add
  split
  · rename_i h; subst h; rfl
  · rfl
theorem BlockAt.newCells {W : World} {B : Nat} {cs : Array Value} {t : TypeId} (h : BlockAt W B cs t) {l : List Value} (hl : cs.toList = l) : ∀ j u, l[j]? = some u → W.cell? ((⟨B, 0, none⟩ : Addr).add j) = some u := by
  intro j u hu
  rw [addr_add, Nat.zero_add]
  have hh := h
  unfold BlockAt at hh
  have : cs[j]? = some u := by rw [← Array.getElem?_toList, hl]; exact hu
  simp [World.cell?, hh, this]
theorem below_grown {W W' : World} (h : Below W.heap.size W W') : W.grownBy W' none := ⟨h.os, h.tape, h.output, h.size, fun k hk _ => h.block k hk⟩
theorem ownsRow_none {W W' : World} {base n size : Nat} {e : TypeId} {v : Value} {xs : List Value} (h : W.ownsRow base e size v n xs) (hb : Below W.heap.size W W') : W'.ownsRow base e size v n xs := by
  refine h.kept (below_grown hb) ?_
  cases hv : v.ownBlock <;> simp
theorem ownsRow_base {W : World} {base n size : Nat} {e : TypeId} {v : Value} {xs : List Value} (h : W.ownsRow base e size v n xs) (j : Nat) (hj : v.ownBlock = some j) : base ≤ j := (h.lt j hj).1
theorem ownsRow_form {W : World} {base n size : Nat} {e : TypeId} {v : Value} {xs : List Value} (h : W.ownsRow base e size v n xs) : ∃ p cap, v = .slice p n cap := by
  rcases h.2 with ⟨rfl, rfl⟩ | ⟨g, cap, cur, rfl, _⟩
  · exact ⟨_, _, rfl⟩
  · exact ⟨_, _, rfl⟩
theorem ownsRow_pos {W : World} {base n size : Nat} {e : TypeId} {v : Value} {xs : List Value} (h : W.ownsRow base e size v n xs) (hn : 0 < n) : ∃ g cap, v = .slice (some ⟨g, 0, none⟩) n cap ∧ base ≤ g := by
  rcases h.2 with ⟨_, h0⟩ | ⟨g, cap, cur, rfl, hb, _⟩
  · omega
  · exact ⟨g, cap, rfl, hb⟩
theorem ownsRow_lower {w : World} {base base' size n : Nat} {e : TypeId} {v : Value} {xs : List Value} (h : w.ownsRow base e size v n xs) (hb : base' ≤ base) : w.ownsRow base' e size v n xs :=
  ⟨h.1, h.2.imp id fun ⟨g, cap, cur, h1, h2, h3⟩ => ⟨g, cap, cur, h1, Nat.le_trans hb h2, h3⟩⟩
theorem natCells_append (a b : List Nat) : natCells (a ++ b) = natCells a ++ natCells b := by simp [natCells]
theorem natCells_one (vs : List Nat) : ∀ u ∈ natCells vs, u.oneCell' = true := by
  intro u hu; obtain ⟨p, _, rfl⟩ := List.mem_map.1 hu; rfl
theorem natCells_set (vs : List Nat) (j x : Nat) : (natCells vs).set j (.int .i64 (x : Int)) = natCells (vs.set j x) := by simp [natCells, List.map_set]
theorem NatRow.of_owns {W : World} {base n : Nat} {v : Value} {vs : List Nat} (h : W.ownsRow base 3 1 v n (natCells vs)) : NatRow W v vs := by
  have hn : n = vs.length := by have := h.1; simpa [natCells] using this.symm
  subst hn
  have hc := h
  rcases h.2 with ⟨rfl, h0⟩ | ⟨g, cap, cur, rfl, _⟩
  · exact ⟨none, 0, by rw [h0], .inl (List.length_eq_zero_iff.1 h0)⟩
  · refine ⟨_, cap, rfl, .inr ⟨g, 0, rfl, (hc.lt g rfl).2, fun k x hx => ?_⟩⟩
    have := hc.cells (g := g) rfl k (.int .i64 x) (by simp [natCells, hx])
    rwa [addr_add] at this
theorem NatRow.of_block {W : World} {B c : Nat} {vs : List Nat} {cs : Array Value} (h : BlockAt W B cs 3) (hcs : cs.toList = natCells vs) : NatRow W (.slice (some ⟨B, 0, none⟩) vs.length c) vs := by
  refine ⟨_, c, rfl, .inr ⟨B, 0, rfl, h.lt, fun k x hx => ?_⟩⟩
  have hh := h
  unfold BlockAt at hh
  have : cs[k]? = some (.int .i64 (x : Int)) := by rw [← Array.getElem?_toList, hcs]; simp [natCells, hx]
  simp [World.cell?, hh, this]
theorem NatRow.nil (W : World) : NatRow W (.slice none 0 0) [] := ⟨none, 0, rfl, .inl rfl⟩
theorem Tryd.info3 : (Tryd.prog.info? 3).map (fun i => (i.zero, i.size, i.bytes)) = some (some (.int .i64 0), 1, 8) := by kernel_rfl
theorem bcell {W W' : World} (hb : Below W.heap.size W W') : (∀ b o, b < W.heap.size → W'.cell? ⟨b, o, none⟩ = W.cell? ⟨b, o, none⟩) ∧ (∀ b o, b < W.heap.size → W'.frozen? ⟨b, o, none⟩ = W.frozen? ⟨b, o, none⟩) :=
  ⟨fun b o h => World.cell?_of_block (hb.block b h), fun b o h => World.frozen?_of_block (hb.block b h)⟩

set_option maxHeartbeats 1000000 in
theorem mod_any (k : Int) (v : Value) (w : World) (hk : 0 ≤ k) :
    Calls Tryd.prog 38 #[.agg #[.int .u8 k, v]] w fun e w' => e = .returned (.int .i64 (modOf k.toNat : Nat)) ∧ Below w.heap.size w w' := by
  by_cases h : k = 2
  · subst h
    go_enter Tryd.func38, Tryd.ntmps38
    go_wp2
    go_ret
    exact ⟨rfl, (Below.refl _ w).alloc (Nat.le_refl _) _⟩
  · have hm : modOf k.toNat = 10 := by unfold modOf; rw [if_neg (by omega)]
    have hk2 : (k == 2) = false := by rw [beq_eq_false_iff_ne]; exact h
    rw [hm]
    go_enter Tryd.func38, Tryd.ntmps38
    go_wp2
    go_ret
    exact ⟨rfl, (Below.refl _ w).alloc (Nat.le_refl _) _⟩

set_option maxHeartbeats 1000000 in
theorem doubled_any (k : Int) (v : Value) (p x : Nat) (w : World) (hp : p < 1000) (hx : x < 1000) :
    Calls Tryd.prog 45 #[.agg #[.int .u8 k, v], .int .i64 p, .int .i64 x] w fun e w' => e = .returned (.int .i64 (dbl p x : Nat)) ∧ Below w.heap.size w w' := by
  by_cases h : p % 2 = 0
  · have hd : dbl p x = x := by unfold dbl; rw [if_pos h]
    have h2 : (p : Int) % 2 = 0 := by omega
    rw [hd]
    go_enter Tryd.func45, Tryd.ntmps45
    go_wp2
    go_ret
    exact ⟨rfl, (Below.refl _ w).alloc (Nat.le_refl _) _⟩
  · have hd : dbl p x = 2 * x / 10 + 2 * x % 10 := by unfold dbl; rw [if_neg h]
    have h2 : ((p : Int) % 2 == 0) = false := by rw [beq_eq_false_iff_ne]; omega
    rw [hd]
    go_enter Tryd.func45, Tryd.ntmps45
    go_wp2
    go_ret
    exact ⟨by push_cast; rfl, (Below.refl _ w).alloc (Nat.le_refl _) _⟩

set_option maxHeartbeats 1000000 in
theorem weight_any (k : Int) (ws : List Nat) (v : Value) (p : Nat) (w : World) (hr : NatRow w v ws) (hws : ws ≠ []) (hwl : ws.length ≤ 10) (hp : p < 1000) :
    Calls Tryd.prog 49 #[.agg #[.int .u8 k, v], .int .i64 p] w fun e w' => e = .returned (.int .i64 (wt ws p : Nat)) ∧ Below w.heap.size w w' := by
  by_cases h : p = 0
  · subst h
    go_enter Tryd.func49, Tryd.ntmps49
    go_wp2
    go_ret
    exact ⟨rfl, (Below.refl _ w).alloc (Nat.le_refl _) _⟩
  · obtain ⟨pp, cap, rfl, hr⟩ := hr
    rcases hr with hr | ⟨b, o, rfl, hlt, hc⟩
    · exact absurd hr hws
    · have hpos : 0 < ws.length := List.length_pos_iff.2 hws
      obtain ⟨j, hj⟩ : ∃ j, j = (p - 1) % ws.length := ⟨_, rfl⟩
      have hjl : j < ws.length := by rw [hj]; exact Nat.mod_lt _ hpos
      obtain ⟨x, hx⟩ : ∃ x, ws[j]? = some x := ⟨_, List.getElem?_eq_getElem hjl⟩
      have hwt : wt ws p = x := by unfold wt; rw [if_neg h, ← hj, List.getD_eq_getElem?_getD, hx]; rfl
      have hne : ((p : Int) == 0) = false := by rw [beq_eq_false_iff_ne]; omega
      have hcj : w.cell? ⟨b, o + j, none⟩ = some (.int .i64 (x : Int)) := hc j x hx
      have hmod : ((p : Int) - 1).tmod (ws.length : Int) = (j : Int) := by
        rw [Int.tmod_eq_emod_of_nonneg (by omega), hj]
        have : (p : Int) - 1 = ((p - 1 : Nat) : Int) := by omega
        rw [this]; rfl
      have hmw : (IntKind.i64.wrap ((p : Int) - 1)).tmod (ws.length : Int) = (j : Int) := by rw [show IntKind.i64.wrap ((p : Int) - 1) = (p : Int) - 1 from by rw [IntKind.wrap_i64]; omega]; exact hmod
      have hmw2 : IntKind.i64.wrap ((IntKind.i64.wrap ((p : Int) - 1)).tmod (ws.length : Int)) = (j : Int) := by rw [hmw, IntKind.wrap_i64]; omega
      have hmod2 : ((p : Int) - 1) % (ws.length : Int) = (j : Int) := by
        rw [← hmod, Int.tmod_eq_emod_of_nonneg (by omega)]
      have hlz : ((ws.length : Int) == 0) = false := by rw [beq_eq_false_iff_ne]; omega
      have hjli : (j : Int) < (ws.length : Int) := by omega
      rw [hwt]
      go_enter Tryd.func49, Tryd.ntmps49
      go_wp2_with fail
      obtain ⟨W, hW⟩ : ∃ W, w.alloc (.cells #[.int .u8 k, .slice (some ⟨b, o, none⟩) ws.length cap] 25) = W := ⟨_, rfl⟩
      have x0 : BlockAt W w.heap.size #[.int .u8 k, .slice (some ⟨b, o, none⟩) ws.length cap] 25 := by rw [← hW]; exact BlockAt.new w _ 25
      have hX : Below w.heap.size w W := by rw [← hW]; exact (Below.refl _ w).alloc (Nat.le_refl _) _
      have hcj' : W.cell? ⟨b, o + j, none⟩ = some (.int .i64 (x : Int)) := (hX.cell (p := ⟨b, o + j, none⟩) hlt).trans hcj
      rw [hW]
      clear hW hcj hc hj hx hwt
      obtain ⟨p0, p1, _, _⟩ := x0.two
      have v0 := x0.lt
      go_quiet (fail)
      go_wp2
      go_ret
      exact ⟨rfl, ⟨hX.os, hX.tape, hX.output, hX.size, hX.block⟩⟩
end Go.Proofs.YtnmnfbibjghjhaaDoor
