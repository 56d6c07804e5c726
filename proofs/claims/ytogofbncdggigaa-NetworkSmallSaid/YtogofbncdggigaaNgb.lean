/-
  The walks of the copies of numbers, of legs and of a network.
-/
import Derived.LoopTactic
import Derived.Laws.Rows
import Derived.Test.YtogofbncdggigaaNga
import Derived.Test.YtogofbncdggigaaNva
namespace Go.Proofs.Ytogofbncdggigaa
open Go.RowKit Net

theorem ownsRow_lower {w : World} {base base' size n : Nat} {e : TypeId} {v : Value} {xs : List Value} (h : w.ownsRow base e size v n xs) (hb : base' ≤ base) : w.ownsRow base' e size v n xs :=
  ⟨h.1, h.2.imp id fun ⟨g, cap, cur, h1, h2, h3⟩ => ⟨g, cap, cur, h1, Nat.le_trans hb h2, h3⟩⟩
/-- A slice of numbers that may be read as a whole. -/
def IntSrc (W : World) (v : Value) (ps : List Int) : Prop := (v = .slice none 0 0 ∧ ps = []) ∨ ∃ b o c, v = .slice (some ⟨b, o, none⟩) ps.length c ∧ (ps = [] ∨ b < W.heap.size) ∧ ∀ j u, (intCells ps)[j]? = some u → W.cell? ⟨b, o + j, none⟩ = some u
/-- A slice of legs that may be read as a whole. -/
def LegSrc (W : World) (v : Value) (ls : List Leg8) : Prop := (v = .slice none 0 0 ∧ ls = []) ∨ ∃ b o c, v = .slice (some ⟨b, o, none⟩) ls.length c ∧ (ls = [] ∨ b < W.heap.size) ∧ ∀ j u, (legCells ls)[j]? = some u → W.cell? ⟨b, o + j, none⟩ = some u
theorem IntSrc.row {W : World} {v : Value} {ps : List Int} (h : IntSrc W v ps) : IntRow W v ps := by
  rcases h with ⟨rfl, rfl⟩ | ⟨b, o, c, rfl, hlt, hc⟩
  · exact IntRow.nil W
  · exact ⟨_, c, rfl, hlt.imp id fun hlt => ⟨b, o, rfl, hlt, fun k x hx => hc k _ (by simp [intCells, hx])⟩⟩
theorem LegSrc.row {W : World} {v : Value} {ls : List Leg8} (h : LegSrc W v ls) : LegRow W v ls := by
  rcases h with ⟨rfl, rfl⟩ | ⟨b, o, c, rfl, hlt, hc⟩
  · exact LegRow.nil W
  · rcases hlt with rfl | hlt
    · exact ⟨_, c, rfl, .inl rfl⟩
    · exact LegRow.mk8 hlt hc
theorem IntSrc.below {B : Nat} {W W' : World} {v : Value} {ps : List Int} (h : IntSrc W v ps) (hB : W.heap.size ≤ B) (hb : Below B W W') : IntSrc W' v ps := by
  refine h.imp id ?_
  rintro ⟨b, o, c, rfl, hlt, hc⟩
  refine ⟨b, o, c, rfl, hlt.imp id fun hl => Nat.lt_of_lt_of_le hl hb.size, fun j u hu => ?_⟩
  have hl : b < W.heap.size := World.block_lt_of_cell? W ⟨b, o + j, none⟩ (hc j u hu)
  exact (hb.cell (p := ⟨b, o + j, none⟩) (Nat.lt_of_lt_of_le hl hB)).trans (hc j u hu)
theorem LegSrc.below {B : Nat} {W W' : World} {v : Value} {ls : List Leg8} (h : LegSrc W v ls) (hB : W.heap.size ≤ B) (hb : Below B W W') : LegSrc W' v ls := by
  refine h.imp id ?_
  rintro ⟨b, o, c, rfl, hlt, hc⟩
  refine ⟨b, o, c, rfl, hlt.imp id fun hl => Nat.lt_of_lt_of_le hl hb.size, fun j u hu => ?_⟩
  have hl : b < W.heap.size := World.block_lt_of_cell? W ⟨b, o + j, none⟩ (hc j u hu)
  exact (hb.cell (p := ⟨b, o + j, none⟩) (Nat.lt_of_lt_of_le hl hB)).trans (hc j u hu)
theorem IntSrc.of_owns {W : World} {base n : Nat} {v : Value} {ps : List Int} (h : W.ownsRow base 3 1 v n (intCells ps)) : IntSrc W v ps := by
  have hn : n = ps.length := by have := h.1; simpa [intCells] using this.symm
  subst hn
  have hc := h
  rcases h.2 with ⟨rfl, h0⟩ | ⟨g, cap, cur, rfl, _⟩
  · exact .inl ⟨rfl, List.length_eq_zero_iff.1 h0⟩
  · refine .inr ⟨g, 0, cap, rfl, .inr (hc.lt g rfl).2, fun j u hu => ?_⟩
    have := hc.cells (g := g) rfl j u hu
    rwa [addr_add] at this
theorem LegSrc.of_owns {W : World} {base n : Nat} {v : Value} {ls : List Leg8} (h : W.ownsRow base 23 8 v n (legCells ls)) : LegSrc W v ls := by
  have hn : n = ls.length := by have := h.1; rw [legCells_length] at this; omega
  subst hn
  have hc := h
  rcases h.2 with ⟨rfl, h0⟩ | ⟨g, cap, cur, rfl, _⟩
  · exact .inl ⟨rfl, List.length_eq_zero_iff.1 h0⟩
  · refine .inr ⟨g, 0, cap, rfl, .inr (hc.lt g rfl).2, fun j u hu => ?_⟩
    have := hc.cells (g := g) rfl j u hu
    rwa [addr_add] at this

set_option maxHeartbeats 1000000 in
theorem copyints_any (ps : List Int) (v : Value) (w : World) (h : IntSrc w v ps) (hn : ps.length ≤ 100000) :
    Calls Try.prog 54 #[v] w fun e w' => ∃ v', e = .returned v' ∧ w'.ownsRow w.heap.size 3 1 v' ps.length (intCells ps) ∧ Below w.heap.size w w' := by
  obtain ⟨i0, hi, hi0, hi1, hi2⟩ := info_parts Try.info3
  rcases h with ⟨rfl, rfl⟩ | ⟨b, o, c, rfl, _, hc⟩
  · go_enter Try.func54, Try.ntmps54
    go_wp2_with (at_builtin; refine wpList_append_own_none rfl (.tmp 4) (.tmp 5) 39 rfl w.heap.size 3 i0 1 Try.underlying39 hi _ 0 [] rfl (World.ownsRow_nil _ _ _ _) rfl ?_)
    go_ret
    exact ⟨_, rfl, World.ownsRow_nil _ _ _ _, Below.refl _ _⟩
  · go_enter Try.func54, Try.ntmps54
    go_wp2_with (at_builtin; refine wpList_append_own _ rfl (.tmp 4) (.tmp 5) 39 rfl w.heap.size 3 i0 (.int .i64 0) 1 8 Try.underlying39 hi hi0 hi1 hi2 rfl (by decide) _ 0 [] rfl (World.ownsRow_nil _ _ _ _) ⟨b, o, none⟩ ps.length c (intCells ps) rfl (by simp [intCells]) (fun j u hu => by rw [addr_add]; exact hc j u hu) (intCells_one ps) (by unfold maxLen; omega) (by omega) (Nat.le_refl _) ?_; intro v' w1 hown hg _)
    go_ret
    exact ⟨_, rfl, by simpa using hown, (Below.refl _ w).grown hg (Nat.le_refl _) (fun j hj => by cases hj)⟩
set_option maxHeartbeats 1000000 in
theorem copylegs_any (ls : List Leg8) (v : Value) (w : World) (h : LegSrc w v ls) (hn : ls.length ≤ 100000) :
    Calls Try.prog 55 #[v] w fun e w' => ∃ v', e = .returned v' ∧ w'.ownsRow w.heap.size 23 8 v' ls.length (legCells ls) ∧ Below w.heap.size w w' := by
  obtain ⟨i0, hi, hi0, hi1, hi2⟩ := info_parts Try.info23
  rcases h with ⟨rfl, rfl⟩ | ⟨b, o, c, rfl, _, hc⟩
  · go_enter Try.func55, Try.ntmps55
    go_wp2_with (at_builtin; refine wpList_append_own_none rfl (.tmp 4) (.tmp 5) 40 rfl w.heap.size 23 i0 8 Try.underlying40 hi _ 0 [] rfl (World.ownsRow_nil _ _ _ _) rfl ?_)
    go_ret
    exact ⟨_, rfl, World.ownsRow_nil _ _ _ _, Below.refl _ _⟩
  · go_enter Try.func55, Try.ntmps55
    go_wp2_with (at_builtin; refine wpList_append_own _ rfl (.tmp 4) (.tmp 5) 40 rfl w.heap.size 23 i0 (.agg #[.int .i64 0, .int .i64 0, .int .i64 0, .int .i64 0, .int .i64 0, .int .i64 0, .int .i64 0, .int .u8 0]) 8 64 Try.underlying40 hi hi0 hi1 hi2 rfl (by decide) _ 0 [] rfl (World.ownsRow_nil _ _ _ _) ⟨b, o, none⟩ ls.length c (legCells ls) rfl (legCells_length ls) (fun j u hu => by rw [addr_add]; exact hc j u hu) (legCells_one ls) (by unfold maxLen; omega) (by omega) (Nat.le_refl _) ?_; intro v' w1 hown hg _)
    go_ret
    exact ⟨_, rfl, by simpa using hown, (Below.refl _ w).grown hg (Nat.le_refl _) (fun j hj => by cases hj)⟩

set_option maxHeartbeats 1000000 in
theorem copynetwork_any (ps : List Int) (ls : List Leg8) (pv lv : Value) (w : World) (hp : IntSrc w pv ps) (hl : LegSrc w lv ls) (hn : ps.length ≤ 100000) (hm : ls.length ≤ 100000) :
    Calls Try.prog 43 #[.agg #[pv, lv]] w fun e w' => ∃ pv' lv', e = .returned (.agg #[pv', lv']) ∧ w'.ownsRow w.heap.size 3 1 pv' ps.length (intCells ps) ∧ w'.ownsRow w.heap.size 23 8 lv' ls.length (legCells ls) ∧ Below w.heap.size w w' := by
  go_enter Try.func43, Try.ntmps43
  go_wp2_with fail
  obtain ⟨W, hW⟩ : ∃ W, (w.alloc (.cells #[pv, lv] 42)).alloc (.cells #[.slice none 0 0, .slice none 0 0] 42) = W := ⟨_, rfl⟩
  have x0 : BlockAt W w.heap.size #[pv, lv] 42 := by rw [← hW]; exact (BlockAt.new w _ 42).alloc _
  have x1 : BlockAt W (w.heap.size + 1) #[.slice none 0 0, .slice none 0 0] 42 := by
    rw [← hW]
    have := BlockAt.new (w.alloc (.cells #[pv, lv] 42)) #[.slice none 0 0, .slice none 0 0] 42
    simpa using this
  have hX : Below w.heap.size w W := by rw [← hW]; exact ((Below.refl _ w).alloc (Nat.le_refl _) _).alloc (by simp) _
  rw [hW]
  clear hW
  have HP := Lib.hid (hp.below (Nat.le_refl _) hX)
  have HL := Lib.hid hl
  clear hp hl
  obtain ⟨p0, p1, q0, q1⟩ := x0.two
  have v0 := x0.lt
  go_wp2_with fail
  refine (copyints_any ps _ _ HP.out hn).mono ?_
  rintro e w3 ⟨pv', rfl, ho3, hb3⟩
  have y0 := x0.below hb3
  have y1 := x1.below hb3
  have hB3 := hX.trans (hb3.mono (by omega))
  have hsz3 := hb3.size
  obtain ⟨pp, pc, rfl⟩ := ownsRow_form ho3
  have hv1 := x1.lt
  clear x0 x1 hb3 p0 p1 q0 q1 v0 HP hX
  obtain ⟨p0, p1, q0, q1⟩ := y0.two
  have v0 := y0.lt
  go_wp2_with fail
  have z0 : BlockAt (w3.setCell ⟨w.heap.size, 0, none⟩ (.slice pp ps.length pc)) w.heap.size #[.slice pp ps.length pc, lv] 42 := y0.set20 _
  have z1 : BlockAt (w3.setCell ⟨w.heap.size, 0, none⟩ (.slice pp ps.length pc)) (w.heap.size + 1) #[.slice none 0 0, .slice none 0 0] 42 := y1.other (by omega) _
  have ho4 : (w3.setCell ⟨w.heap.size, 0, none⟩ (.slice pp ps.length pc)).ownsRow W.heap.size 3 1 (.slice pp ps.length pc) ps.length (intCells ps) := ownsRow_setCell_below ho3 (show w.heap.size < W.heap.size by omega) _
  have hg4 := hB3.setCell (p := ⟨w.heap.size, 0, none⟩) (Nat.le_refl _) (.slice pp ps.length pc)
  have HL4 := Lib.hid (HL.out.below (Nat.le_refl _) hg4)
  have hsz4 : (w3.setCell ⟨w.heap.size, 0, none⟩ (.slice pp ps.length pc)).heap.size = w3.heap.size := by simp
  refine (copylegs_any ls _ _ HL4.out hm).mono ?_
  rintro e w5 ⟨lv', rfl, ho5, hb5⟩
  obtain ⟨lp, lc, rfl⟩ := ownsRow_form ho5
  have u0 := z0.below hb5
  have u1 := z1.below hb5
  have ho4' := ownsRow_none ho4 hb5
  have hB5 := hg4.trans (hb5.mono (by omega))
  have hsz5 := hb5.size
  rw [hsz4] at hsz5 ho5
  clear hb5 z0 z1 ho4 hg4 HL4 HL hB3 y0 y1 ho3 p0 p1 q0 q1 v0 hsz4
  obtain ⟨p0, p1, q0, q1⟩ := u0.two
  obtain ⟨p2, p3, q2, q3⟩ := u1.two
  have v0 : w.heap.size + 1 < w5.heap.size := u1.lt
  have v1 : w.heap.size < w5.heap.size := by omega
  go_wp2_with fail
  have t1 : BlockAt (((w5.setCell ⟨w.heap.size, 1, none⟩ (.slice lp ls.length lc)).setCell ⟨w.heap.size + 1, 0, none⟩ (.slice pp ps.length pc)).setCell ⟨w.heap.size + 1, 1, none⟩ (.slice lp ls.length lc)) (w.heap.size + 1) #[.slice pp ps.length pc, .slice lp ls.length lc] 42 :=
    ((u1.other (by omega) _).set20 _).set21 _
  refine bodyPost_ret (results_cell_row Try.results43 _ _ _ _ _ _ _ rfl t1 Try.underlying42 rfl (by kernel_rfl)) rfl ?_
  refine ⟨_, _, rfl, ?_, ?_, ?_⟩
  · refine ownsRow_lower (ownsRow_setCell_below (ownsRow_setCell_below (ownsRow_setCell_below ho4' ?_ _) ?_ _) ?_ _) (by omega)
    · show w.heap.size < W.heap.size; omega
    · show w.heap.size + 1 < W.heap.size; omega
    · show w.heap.size + 1 < W.heap.size; omega
  · refine ownsRow_lower (ownsRow_setCell_below (ownsRow_setCell_below (ownsRow_setCell_below ho5 ?_ _) ?_ _) ?_ _) (by omega)
    · show w.heap.size < w3.heap.size; omega
    · show w.heap.size + 1 < w3.heap.size; omega
    · show w.heap.size + 1 < w3.heap.size; omega
  · refine ((hB5.setCell ?_ _).setCell ?_ _).setCell ?_ _
    · exact Nat.le_refl _
    · exact Nat.le_succ _
    · exact Nat.le_succ _
/-- A new block, its number given otherwise. -/
theorem BlockAt.new_at {X : World} {cs : Array Value} {t : TypeId} {B : Nat} (hB : X.heap.size = B) : BlockAt (X.alloc (.cells cs t)) B cs t := by subst hB; exact BlockAt.new X cs t
theorem BlockAt.drew {X : World} {cs : Array Value} {t : TypeId} {B : Nat} (h : BlockAt X B cs t) : BlockAt X.drew B cs t := h
theorem BlockAt.newCells {W : World} {B : Nat} {cs : Array Value} {t : TypeId} (h : BlockAt W B cs t) {l : List Value} (hl : cs.toList = l) : ∀ j u, l[j]? = some u → W.cell? ((⟨B, 0, none⟩ : Addr).add j) = some u := by
  intro j u hu
  rw [addr_add, Nat.zero_add]
  have hh := h
  unfold BlockAt at hh
  have : cs[j]? = some u := by rw [← Array.getElem?_toList, hl]; exact hu
  simp [World.cell?, hh, this]
theorem ownsRow_pos {W : World} {base n size : Nat} {e : TypeId} {v : Value} {xs : List Value} (h : W.ownsRow base e size v n xs) (hn : 0 < n) : ∃ g cap, v = .slice (some ⟨g, 0, none⟩) n cap ∧ base ≤ g := by
  rcases h.2 with ⟨_, h0⟩ | ⟨g, cap, cur, rfl, hb, _⟩
  · omega
  · exact ⟨g, cap, rfl, hb⟩
theorem intCells_set (ps : List Int) (j : Nat) (x : Int) : (intCells ps).set j (.int .i64 x) = intCells (ps.set j x) := by simp [intCells, List.map_set]
theorem fits_mem {a b : Int} (ha : -9223372036854775808 ≤ a) (hb : b ≤ 9223372036854775807) {ps : List Int} (h : ∀ p ∈ ps, a ≤ p ∧ p ≤ b) : ∀ p ∈ ps, -9223372036854775808 ≤ p ∧ p ≤ 9223372036854775807 := fun p hp => by have := h p hp; omega
theorem set_mem {ps : List Int} {j : Nat} {a b x : Int} (h : ∀ p ∈ ps, a ≤ p ∧ p ≤ b) (hx : a ≤ x ∧ x ≤ b) : ∀ p ∈ ps.set j x, a ≤ p ∧ p ≤ b := fun p hp => by
  rcases List.mem_or_eq_of_mem_set hp with hp | rfl
  · exact h p hp
  · exact hx
theorem legCells_set : ∀ (ls : List Leg8) (k : Nat) (x : Leg8) (v : Int), ls[k]? = some x → (legCells ls).set (k * 8) (.int .i64 v) = legCells (ls.set k ⟨v, x.f, x.t, x.d, x.m, x.c, x.g, x.y⟩)
  | [], _, _, _, h => by simp at h
  | l :: ls, 0, x, v, h => by
    simp only [List.getElem?_cons_zero, Option.some.injEq] at h
    subst h
    rfl
  | l :: ls, k + 1, x, v, h => by
    have ih := legCells_set ls k x v (by simpa using h)
    show (l.cells ++ legCells ls).set ((k + 1) * 8) _ = l.cells ++ legCells (ls.set k _)
    rw [← ih, List.set_append_right _ _ (by show 8 ≤ (k + 1) * 8; omega)]
    congr 2
    show (k + 1) * 8 - 8 = k * 8
    omega
theorem IntSrc.of_block {W : World} {B c : Nat} {ps : List Int} {cs : Array Value} (h : BlockAt W B cs 3) (hcs : cs.toList = intCells ps) : IntSrc W (.slice (some ⟨B, 0, none⟩) ps.length c) ps :=
  .inr ⟨B, 0, c, rfl, .inr h.lt, fun j u hu => by have := h.newCells hcs j u hu; rwa [addr_add] at this⟩
theorem owns_ne {W : World} {base base' n n' size size' g g' c c' : Nat} {e e' : TypeId} {xs xs' : List Value} (h : W.ownsRow base e size (.slice (some ⟨g, 0, none⟩) n c) n xs) (h' : W.ownsRow base' e' size' (.slice (some ⟨g', 0, none⟩) n' c') n' xs') (hne : e ≠ e') : g ≠ g' := by
  rcases h.2 with ⟨k, _⟩ | ⟨a, b, cur, k, _, hb, _⟩
  · simp at k
  · rcases h'.2 with ⟨k', _⟩ | ⟨a', b', cur', k', _, hb', _⟩
    · simp at k'
    · simp only [Value.slice.injEq, Option.some.injEq, Addr.mk.injEq, and_true, true_and] at k k'
      obtain ⟨rfl, rfl⟩ := k
      obtain ⟨rfl, rfl⟩ := k'
      intro heq
      subst heq
      rw [hb] at hb'
      simp only [Option.some.injEq, Obj.cells.injEq] at hb'
      exact hne hb'.2.1
theorem fits_set {ls : List Leg8} {m : Nat} {z : Leg8} {v : Int} (h : ∀ l ∈ ls, l.fits) (hz : ls[m]? = some z) (hv : -9223372036854775808 ≤ v ∧ v ≤ 9223372036854775807) : ∀ l ∈ ls.set m ⟨v, z.f, z.t, z.d, z.m, z.c, z.g, z.y⟩, l.fits := fun l hl => by
  rcases List.mem_or_eq_of_mem_set hl with hl | rfl
  · exact h l hl
  · have := h z (List.mem_of_getElem? hz)
    exact ⟨hv, this.2⟩
theorem valid_blocks (ps : List Int) (ls : List Leg8) (cs1 cs2 : Array Value) (b1 n c1 b2 m c2 : Nat) (w : World) (h1 : BlockAt w b1 cs1 3) (h2 : BlockAt w b2 cs2 23) (e1 : cs1.toList = intCells ps) (n1 : ps.length = n) (e2 : cs2.toList = legCells ls) (n2 : ls.length = m)
    (hpf : ∀ p ∈ ps, -9223372036854775808 ≤ p ∧ p ≤ 9223372036854775807) (hlf : ∀ l ∈ ls, l.fits) :
    Calls Try.prog 42 #[.agg #[.slice (some ⟨b1, 0, none⟩) n c1, .slice (some ⟨b2, 0, none⟩) m c2]] w fun e w' => e = .returned (.bool true) ∧ Below w.heap.size w w' := by
  subst n1 n2
  exact valid_true ps ls _ _ w (IntRow.of_block h1 e1) (LegRow.of_block h2 e2) hpf hlf
end Go.Proofs.Ytogofbncdggigaa
