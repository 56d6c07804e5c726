/-
  A map that counts; rows of numbers and of legs in a memory; the walk of network.Valid.
-/
import Derived.Maps.OwnOps
import Derived.Maps.Views
import Derived.LoopTactic
import Derived.Test.YtogofbncdggigaaNx
import Derived.Test.YtogofbncdggigaaNm
namespace Go.Proofs.Ytogofbncdggigaa
open Go.RowKit Go.Maps Net

theorem Try.law3 : Keyed Try.prog 3 := int_keyed Try.underlying3
theorem Try.zero3 (w : World) : (zeroValue 3).run Try.prog w = .ok (.int .i64 0) w := by kernel_rfl
theorem wf_i64 {x : Int} (h0 : -9223372036854775808 ≤ x) (h1 : x ≤ 9223372036854775807) : (Lit.int .i64 x).wf = true := WalkArith.wf_i64 (by omega)

/-- Block B is a map that holds of each number how often it stands in a list. -/
def MapCnt (W : World) (B n : Nat) (l : List Int) : Prop := ∃ D : DataW Unit, W.ownsMap Try.prog 3 (plainElem Try.prog 3) B n D ∧ IsMap D ∧ ∀ x : Int, D.atKey (.int .i64 x) (.lit (.int .i64 0)) = .lit (.int .i64 (l.count x : Nat))
theorem MapCnt.lt {W : World} {B n : Nat} {l : List Int} (h : MapCnt W B n l) : B < W.heap.size := by obtain ⟨D, h, _⟩ := h; exact h.lt
theorem MapCnt.kept {W W' : World} {row : Option Nat} {B n : Nat} {l : List Int} (h : MapCnt W B n l) (hg : W.grownBy W' row) (hne : some B ≠ row) : MapCnt W' B n l := by
  obtain ⟨D, h, h2⟩ := h; exact ⟨D, h.kept hg hne, h2⟩
theorem MapCnt.below {W W' : World} {B n : Nat} {l : List Int} (h : MapCnt W B n l) (hb : Below W.heap.size W W') : MapCnt W' B n l := h.kept (below_grown hb) (by simp)
theorem MapCnt.alloc {W : World} {B n : Nat} {l : List Int} (h : MapCnt W B n l) (o : Obj) : MapCnt (W.alloc o) B n l := h.kept (World.grownBy_alloc W o none) (by simp)
theorem MapCnt.made (W : World) : MapCnt (W.alloc (.map #[] 0)) W.heap.size 0 [] := ⟨.map [], World.ownsMap_made _ _ _ _, ⟨[], rfl⟩, fun x => by simp [DataW.atKey]⟩
theorem MapCnt.run {W : World} {B n : Nat} {l : List Int} (h : MapCnt W B n l) {key : Int} (hwf : (Lit.int .i64 key).wf = true) {c : Nat} (hc : l.count key = c) :
    (Instr.lookup 69 (.map (some B)) (.int .i64 key) false).run Try.prog W = .ok (.int .i64 (c : Nat)) W := by
  obtain ⟨D, ho, _, hD⟩ := h
  obtain ⟨c', hrun, hat, _⟩ := ho.lookup_int (t := 69) Try.law3 Try.underlying69 Try.underlying3 (Try.zero3 _) (keyOf_int_mk Try.underlying3 hwf)
  rw [hD, hc] at hat
  cases hat
  exact hrun
theorem look_cnt (w : World) {ops : Array Oper} {rest : List Oper} {o : Oper} {a : Act} {Q : Exit → Act → World → Prop} (hg : o.guard = none) (m x : Operand) (hop : o.op = Op.lookup 69 m x false)
    (B n : Nat) (l : List Int) (hm : a.eval m = .map (some B)) (h : MapCnt w B n l) (key : Int) (hx : a.eval x = .int .i64 key) (hwf : (Lit.int .i64 key).wf = true) (c : Nat) (hc : l.count key = c)
    (hK : wpList Try.prog ops Q rest (a.put o.dst (.int .i64 (c : Nat))) w) : wpList Try.prog ops Q (o :: rest) a w := by
  obtain ⟨D, ho, _, hD⟩ := h
  refine wpList_lookup_own_int _ hg _ _ 69 hop 3 3 .i64 Try.law3 Try.underlying69 Try.underlying3 (Try.zero3 _) B n D hm ho _ _ hx (keyOf_int_mk Try.underlying3 hwf) ?_
  intro c' hat _
  rw [hD, hc] at hat
  cases hat
  exact hK
theorem put_cnt (w : World) {ops : Array Oper} {rest : List Oper} {o : Oper} {a : Act} {Q : Exit → Act → World → Prop} (hg : o.guard = none) (m x v : Operand) (hop : o.op = Op.mapUpdate 69 m x v)
    (B n : Nat) (l : List Int) (hm : a.eval m = .map (some B)) (h : MapCnt w B n l) (hn : n < maxLen) (key val : Int) (hx : a.eval x = .int .i64 key) (hv : a.eval v = .int .i64 val) (hwf : (Lit.int .i64 key).wf = true) (hwv : (Lit.int .i64 val).wf = true)
    (hc : val = (l.count key : Nat) + 1)
    (hK : ∀ w', MapCnt w' B (n + 1) (l ++ [key]) → w.grownBy w' (some B) → wpList Try.prog ops Q rest (a.put o.dst undef) w') : wpList Try.prog ops Q (o :: rest) a w := by
  obtain ⟨D, ho, hI, hD⟩ := h
  refine wpList_mapUpdate_own _ hg _ _ _ 69 hop 3 3 Try.law3 Try.underlying69 _ B n D hm ho hn _ _ _ hx hv (keyOf_int_mk Try.underlying3 hwf) _ [] (plainElem_int Try.underlying3 hwv) ?_
  intro w' ho' hgr
  refine hK w' ⟨_, ho', ?_, fun z => ?_⟩ hgr
  · obtain ⟨es, rfl⟩ := hI; exact ⟨_, rfl⟩
  · by_cases e : z = key
    · subst e
      rw [atKey_put_same hI (by trivial), List.count_append]
      simp [hc]
    · rw [atKey_put_other (by intro h; cases h; exact e rfl), hD, List.count_append]
      have : List.count z [key] = 0 := by simp [List.count_eq_zero, e]
      rw [this]
      rfl

/-- A slice of numbers, as it lies. -/
def IntRow (W : World) (v : Value) (ps : List Int) : Prop := ∃ p cap, v = .slice p ps.length cap ∧ (ps = [] ∨ ∃ b o, p = some ⟨b, o, none⟩ ∧ b < W.heap.size ∧ ∀ k x, ps[k]? = some x → W.cell? ⟨b, o + k, none⟩ = some (.int .i64 x))
/-- A slice of legs, as it lies. -/
def LegRow (W : World) (v : Value) (ls : List Leg8) : Prop := ∃ p cap, v = .slice p ls.length cap ∧ (ls = [] ∨ ∃ b o, p = some ⟨b, o, none⟩ ∧ b < W.heap.size ∧ ∀ k (x : Leg8), ls[k]? = some x →
  W.cell? ⟨b, o + k * 8, none⟩ = some (.int .i64 x.i) ∧ W.cell? ⟨b, o + k * 8 + 1, none⟩ = some (.int .i64 x.f) ∧ W.cell? ⟨b, o + k * 8 + 2, none⟩ = some (.int .i64 x.t) ∧ W.cell? ⟨b, o + k * 8 + 3, none⟩ = some (.int .i64 x.d) ∧
  W.cell? ⟨b, o + k * 8 + 4, none⟩ = some (.int .i64 x.m) ∧ W.cell? ⟨b, o + k * 8 + 5, none⟩ = some (.int .i64 x.c) ∧ W.cell? ⟨b, o + k * 8 + 6, none⟩ = some (.int .i64 x.g) ∧ W.cell? ⟨b, o + k * 8 + 7, none⟩ = some (.int .u8 x.y))
theorem IntRow.below {B : Nat} {W W' : World} {v : Value} {ps : List Int} (h : IntRow W v ps) (hB : W.heap.size ≤ B) (hb : Below B W W') : IntRow W' v ps := by
  obtain ⟨p, cap, rfl, h⟩ := h
  refine ⟨p, cap, rfl, h.imp id ?_⟩
  rintro ⟨b, o, rfl, hlt, hc⟩
  exact ⟨b, o, rfl, Nat.lt_of_lt_of_le hlt hb.size, fun k x hx => (hb.cell (p := ⟨b, o + k, none⟩) (Nat.lt_of_lt_of_le hlt hB)).trans (hc k x hx)⟩
theorem LegRow.below {B : Nat} {W W' : World} {v : Value} {ls : List Leg8} (h : LegRow W v ls) (hB : W.heap.size ≤ B) (hb : Below B W W') : LegRow W' v ls := by
  obtain ⟨p, cap, rfl, h⟩ := h
  refine ⟨p, cap, rfl, h.imp id ?_⟩
  rintro ⟨b, o, rfl, hlt, hc⟩
  have hl : b < B := Nat.lt_of_lt_of_le hlt hB
  have hk : ∀ j, W'.cell? ⟨b, j, none⟩ = W.cell? ⟨b, j, none⟩ := fun j => hb.cell (p := ⟨b, j, none⟩) hl
  refine ⟨b, o, rfl, Nat.lt_of_lt_of_le hlt hb.size, fun k x hx => ?_⟩
  rw [hk, hk, hk, hk, hk, hk, hk, hk]
  exact hc k x hx

set_option maxRecDepth 100000 in
set_option maxHeartbeats 8000000 in
theorem valid_any (ps : List Int) (ls : List Leg8) (pv lv : Value) (w : World) (hp : IntRow w pv ps) (hl : LegRow w lv ls) (hpf : ∀ p ∈ ps, -9223372036854775808 ≤ p ∧ p ≤ 9223372036854775807) (hlf : ∀ l ∈ ls, l.fits) :
    Calls Try.prog 24 #[.agg #[pv, lv]] w fun e w' => ∃ r, ValidIs ps ls r ∧ e = .returned (.int .i64 r) ∧ Below w.heap.size w w' := by
  have hmm := @run_makeMap Try.prog
  obtain ⟨pp, pc, rfl, hp⟩ := hp
  obtain ⟨lp, lc, rfl, hl⟩ := hl
  go_enter Try.func24, Try.ntmps24
  have b0 : BlockAt (w.alloc (.cells #[.slice pp ps.length pc, .slice lp ls.length lc] 42)) w.heap.size #[.slice pp ps.length pc, .slice lp ls.length lc] 42 := BlockAt.new w _ 42
  by_cases hm1 : 50 < ps.length
  · have hm1i : (50 : Int) < (ps.length : Int) := by omega
    go_wp2
    go_ret
    exact ⟨_, .many (.inl hm1), rfl, (Below.refl _ w).alloc (Nat.le_refl _) _⟩
  · by_cases hm2 : 200 < ls.length
    · have hm1i : ¬ (50 : Int) < (ps.length : Int) := by omega
      have hm2i : (200 : Int) < (ls.length : Int) := by omega
      go_wp2
      go_ret
      exact ⟨_, .many (.inr hm2), rfl, (Below.refl _ w).alloc (Nat.le_refl _) _⟩
    · have hm1i : (ps.length : Int) ≤ 50 := by omega
      have hm2i : (ls.length : Int) ≤ 200 := by omega
      go_wp2_with fail
      have hB0 : Below w.heap.size w (((w.alloc (.cells #[.slice pp ps.length pc, .slice lp ls.length lc] 42)).alloc (.map #[] 0)).alloc (.map #[] 0)) := (((Below.refl _ w).alloc (Nat.le_refl _) _).alloc (by simp) _).alloc (by simp; omega) _
      go_loopw [24] (fun iv wr => ∃ k : Nat, iv = .int .i64 k ∧ k ≤ ps.length ∧ PlantsOk (ps.take k) ∧ MapCnt wr (w.heap.size + 1) k (ps.take k) ∧ MapCnt wr (w.heap.size + 2) 0 [] ∧ BlockAt wr w.heap.size #[.slice pp ps.length pc, .slice lp ls.length lc] 42 ∧ Below w.heap.size w wr)
        (fun iv _ => ps.length - (intOf iv).toNat)
      case atStart => exact ⟨0, rfl, Nat.zero_le _, plants_start, by simpa using (MapCnt.made (w.alloc (.cells #[.slice pp ps.length pc, .slice lp ls.length lc] 42))).alloc (.map #[] 0), by simpa using MapCnt.made ((w.alloc (.cells #[.slice pp ps.length pc, .slice lp ls.length lc] 42)).alloc (.map #[] 0)), (b0.alloc _).alloc _, hB0⟩
      case round =>
        obtain ⟨k, rfl, hk, hok, hm1, hm2, hn, yB⟩ := hrel
        have v1 := hm1.lt
        have v2 := hm2.lt
        by_cases hlt : k < ps.length
        · obtain ⟨x, hx⟩ : ∃ x, ps[k]? = some x := ⟨ps[k], List.getElem?_eq_getElem hlt⟩
          have hxf := hpf x (List.mem_of_getElem? hx)
          obtain ⟨b, o, rfl, hb, hc⟩ : ∃ b o, pp = some ⟨b, o, none⟩ ∧ b < w.heap.size ∧ ∀ k x, ps[k]? = some x → w.cell? ⟨b, o + k, none⟩ = some (.int .i64 x) := by
            rcases hp with rfl | h
            · simp at hlt
            · exact h
          have kx := (yB.cell (p := ⟨b, o + k, none⟩) hb).trans (hc k x hx)
          have hwf : (Lit.int .i64 x).wf = true := wf_i64 hxf.1 hxf.2
          have hcl : (ps.take k).count x ≤ k := by have := List.count_le_length (a := x) (l := ps.take k); simp at this; omega
          have Hx := Lib.hid hx
          have Hok := Lib.hid hok
          clear hx hok hp hl hc hpf hlf
          obtain ⟨c, hcc⟩ : ∃ c, (ps.take k).count x = c := ⟨_, rfl⟩
          rw [hcc] at hcl
          have HC := Lib.hid hcc
          have hcc2 : Hid ((ps.take k ++ [x]).count x = c + 1) := Lib.hid (by rw [List.count_append, HC.out]; simp)
          clear hcc
          have hlti : (k : Int) < (ps.length : Int) := by omega
          rcases (by omega : 1 ≤ c ∨ (c = 0 ∧ (x < 1 ∨ (1 ≤ x ∧ 999999 < x) ∨ (1 ≤ x ∧ x ≤ 999999)))) with h1 | ⟨rfl, h1 | ⟨h0, h1⟩ | ⟨h0, h1⟩⟩
          all_goals
            go_wp2_with (first
              | (at_lookup; refine look_cnt _ rfl _ _ rfl (w.heap.size + 1) k (ps.take k) rfl hm1 x rfl hwf _ HC.out ?_)
              | (at_lookup; refine look_cnt _ rfl _ _ rfl (w.heap.size + 1) (k + 1) (ps.take k ++ [x]) rfl hm3 x rfl hwf _ hcc2.out ?_)
              | (at_mapUpdate; refine put_cnt _ rfl _ _ _ rfl (w.heap.size + 1) k (ps.take k) rfl hm1 (by unfold maxLen; omega) x _ rfl rfl hwf (WalkArith.wf_i64 (by omega)) (by rw [HC.out] <;> first | rfl | omega) ?_; intro w3 hm3 hg3)
              | go_in)
          · go_ret
            exact ⟨_, .plant (by omega) (by omega) (plants_bad Hx.out (.inr (.inr (by rw [HC.out]; omega)))), rfl, yB.grown hg3 (by omega) (fun j hj => by cases hj; omega)⟩
          · go_ret
            exact ⟨_, .plant (by omega) (by omega) (plants_bad Hx.out (.inl h1)), rfl, yB.grown hg3 (by omega) (fun j hj => by cases hj; omega)⟩
          · go_ret
            exact ⟨_, .plant (by omega) (by omega) (plants_bad Hx.out (.inr (.inl h1))), rfl, yB.grown hg3 (by omega) (fun j hj => by cases hj; omega)⟩
          · go_roundw
            case rel => exact ⟨k + 1, by go_num, by omega, plants_step Hok.out Hx.out h0 h1 HC.out, by rw [take_snoc Hx.out]; exact hm3, hm2.kept hg3 (by simp), hn.kept hg3 (by simp), yB.grown hg3 (by omega) (fun j hj => by cases hj; omega)⟩
            case measure => simp [intOf]; omega
        · obtain rfl : k = ps.length := by omega
          rw [List.take_length] at hok hm1
          clear hpf hp b0 hB0
          obtain ⟨n0, n1, _, _⟩ := hn.two
          have vn := hn.lt
          go_wp2_with fail
          go_loopw [48] (fun iv wz => ∃ j : Nat, iv = .int .i64 j ∧ j ≤ ls.length ∧ LegsOk ps (ls.take j) ∧ MapCnt wz (w.heap.size + 1) ps.length ps ∧ MapCnt wz (w.heap.size + 2) j ((ls.take j).map Leg8.i) ∧ Below w.heap.size w wz)
            (fun iv _ => ls.length - (intOf iv).toNat)
          case atStart => exact ⟨0, rfl, Nat.zero_le _, legs_start, hm1, hm2, yB⟩
          case round =>
            have Hok := Lib.hid hok
            clear hok hm1 hm2 v1 v2 hn yB n0 n1 vn
            obtain ⟨j, rfl, hj, hls, hm1, hm2, zB⟩ := hrel
            have v1 := hm1.lt
            have v2 := hm2.lt
            by_cases hlt2 : j < ls.length
            · obtain ⟨l, hx⟩ : ∃ l, ls[j]? = some l := ⟨ls[j], List.getElem?_eq_getElem hlt2⟩
              have hxf := hlf l (List.mem_of_getElem? hx)
              obtain ⟨b, o, rfl, hb, hc⟩ : ∃ b o, lp = some ⟨b, o, none⟩ ∧ b < w.heap.size ∧ ∀ k (x : Leg8), ls[k]? = some x →
                  w.cell? ⟨b, o + k * 8, none⟩ = some (.int .i64 x.i) ∧ w.cell? ⟨b, o + k * 8 + 1, none⟩ = some (.int .i64 x.f) ∧ w.cell? ⟨b, o + k * 8 + 2, none⟩ = some (.int .i64 x.t) ∧ w.cell? ⟨b, o + k * 8 + 3, none⟩ = some (.int .i64 x.d) ∧
                  w.cell? ⟨b, o + k * 8 + 4, none⟩ = some (.int .i64 x.m) ∧ w.cell? ⟨b, o + k * 8 + 5, none⟩ = some (.int .i64 x.c) ∧ w.cell? ⟨b, o + k * 8 + 6, none⟩ = some (.int .i64 x.g) ∧ w.cell? ⟨b, o + k * 8 + 7, none⟩ = some (.int .u8 x.y) := by
                rcases hl with rfl | h
                · simp at hlt2
                · exact h
              obtain ⟨i, f, t, d, m, c, g, y⟩ := l
              obtain ⟨q0, q1, q2, q3, q4, q5, q6, q7⟩ := hc j _ hx
              obtain ⟨⟨hi0, hi1⟩, ⟨hf0, hf1⟩, ⟨ht0, ht1⟩, hy0, hy1⟩ := hxf
              dsimp only at q0 q1 q2 q3 q4 q5 q6 q7 hi0 hi1 hf0 hf1 ht0 ht1 hy0 hy1
              have kk : ∀ n, wr.cell? ⟨b, n, none⟩ = w.cell? ⟨b, n, none⟩ := fun n => zB.cell (p := ⟨b, n, none⟩) hb
              rw [← kk] at q0 q1 q2 q3 q4 q5 q6 q7
              have wfi : (Lit.int .i64 i).wf = true := wf_i64 hi0 hi1
              have wff : (Lit.int .i64 f).wf = true := wf_i64 hf0 hf1
              have wft : (Lit.int .i64 t).wf = true := wf_i64 ht0 ht1
              have hcl : ((ls.take j).map Leg8.i).count i ≤ j := by have := List.count_le_length (a := i) (l := (ls.take j).map Leg8.i); rw [List.length_map, List.length_take] at this; omega
              obtain ⟨n, hcc⟩ : ∃ n, ((ls.take j).map Leg8.i).count i = n := ⟨_, rfl⟩
              rw [hcc] at hcl
              have HC := Lib.hid hcc
              have hcc2 : Hid (((ls.take j).map Leg8.i ++ [i]).count i = n + 1) := Lib.hid (by rw [List.count_append, HC.out]; simp)
              have Hx := Lib.hid hx
              have Hls := Lib.hid hls
              obtain ⟨cf, hcf⟩ : ∃ cf, ps.count f = cf := ⟨_, rfl⟩
              obtain ⟨ct, hct⟩ : ∃ ct, ps.count t = ct := ⟨_, rfl⟩
              have HCf := Lib.hid hcf
              have HCt := Lib.hid hct
              have hw1 : wr.heap.size ≤ (wr.alloc (.cells #[.int .i64 i, .int .i64 f, .int .i64 t, .int .i64 d, .int .i64 m, .int .i64 c, .int .i64 g, .int .u8 y] 23)).heap.size := by simp
              have hlti : (j : Int) < (ls.length : Int) := by omega
              clear hcc hx hls hl hc kk hlf hcf hct
              have hcase : 1 ≤ n ∨ (n = 0 ∧ (rightB i f t d m c g y = false ∨ (rightB i f t d m c g y = true ∧ (cf = 0 ∨ (1 ≤ cf ∧ (ct = 0 ∨ 1 ≤ ct)))))) := by
                cases rightB i f t d m c g y <;> simp <;> omega
              rcases hcase with h1 | ⟨rfl, hR | ⟨hR, rfl | ⟨hf, rfl | ht⟩⟩⟩
              all_goals
                (try have hfb : ((cf : Int) == 0) = false := by rw [beq_eq_false_iff_ne]; omega)
                (try have htb : ((ct : Int) == 0) = false := by rw [beq_eq_false_iff_ne]; omega)
                go_wp2_with (first
                  | (at_lookup; refine look_cnt _ rfl _ _ rfl (w.heap.size + 2) j ((ls.take j).map Leg8.i) rfl (hm2.alloc _) i rfl wfi _ HC.out ?_)
                  | (at_lookup; refine look_cnt _ rfl _ _ rfl (w.heap.size + 2) (j + 1) ((ls.take j).map Leg8.i ++ [i]) rfl hm3 i rfl wfi _ hcc2.out ?_)
                  | (at_mapUpdate; refine put_cnt _ rfl _ _ _ rfl (w.heap.size + 2) j ((ls.take j).map Leg8.i) rfl (hm2.alloc _) (by unfold maxLen; omega) i _ rfl rfl wfi (WalkArith.wf_i64 (by omega)) (by rw [HC.out] <;> first | rfl | omega) ?_; intro w3 hm3 hg3; have hm4 := (hm1.alloc (.cells #[.int .i64 i, .int .i64 f, .int .i64 t, .int .i64 d, .int .i64 m, .int .i64 c, .int .i64 g, .int .u8 y] 23)).kept hg3 (by simp); have hl3 : LegAt w3 wr.heap.size i f t d m c g y := BlockAt.kept (t := 23) (BlockAt.new wr _ 23) hg3 (by simp; omega); obtain ⟨l0, l1, l2, l3, l4, l5, l6, l7⟩ := hl3.cells; have v3 := hl3.lt)
                  | (go_at_call 13; refine (right_any i f t d m c g y _ hy0 hy1).mono ?_; rintro e w4 ⟨rfl, hb4⟩; have hrun1 := (hm4.below hb4).run wff HCf.out; have hrun2 := (hm4.below hb4).run wft HCt.out; have hl4 : LegAt w4 wr.heap.size i f t d m c g y := BlockAt.below (t := 23) hl3 hb4; obtain ⟨r0, r1, r2, r3, r4, r5, r6, r7⟩ := hl4.cells; have v4 := hl4.lt)
                  | go_in)
              · go_ret
                exact ⟨_, .leg (by omega) (by omega) Hok.out (legs_bad Hx.out (.inr (.inr (.inr (by rw [HC.out]; omega))))), rfl, (zB.alloc (by omega) _).grown hg3 (by simp; omega) (fun j hj => by cases hj; omega)⟩
              · go_ret
                exact ⟨_, .leg (by omega) (by omega) Hok.out (legs_bad Hx.out (.inl hR)), rfl, ((zB.alloc (by omega) _).grown hg3 (by simp; omega) (fun j hj => by cases hj; omega)).trans (hb4.mono (by omega))⟩
              · go_ret
                exact ⟨_, .leg (by omega) (by omega) Hok.out (legs_bad Hx.out (.inr (.inl (List.count_eq_zero.1 HCf.out)))), rfl, ((zB.alloc (by omega) _).grown hg3 (by simp; omega) (fun j hj => by cases hj; omega)).trans (hb4.mono (by omega))⟩
              · go_ret
                exact ⟨_, .leg (by omega) (by omega) Hok.out (legs_bad Hx.out (.inr (.inr (.inl (List.count_eq_zero.1 HCt.out))))), rfl, ((zB.alloc (by omega) _).grown hg3 (by simp; omega) (fun j hj => by cases hj; omega)).trans (hb4.mono (by omega))⟩
              · have hfm : f ∈ ps := List.count_pos_iff.1 (by rw [HCf.out]; omega)
                have htm : t ∈ ps := List.count_pos_iff.1 (by rw [HCt.out]; omega)
                go_roundw
                case rel => exact ⟨j + 1, by go_num, by omega, legs_step Hls.out Hx.out hR hfm htm HC.out, hm4.below hb4, by rw [take_snoc Hx.out, List.map_append]; exact hm3.below hb4, ((zB.alloc (by omega) _).grown hg3 (by simp; omega) (fun j hj => by cases hj; omega)).trans (hb4.mono (by omega))⟩
                case measure => simp [intOf]; omega
            · go_wp2
              go_ret
              exact ⟨_, .ok (by omega) (by omega) Hok.out (by rw [show j = ls.length from by omega, List.take_length] at hls; exact hls), rfl, zB⟩
end Go.Proofs.Ytogofbncdggigaa
