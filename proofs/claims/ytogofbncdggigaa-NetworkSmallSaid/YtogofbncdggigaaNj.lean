/-
  The walk of network.List.
-/
import Derived.Test.YtogofbncdggigaaNf
import Derived.Test.YtogofbncdggigaaNv
import Derived.Test.YtogofbncdggigaaNl
import Derived.Deep.RegionWith
import Derived.WalkSmall
import Derived.RowKit3
namespace Go.Proofs.Ytogofbncdggigaa
open Go.RowKit Go.Shelf Net
attribute [local go_sem] Oper.semAt_some

/-- The cells of a list of departures. -/
def depCells (d m : Int) (ds : List Int) : List Value := ds.flatMap fun k => [.int .i64 (1440 * k + d), .int .i64 (1440 * k + d + m)]
theorem depCells_snoc (d m : Int) (ds : List Int) (k : Int) : depCells d m (ds ++ [k]) = depCells d m ds ++ [.int .i64 (1440 * k + d), .int .i64 (1440 * k + d + m)] := by simp [depCells]

def ListPost (on : Int → Bool) (d m a b : Int) (w : World) (e : Ending) (w' : World) : Prop :=
  ∃ ds, IsList on d a b ds ∧ ((ds.length ≤ 1000 ∧ ∃ v, e = .returned (.tuple #[v, .int .i64 0]) ∧ w'.ownsRow w.heap.size 28 2 v ds.length (depCells d m ds)) ∨ (1000 < ds.length ∧ e = .returned (.tuple #[.slice none 0 0, .int .i64 5]))) ∧ Below w.heap.size w w'

theorem ownFrom_or {β : Type} {B : Nat} {I I' : β → World → Prop} (h : OwnFrom B I) (h' : OwnFrom B I') : OwnFrom B (fun s W => I s W ∨ I' s W) := fun s W W' row hs hg hr =>
  hs.elim (fun x => .inl (h s W W' row x hg hr)) (fun x => .inr (h' s W W' row x hg hr))
theorem BlockAt.not_row {W : World} {B : Nat} {cs : Array Value} {t e : TypeId} (h : BlockAt W B cs t) (hte : t ≠ e) {base size k : Nat} {v : Value} {xs : List Value} (hr : W.ownsRow base e size v k xs) : some B ≠ v.ownBlock := by
  rcases hr.2 with ⟨rfl, _⟩ | ⟨g, cap, cur, rfl, _, hgb, _⟩
  · simp [Value.ownBlock]
  · intro e'
    obtain rfl : B = g := by simpa [Value.ownBlock] using e'
    rw [show W.heap[B]? = _ from h] at hgb
    simp only [Option.some.injEq, Obj.cells.injEq] at hgb
    exact hte hgb.2.1
/-- A block of another type behind an append and the store of the slice. -/
theorem BlockAt.appended {W w1 : World} {n₀ B B' : Nat} {cs : Array Value} {t e : TypeId} {size k : Nat} {v v' : Value} {xs : List Value} {tmp : Obj} (h : BlockAt W B' cs t) (hte : t ≠ e) (hrow : W.ownsRow n₀ e size v k xs)
    (hgrow : (W.alloc tmp).grownBy w1 v.ownBlock) (hne : B' ≠ B) : BlockAt (w1.setCell ⟨B, 0, none⟩ v') B' cs t :=
  ((h.alloc tmp).kept hgrow (h.not_row hte hrow)).other hne v'
theorem ownsRow_form {W : World} {base n size : Nat} {e : TypeId} {v : Value} {xs : List Value} (h : W.ownsRow base e size v n xs) : ∃ p cap, v = .slice p n cap := by
  rcases h.2 with ⟨rfl, rfl⟩ | ⟨g, cap, cur, rfl, _⟩
  · exact ⟨_, _, rfl⟩
  · exact ⟨_, _, rfl⟩

theorem Try.info28 : (Try.prog.info? 28).map (fun i => (i.zero, i.size, i.bytes)) = some (some (.agg #[.int .i64 0, .int .i64 0]), 2, 16) := by kernel_rfl

set_option maxRecDepth 100000 in
set_option maxHeartbeats 8000000 in
theorem list_right (i f t d m c g y a b : Int) (w : World) (hy0 : 0 ≤ y) (hy1 : y ≤ 255) (hr : rightB i f t d m c g y = true) :
    Calls Try.prog 18 #[.agg #[.int .i64 i, .int .i64 f, .int .i64 t, .int .i64 d, .int .i64 m, .int .i64 c, .int .i64 g, .int .u8 y], .int .i64 a, .int .i64 b] w (ListPost (onB i f t d m c g y) d m a b w) := by
  have hlaw := onLaw hr
  obtain ⟨i0, hi, hi0, hi1, hi2⟩ := info_parts Try.info28
  obtain ⟨_, _, _, _, _, _, _, _, _, _, _, _, _, _, _, _, _⟩ := rightB_iff.1 hr
  obtain ⟨hn0, hn1⟩ := near_bd a
  obtain ⟨hn2, hn3⟩ := near_bd b
  refine (callsIn_wide (n := 3)).1 ?_
  refine callsIn_of_wp_marks Try.func18 rfl trivial ?_ rfl
  simp only [Try.ntmps18, List.size_toArray, List.length_cons, List.length_nil, Nat.reduceAdd, Nat.reduceSub, Array.replicate_succ, Array.replicate_zero, List.push_toArray, List.append_toArray, List.nil_append, List.cons_append]
  gi_wp2_with (refine ⟨trivial, ?_⟩; gi_at_call 13; refine (callsIn_wide.2 (right_any i f t d m c g y _ hy0 hy1)).mono ?_; rintro e w1 ⟨rfl, hb1⟩; have hz : w.heap.size + 4 < w1.heap.size := (by have := hb1.size; simp at this; omega); have hz0 : w.heap.size < w1.heap.size := (by omega))
  have e1 : BlockAt w1 (w.heap.size + 1) #[.int .i64 a] 3 := by
    refine BlockAt.below ?_ hb1
    have := (((BlockAt.new (w.alloc (.cells #[.int .i64 i, .int .i64 f, .int .i64 t, .int .i64 d, .int .i64 m, .int .i64 c, .int .i64 g, .int .u8 y] 23)) #[.int .i64 a] 3).alloc (.cells #[.int .i64 b] 3)).alloc (.cells #[.slice none 0 0] 33)).alloc (.cells #[.int .i64 0] 34)
    simpa using this
  have e2 : BlockAt w1 (w.heap.size + 2) #[.int .i64 b] 3 := by
    refine BlockAt.below ?_ hb1
    have := ((BlockAt.new ((w.alloc (.cells #[.int .i64 i, .int .i64 f, .int .i64 t, .int .i64 d, .int .i64 m, .int .i64 c, .int .i64 g, .int .u8 y] 23)).alloc (.cells #[.int .i64 a] 3)) #[.int .i64 b] 3).alloc (.cells #[.slice none 0 0] 33)).alloc (.cells #[.int .i64 0] 34)
    simpa using this
  have e3 : BlockAt w1 (w.heap.size + 3) #[.slice none 0 0] 33 := by
    refine BlockAt.below ?_ hb1
    have := (BlockAt.new (((w.alloc (.cells #[.int .i64 i, .int .i64 f, .int .i64 t, .int .i64 d, .int .i64 m, .int .i64 c, .int .i64 g, .int .u8 y] 23)).alloc (.cells #[.int .i64 a] 3)).alloc (.cells #[.int .i64 b] 3)) #[.slice none 0 0] 33).alloc (.cells #[.int .i64 0] 34)
    simpa using this
  have e4 : BlockAt w1 (w.heap.size + 4) #[.int .i64 0] 34 := by
    refine BlockAt.below ?_ hb1
    have := BlockAt.new ((((w.alloc (.cells #[.int .i64 i, .int .i64 f, .int .i64 t, .int .i64 d, .int .i64 m, .int .i64 c, .int .i64 g, .int .u8 y] 23)).alloc (.cells #[.int .i64 a] 3)).alloc (.cells #[.int .i64 b] 3)).alloc (.cells #[.slice none 0 0] 33)) #[.int .i64 0] 34
    simpa using this
  have e0 : LegAt w1 w.heap.size i f t d m c g y := by
    refine BlockAt.below (t := 23) ?_ hb1
    exact ((((BlockAt.new w #[.int .i64 i, .int .i64 f, .int .i64 t, .int .i64 d, .int .i64 m, .int .i64 c, .int .i64 g, .int .u8 y] 23).alloc _).alloc _).alloc _).alloc _
  have hB1 : Below w.heap.size w w1 := by
    have h0 : Below w.heap.size w (((((w.alloc (.cells #[.int .i64 i, .int .i64 f, .int .i64 t, .int .i64 d, .int .i64 m, .int .i64 c, .int .i64 g, .int .u8 y] 23)).alloc (.cells #[.int .i64 a] 3)).alloc (.cells #[.int .i64 b] 3)).alloc (.cells #[.slice none 0 0] 33)).alloc (.cells #[.int .i64 0] 34)) := (((((Below.refl _ w).alloc (Nat.le_refl _) _).alloc (by simp) _).alloc (by simp; omega) _).alloc (by simp; omega) _).alloc (by simp; omega) _
    exact h0.trans (hb1.mono (by simp; omega))
  clear hb1
  obtain ⟨q1, q2⟩ := e1.one
  obtain ⟨q3, q4⟩ := e2.one
  refine wpIn_mono (Q := Exit.then (fun a' w' => a' = { tmps := #[.agg #[.int .i64 i, .int .i64 f, .int .i64 t, .int .i64 d, .int .i64 m, .int .i64 c, .int .i64 g, .int .u8 y], .int .i64 a, .int .i64 b, .pointer (some ⟨w.heap.size, 0, none⟩), .pointer (some ⟨w.heap.size + 1, 0, none⟩), .pointer (some ⟨w.heap.size + 2, 0, none⟩), .pointer (some ⟨w.heap.size + 3, 0, none⟩), .pointer (some ⟨w.heap.size + 4, 0, none⟩), undef, undef, .agg #[.int .i64 i, .int .i64 f, .int .i64 t, .int .i64 d, .int .i64 m, .int .i64 c, .int .i64 g, .int .u8 y], .bool true, .bool false, .int .i64 a, .int .i64 (nearI a), .int .i64 b, .int .i64 (nearI b), undef, undef, undef, undef, undef, undef, undef, undef, undef, undef, undef, undef, undef, undef, undef, undef, undef, undef, undef, undef, undef], defers := [] } ∧ w' = ((w1.setCell ⟨w.heap.size + 1, 0, none⟩ (.int .i64 (nearI a))).setCell ⟨w.heap.size + 2, 0, none⟩ (.int .i64 (nearI b))).drew) (fun _ _ _ => False)) ?reg ?rest
  case reg =>
    refine wpIn_wide.2 ?_
    go_region_with (go_at_call 33; refine (near_any _ _).mono ?_; rintro e w' ⟨rfl, rfl⟩)
    all_goals exact ⟨rfl, rfl⟩
  case rest =>
    intro e a1 W1 hK1
    cases e with
    | normal =>
      obtain ⟨rfl, rfl⟩ := hK1
      clear q1 q2 q3 q4
      obtain ⟨W, hW⟩ : ∃ W, ((w1.setCell ⟨w.heap.size + 1, 0, none⟩ (.int .i64 (nearI a))).setCell ⟨w.heap.size + 2, 0, none⟩ (.int .i64 (nearI b))).drew = W := ⟨_, rfl⟩
      have b0 : LegAt W w.heap.size i f t d m c g y := by rw [← hW]; exact BlockAt.other (t := 23) (BlockAt.other (t := 23) e0 (by omega) _) (by omega) _
      have b1 : BlockAt W (w.heap.size + 1) #[.int .i64 (nearI a)] 3 := by rw [← hW]; exact (e1.set1 _).other (by omega) _
      have b2 : BlockAt W (w.heap.size + 2) #[.int .i64 (nearI b)] 3 := by rw [← hW]; exact BlockAt.set1 (e2.other (by omega) _) _
      have b3 : BlockAt W (w.heap.size + 3) #[.slice none 0 0] 33 := by rw [← hW]; exact (e3.other (by omega) _).other (by omega) _
      have b4 : BlockAt W (w.heap.size + 4) #[.int .i64 0] 34 := by rw [← hW]; exact (e4.other (by omega) _).other (by omega) _
      have hB : Below w.heap.size w W := by rw [← hW]; exact ((hB1.setCell (p := ⟨w.heap.size + 1, 0, none⟩) (by simp) _).setCell (p := ⟨w.heap.size + 2, 0, none⟩) (by simp) _).drew
      have hszW : W.heap.size = w1.heap.size := by rw [← hW]; simp
      rw [hW]
      clear hW e0 e1 e2 e3 e4 hB1
      have HszW := Lib.hid hszW
      clear hszW
      obtain ⟨hl0, hl1, hl2, hl3, hl4, hl5, hl6, hl7⟩ := b0.cells
      obtain ⟨hcw, _⟩ := b1.one
      have hdy : ∃ dy s : Int, ((0 ≤ nearI a ∧ nearI a / 1440 = dy) ∨ (nearI a < 0 ∧ (nearI a).tdiv 1440 = dy)) ∧ dy ≤ 800000 ∧ -15 ≤ dy ∧ ((0 ≤ dy ∧ s = dy) ∨ (dy < 0 ∧ s = 0)) ∧ (s = 0 ∨ 1440 * s ≤ nearI a) := by
        by_cases h0 : 0 ≤ nearI a
        · exact ⟨_, nearI a / 1440, .inl ⟨h0, rfl⟩, by omega, by omega, by omega, by omega⟩
        · have := tdiv_bd (nearI a) (by omega) (by omega)
          exact ⟨_, 0, .inr ⟨by omega, rfl⟩, by omega, by omega, by omega, by omega⟩
      obtain ⟨dy, s, hdy, hdy1, hdy2, hs1, hs2⟩ := hdy
      rcases hdy with ⟨hneg, hdy⟩ | ⟨hneg, hdy⟩
      all_goals
        have hz2 : w.heap.size < W.heap.size := by rw [HszW.out]; omega
        have hz3 : w.heap.size + 1 < W.heap.size := by rw [HszW.out]; omega
        gi_wp2_with (refine ⟨trivial, ?_⟩; gi_at_call 34; refine (callsIn_wide.2 (from_any i f t d m c g y _ _)).mono ?_; rintro e w' ⟨rfl, rfl⟩)
        clear hl0 hl1 hl2 hl3 hl4 hl5 hl6 hl7 hcw hdy hz2 hz3
        have hszW := HszW.out
        have c0 : Boxed (((W.alloc (.cells #[.slice none 0 0] 33)).alloc (.cells #[.int .i64 i, .int .i64 f, .int .i64 t, .int .i64 d, .int .i64 m, .int .i64 c, .int .i64 g, .int .u8 y] 23)).alloc (.cells #[.int .i64 dy] 3)) w1.heap.size 33 (.slice none 0 0) := by
          have := ((Boxed.new W 33 (.slice none 0 0)).alloc (.cells #[.int .i64 i, .int .i64 f, .int .i64 t, .int .i64 d, .int .i64 m, .int .i64 c, .int .i64 g, .int .u8 y] 23)).alloc (.cells #[.int .i64 dy] 3)
          rw [hszW] at this; exact this
        have c5 : LegAt (((W.alloc (.cells #[.slice none 0 0] 33)).alloc (.cells #[.int .i64 i, .int .i64 f, .int .i64 t, .int .i64 d, .int .i64 m, .int .i64 c, .int .i64 g, .int .u8 y] 23)).alloc (.cells #[.int .i64 dy] 3)) (w1.heap.size + 1) i f t d m c g y := by
          have := (BlockAt.new (W.alloc (.cells #[.slice none 0 0] 33)) #[.int .i64 i, .int .i64 f, .int .i64 t, .int .i64 d, .int .i64 m, .int .i64 c, .int .i64 g, .int .u8 y] 23).alloc (.cells #[.int .i64 dy] 3)
          rw [World.size_alloc, hszW] at this; exact this
        have c6 : Boxed (((W.alloc (.cells #[.slice none 0 0] 33)).alloc (.cells #[.int .i64 i, .int .i64 f, .int .i64 t, .int .i64 d, .int .i64 m, .int .i64 c, .int .i64 g, .int .u8 y] 23)).alloc (.cells #[.int .i64 dy] 3)) (w1.heap.size + 1 + 1) 3 (.int .i64 dy) := by
          have := Boxed.new ((W.alloc (.cells #[.slice none 0 0] 33)).alloc (.cells #[.int .i64 i, .int .i64 f, .int .i64 t, .int .i64 d, .int .i64 m, .int .i64 c, .int .i64 g, .int .u8 y] 23)) 3 (.int .i64 dy)
          rw [World.size_alloc, World.size_alloc, hszW] at this; exact this
        have c1 := ((b1.alloc (.cells #[.slice none 0 0] 33)).alloc (.cells #[.int .i64 i, .int .i64 f, .int .i64 t, .int .i64 d, .int .i64 m, .int .i64 c, .int .i64 g, .int .u8 y] 23)).alloc (.cells #[.int .i64 dy] 3)
        have c2 := ((b2.alloc (.cells #[.slice none 0 0] 33)).alloc (.cells #[.int .i64 i, .int .i64 f, .int .i64 t, .int .i64 d, .int .i64 m, .int .i64 c, .int .i64 g, .int .u8 y] 23)).alloc (.cells #[.int .i64 dy] 3)
        have c3 := ((b3.alloc (.cells #[.slice none 0 0] 33)).alloc (.cells #[.int .i64 i, .int .i64 f, .int .i64 t, .int .i64 d, .int .i64 m, .int .i64 c, .int .i64 g, .int .u8 y] 23)).alloc (.cells #[.int .i64 dy] 3)
        have c4 := ((b4.alloc (.cells #[.slice none 0 0] 33)).alloc (.cells #[.int .i64 i, .int .i64 f, .int .i64 t, .int .i64 d, .int .i64 m, .int .i64 c, .int .i64 g, .int .u8 y] 23)).alloc (.cells #[.int .i64 dy] 3)
        have hB0 : Below w.heap.size w (((W.alloc (.cells #[.slice none 0 0] 33)).alloc (.cells #[.int .i64 i, .int .i64 f, .int .i64 t, .int .i64 d, .int .i64 m, .int .i64 c, .int .i64 g, .int .u8 y] 23)).alloc (.cells #[.int .i64 dy] 3)) := ((hB.alloc (by omega) _).alloc (by simp; omega) _).alloc (by simp; omega) _
        have hsz0 : (((W.alloc (.cells #[.slice none 0 0] 33)).alloc (.cells #[.int .i64 i, .int .i64 f, .int .i64 t, .int .i64 d, .int .i64 m, .int .i64 c, .int .i64 g, .int .u8 y] 23)).alloc (.cells #[.int .i64 dy] 3)).heap.size = w1.heap.size + 3 := by simp; omega
        rw [hszW]
        obtain ⟨W0, hW0⟩ : ∃ W0, (((W.alloc (.cells #[.slice none 0 0] 33)).alloc (.cells #[.int .i64 i, .int .i64 f, .int .i64 t, .int .i64 d, .int .i64 m, .int .i64 c, .int .i64 g, .int .u8 y] 23)).alloc (.cells #[.int .i64 dy] 3)) = W0 := ⟨_, rfl⟩
        rw [hW0] at c0 c1 c2 c3 c4 c5 c6 hB0 hsz0 ⊢
        clear hW0 hszW b1 b2 b3 b4 hB b0
        refine wpIn_rangeFunc_ownH rfl (by omega) (gf := 53) (lb := #[.pointer (some ⟨w1.heap.size + 1 + 1, 0, none⟩), .pointer (some ⟨w1.heap.size + 1, 0, none⟩)]) rfl trivial (enters_of Try.func53 (by kernel_rfl) rfl)
          (iter_stops i f t d m c g y dy s hy0 hy1 hdy1 hs1 (w1.heap.size + 1 + 1) (w1.heap.size + 1) W0 c6 c5) (fun h k => keepsLeg_t h k) (keepsLeg_b (by omega)) (Below.refl _ _) (fun _ => rfl)
          (fun (pre : List Int) W => ((((((((∀ x ∈ pre, 1440 * x + d ≤ nearI b) ∧ (keptOf d (nearI a) pre).length ≤ 1000) ∧ BlockAt W (w.heap.size + 1) #[.int .i64 (nearI a)] 3) ∧ BlockAt W (w.heap.size + 2) #[.int .i64 (nearI b)] 3) ∧ BlockAt W (w.heap.size + 3) #[.slice none 0 0] 33) ∧ BlockAt W (w.heap.size + 4) #[.int .i64 0] 34) ∧ BlockAt W (w1.heap.size + 1) #[.int .i64 i, .int .i64 f, .int .i64 t, .int .i64 d, .int .i64 m, .int .i64 c, .int .i64 g, .int .u8 y] 23) ∧ (∃ v, Boxed W w1.heap.size 33 v ∧ W.ownsRow w.heap.size 28 2 v (keptOf d (nearI a) pre).length (depCells d m (keptOf d (nearI a) pre)) ∧ Hid True)) ∧ Below w.heap.size w W)
          (fun (c' : Code) (pre : List Int) W => (((((c' = .exit 0 ∧ ∃ q k, pre = q ++ [k] ∧ nearI b < 1440 * k + d ∧ (∀ x ∈ q, 1440 * x + d ≤ nearI b) ∧ (keptOf d (nearI a) q).length ≤ 1000) ∧ BlockAt W (w.heap.size + 3) #[.slice none 0 0] 33) ∧ BlockAt W (w.heap.size + 4) #[.int .i64 0] 34) ∧ (∃ v, Boxed W w1.heap.size 33 v ∧ W.ownsRow w.heap.size 28 2 v (keptOf d (nearI a) pre.dropLast).length (depCells d m (keptOf d (nearI a) pre.dropLast)) ∧ Hid True)) ∨ (((c' = .ret ∧ ∃ q k, pre = q ++ [k] ∧ 1440 * k + d ≤ nearI b ∧ nearI a ≤ 1440 * k + d ∧ (∀ x ∈ q, 1440 * x + d ≤ nearI b) ∧ (keptOf d (nearI a) q).length = 1000) ∧ BlockAt W (w.heap.size + 3) #[.slice none 0 0] 33) ∧ BlockAt W (w.heap.size + 4) #[.int .i64 5] 34)) ∧ Below w.heap.size w W)
          (OwnFrom.and (OwnFrom.and (OwnFrom.and (OwnFrom.and (OwnFrom.and (OwnFrom.and (OwnFrom.and (ownFrom_pure _ (fun (pre : List Int) => (∀ x ∈ pre, 1440 * x + d ≤ nearI b) ∧ (keptOf d (nearI a) pre).length ≤ 1000)) (Own.from (blockAt_own _ (fun _ => _) _) _)) (Own.from (blockAt_own _ (fun _ => _) _) _)) (Own.from (blockAt_own _ (fun _ => _) _) _)) (Own.from (blockAt_own _ (fun _ => _) _) _)) (Own.from (blockAt_own _ (fun _ => _) _) _)) (Own.from (holdsRow_own w.heap.size w1.heap.size 33 28 2 (fun (pre : List Int) => (keptOf d (nearI a) pre).length) (fun (pre : List Int) => depCells d m (keptOf d (nearI a) pre)) (fun _ _ => Hid True)) _)) (ownFrom_below (Nat.le_refl _) (by omega)))
          (fun c' => OwnFrom.and (ownFrom_or (OwnFrom.and (OwnFrom.and (OwnFrom.and (ownFrom_pure _ (fun (pre : List Int) => c' = .exit 0 ∧ ∃ q k, pre = q ++ [k] ∧ nearI b < 1440 * k + d ∧ (∀ x ∈ q, 1440 * x + d ≤ nearI b) ∧ (keptOf d (nearI a) q).length ≤ 1000)) (Own.from (blockAt_own _ (fun _ => _) _) _)) (Own.from (blockAt_own _ (fun _ => _) _) _)) (Own.from (holdsRow_own w.heap.size w1.heap.size 33 28 2 (fun (pre : List Int) => (keptOf d (nearI a) pre.dropLast).length) (fun (pre : List Int) => depCells d m (keptOf d (nearI a) pre.dropLast)) (fun _ _ => Hid True)) _)) (OwnFrom.and (OwnFrom.and (ownFrom_pure _ (fun (pre : List Int) => c' = .ret ∧ ∃ q k, pre = q ++ [k] ∧ 1440 * k + d ≤ nearI b ∧ nearI a ≤ 1440 * k + d ∧ (∀ x ∈ q, 1440 * x + d ≤ nearI b) ∧ (keptOf d (nearI a) q).length = 1000)) (Own.from (blockAt_own _ (fun _ => _) _) _)) (Own.from (blockAt_own _ (fun _ => _) _) _))) (ownFrom_below (Nat.le_refl _) (by omega)))
          ⟨⟨⟨⟨⟨⟨⟨⟨fun x hx => (by cases hx), by simp [keptOf]⟩, c1⟩, c2⟩, c3⟩, c4⟩, c5⟩, ⟨_, c0, World.ownsRow_nil _ _ _ _, Lib.hid trivial⟩⟩, hB0⟩
          (fun k a' W => ∃ Bx, w1.heap.size + 1 < Bx ∧ BlockAt W Bx #[.int .i64 (1440 * k + d), .int .i64 (1440 * k + d + m)] 28 ∧ a' = { tmps := #[.agg #[.int .i64 i, .int .i64 f, .int .i64 t, .int .i64 d, .int .i64 m, .int .i64 c, .int .i64 g, .int .u8 y], .int .i64 a, .int .i64 b, .pointer (some ⟨w.heap.size, 0, none⟩), .pointer (some ⟨w.heap.size + 1, 0, none⟩), .pointer (some ⟨w.heap.size + 2, 0, none⟩), .pointer (some ⟨w.heap.size + 3, 0, none⟩), .pointer (some ⟨w.heap.size + 4, 0, none⟩), .pointer (some ⟨w1.heap.size, 0, none⟩), .pointer (some ⟨Bx, 0, none⟩), .agg #[.int .i64 i, .int .i64 f, .int .i64 t, .int .i64 d, .int .i64 m, .int .i64 c, .int .i64 g, .int .u8 y], .bool true, .bool false, .int .i64 a, .int .i64 (nearI a), .int .i64 b, .int .i64 (nearI b), .agg #[.int .i64 i, .int .i64 f, .int .i64 t, .int .i64 d, .int .i64 m, .int .i64 c, .int .i64 g, .int .u8 y], .int .i64 (nearI a), .int .i64 dy, .func (.func 53) #[] #[.pointer (some ⟨w1.heap.size + 1 + 1, 0, none⟩), .pointer (some ⟨w1.heap.size + 1, 0, none⟩)], .agg #[.int .i64 (1440 * k + d), .int .i64 (1440 * k + d + m)], undef, undef, undef, undef, undef, undef, undef, undef, undef, undef, undef, undef, undef, undef, undef, undef], defers := [] })
          (fun k a' _ X Y row hs hg hr => by obtain ⟨Bx, h1, h2, h3⟩ := hs; exact ⟨Bx, h1, blockAt_own Bx (fun (_ : Unit) => #[.int .i64 (1440 * k + d), .int .i64 (1440 * k + d + m)]) 28 () X Y row h2 hg (fun r e => (hr r e).2), h3⟩)
          ?assign ?body ?done ?stop
        case assign =>
          rintro l pre k X K ⟨⟨⟨⟨⟨⟨⟨hq, x1⟩, x2⟩, x3⟩, x4⟩, x5⟩, ⟨v, xv, xo, _⟩⟩, hX⟩ hK
          dsimp only [encDep]
          gi_wp2
          have hlt5 := x5.lt
          exact hK _ _ ((KeepsOthers.alloc _ _).from _) (Below.heap_alloc X _ _ x5.lt) ⟨⟨⟨⟨⟨⟨⟨hq, x1.alloc _⟩, x2.alloc _⟩, x3.alloc _⟩, x4.alloc _⟩, x5.alloc _⟩, ⟨v, xv.alloc _, xo.alloc _, Lib.hid trivial⟩⟩, hX.alloc (by omega) _⟩ ⟨X.heap.size, x5.lt, BlockAt.new X _ 28, rfl⟩
        case body =>
          rintro l pre k a' X hl ⟨r, hr'⟩ ⟨⟨⟨⟨⟨⟨⟨⟨hq, hq2⟩, x1⟩, x2⟩, x3⟩, x4⟩, x5⟩, ⟨v, xv, xo, _⟩⟩, hX⟩ ⟨Bx, hBx, bX, rfl⟩ hlt
          have hlt5 := x5.lt
          obtain ⟨q1, q2⟩ := x1.one
          obtain ⟨q3, q4⟩ := x2.one
          obtain ⟨q5, q6⟩ := x3.one
          obtain ⟨q7, q8⟩ := x4.one
          obtain ⟨q9, q10, q11, q12⟩ := bX.two
          obtain ⟨p, cp, rfl⟩ := ownsRow_form xo
          have hc := xv.cell
          have hcf := xv.frozen
          by_cases hb1 : nearI b < 1440 * k + d
          · gi_wp2
            exact ⟨KeepsFrom.refl _ _, .inl ⟨⟨⟨⟨rfl, pre, k, rfl, hb1, hq, hq2⟩, x3⟩, x4⟩, ⟨_, xv, by rw [List.dropLast_concat]; exact xo, Lib.hid trivial⟩⟩, hX⟩
          · have hall : ∀ x ∈ pre ++ [k], 1440 * x + d ≤ nearI b := by
              intro x hx
              rcases List.mem_append.1 hx with hx | hx
              · exact hq x hx
              · obtain rfl := List.mem_singleton.1 hx
                omega
            by_cases ha1 : 1440 * k + d < nearI a
            · gi_wp2
              exact ⟨KeepsFrom.refl _ _, rfl, ⟨⟨⟨⟨⟨⟨⟨hall, by rw [keptOf_miss _ ha1]; exact hq2⟩, x1⟩, x2⟩, x3⟩, x4⟩, x5⟩, ⟨_, xv, by rw [keptOf_miss _ ha1]; exact xo⟩⟩, hX⟩
            · have ha2 : nearI a ≤ 1440 * k + d := by omega
              by_cases hlen : (keptOf d (nearI a) pre).length = 1000
              · have hL : (((keptOf d (nearI a) pre).length : Int) == 1000) = true := by rw [beq_iff_eq]; omega
                have Hall := Lib.hid hall
                have Hlen := Lib.hid hlen
                clear hall hlen
                gi_wp2
                exact ⟨(((KeepsOthers.setCell _ _ _).trans (KeepsOthers.setCell _ _ _))).from _, .inr ⟨⟨⟨rfl, pre, k, rfl, by omega, ha2, hq, Hlen.out⟩, (x3.set1 _).other (by omega) _⟩, BlockAt.set1 (x4.other (by omega) _) _⟩, ((hX.setCell (p := ⟨w.heap.size + 3, 0, none⟩) (by simp) _).setCell (p := ⟨w.heap.size + 4, 0, none⟩) (by simp) _)⟩
              · have hL : (((keptOf d (nearI a) pre).length : Int) == 1000) = false := by rw [beq_eq_false_iff_ne]; omega
                have hlt2 : (keptOf d (nearI a) pre).length < 1000 := by omega
                have Hall := Lib.hid hall
                clear hall hlen
                gi_wp2_with (gi_at_builtin; (refine wpListIn_append_own _ rfl _ _ 33 rfl w.heap.size 28 i0 (.agg #[.int .i64 0, .int .i64 0]) 2 16 Try.underlying33 hi hi0 hi1 hi2 rfl (by decide) _ _ _ rfl (xo.alloc _) ⟨X.heap.size, 0, none⟩ 1 1 [.int .i64 (1440 * k + d), .int .i64 (1440 * k + d + m)] rfl rfl (cell_two_new _ _ _ _) (by simp [Value.oneCell']) (by unfold maxLen; omega) (by omega) (by have := hX.size; simp; omega) ?_); intro v' w2 hown' hgrow _; obtain ⟨g', cap', rfl⟩ := ownsRow_succ hown'; obtain ⟨hv1, hv2, hr2, hk2, hb2⟩ := xv.appended (by decide) xo hX.size (by omega) hown' hgrow; have hc1 := hv1.cell; have hf1 := hv1.frozen)
                have y5 := x5.appended (v' := .slice (some ⟨g', 0, none⟩) ((keptOf d (nearI a) pre).length + 1) cap') (by decide) xo hgrow (B := w1.heap.size) (by omega)
                exact ⟨hk2.from _, Eq.trans y5 x5.symm, ⟨⟨⟨⟨⟨⟨⟨Hall.out, by rw [keptOf_hit _ ha2, List.length_append]; simp; omega⟩, x1.appended (by decide) xo hgrow (by omega)⟩, x2.appended (by decide) xo hgrow (by omega)⟩, x3.appended (by decide) xo hgrow (by omega)⟩, x4.appended (by decide) xo hgrow (by omega)⟩, y5⟩, ⟨_, hv2, by rw [keptOf_hit _ ha2, depCells_snoc, List.length_append]; exact hr2⟩⟩, hX.trans hb2⟩
        case done =>
          rintro D ys X hD rfl ⟨⟨⟨⟨⟨⟨⟨⟨hq, hq2⟩, x1⟩, x2⟩, x3⟩, x4⟩, x5⟩, ⟨v, xv, xo, _⟩⟩, hX⟩ hK
          obtain ⟨p, cp, rfl⟩ := ownsRow_form xo
          obtain ⟨q5, q6⟩ := x3.one
          obtain ⟨q7, q8⟩ := x4.one
          have hc := xv.cell
          gi_wp2
          have hK' := (((KeepsOthers.setCell _ _ _).trans (KeepsOthers.setCell _ _ _)) : KeepsOthers X ((X.setCell ⟨w.heap.size + 3, 0, none⟩ (.slice p (keptOf d (nearI a) (depDays (onB i f t d m c g y) s)).length cp)).setCell ⟨w.heap.size + 4, 0, none⟩ (.int .i64 0))).same D _ hK rfl
          obtain ⟨p1, _⟩ := (BlockAt.putObj ((x3.set1 (.slice p (keptOf d (nearI a) (depDays (onB i f t d m c g y) s)).length cp)).other (B' := w.heap.size + 4) (j := 0) (by omega) (.int .i64 0)) hK' rfl (.deferred none)).one
          obtain ⟨p2, _⟩ := (BlockAt.putObj (BlockAt.set1 (x4.other (B' := w.heap.size + 3) (j := 0) (by omega) (.slice p (keptOf d (nearI a) (depDays (onB i f t d m c g y) s)).length cp)) (.int .i64 0)) hK' rfl (.deferred none)).one
          have xo2 := (xo.kept (grownBy_setCell2 X (w.heap.size + 3) 0 (.slice p (keptOf d (nearI a) (depDays (onB i f t d m c g y) s)).length cp)) (.inr (x3.not_row (by decide) xo).symm))
          have xo3 := (xo2.kept (grownBy_setCell2 _ (w.heap.size + 4) 0 (.int .i64 0)) (.inr ((x4.other (B' := w.heap.size + 3) (j := 0) (by omega) (.slice p (keptOf d (nearI a) (depDays (onB i f t d m c g y) s)).length cp)).not_row (by decide) xo2).symm))
          refine ⟨by simp, .inl ⟨_, _, rfl, run_takeDeferred hK', ?_⟩⟩
          exact ⟨.tuple #[.slice p (keptOf d (nearI a) (depDays (onB i f t d m c g y) s)).length cp, .int .i64 0], by simp [results, Try.results18, go_sem, p1, p2], _, list_done hlaw hs2 hq, .inl ⟨hq2, _, rfl, ownsRow_putObj xo3 _ hK' rfl⟩, (((hX.setCell (p := ⟨w.heap.size + 3, 0, none⟩) (by simp) _).setCell (p := ⟨w.heap.size + 4, 0, none⟩) (by simp) _)).trans (belowK_b (w := w) (Nat.le_refl _) _ D _ _ (by omega) hK' rfl rfl)⟩
        case stop =>
          rintro D c' pre X hD hpre ⟨(⟨⟨⟨⟨rfl, q, k, rfl, hb1, hq, hq2⟩, x3⟩, x4⟩, ⟨v, xv, xo, _⟩⟩ | ⟨⟨⟨rfl, q, k, rfl, hb1, ha1, hq, hlen⟩, x3⟩, x4⟩), hX⟩ hK
          · rw [List.dropLast_concat] at xo
            obtain ⟨p, cp, rfl⟩ := ownsRow_form xo
            obtain ⟨q5, q6⟩ := x3.one
            obtain ⟨q7, q8⟩ := x4.one
            have hc := xv.cell
            gi_wp2
            have hK' := (((KeepsOthers.setCell _ _ _).trans (KeepsOthers.setCell _ _ _)) : KeepsOthers X ((X.setCell ⟨w.heap.size + 3, 0, none⟩ (.slice p (keptOf d (nearI a) q).length cp)).setCell ⟨w.heap.size + 4, 0, none⟩ (.int .i64 0))).same D _ hK rfl
            obtain ⟨p1, _⟩ := (BlockAt.putObj ((x3.set1 (.slice p (keptOf d (nearI a) q).length cp)).other (B' := w.heap.size + 4) (j := 0) (by omega) (.int .i64 0)) hK' rfl (.deferred none)).one
            obtain ⟨p2, _⟩ := (BlockAt.putObj (BlockAt.set1 (x4.other (B' := w.heap.size + 3) (j := 0) (by omega) (.slice p (keptOf d (nearI a) q).length cp)) (.int .i64 0)) hK' rfl (.deferred none)).one
            have xo2 := (xo.kept (grownBy_setCell2 X (w.heap.size + 3) 0 (.slice p (keptOf d (nearI a) q).length cp)) (.inr (x3.not_row (by decide) xo).symm))
            have xo3 := (xo2.kept (grownBy_setCell2 _ (w.heap.size + 4) 0 (.int .i64 0)) (.inr ((x4.other (B' := w.heap.size + 3) (j := 0) (by omega) (.slice p (keptOf d (nearI a) q).length cp)).not_row (by decide) xo2).symm))
            refine ⟨by simp, .inl ⟨_, _, rfl, run_takeDeferred hK', ?_⟩⟩
            exact ⟨.tuple #[.slice p (keptOf d (nearI a) q).length cp, .int .i64 0], by simp [results, Try.results18, go_sem, p1, p2], _, list_break hlaw hs2 hpre hb1 hq, .inl ⟨hq2, _, rfl, ownsRow_putObj xo3 _ hK' rfl⟩, (((hX.setCell (p := ⟨w.heap.size + 3, 0, none⟩) (by simp) _).setCell (p := ⟨w.heap.size + 4, 0, none⟩) (by simp) _)).trans (belowK_b (w := w) (Nat.le_refl _) _ D _ _ (by omega) hK' rfl rfl)⟩
          · gi_wp2
            obtain ⟨p1, _⟩ := (x3.putObj hK rfl (.deferred none)).one
            obtain ⟨p2, _⟩ := (x4.putObj hK rfl (.deferred none)).one
            obtain ⟨ds, hds, hlong⟩ := list_many hlaw hs2 hpre hb1 ha1 hq hlen
            refine ⟨by simp, .inl ⟨_, _, rfl, run_takeDeferred hK, ?_⟩⟩
            exact ⟨.tuple #[.slice none 0 0, .int .i64 5], by simp [results, Try.results18, go_sem, p1, p2], ds, hds, .inr ⟨hlong, rfl⟩, hX.trans (belowK_b (w := w) (Nat.le_refl _) X D _ _ (by omega) hK rfl rfl)⟩
    | _ => exact hK1.elim
end Go.Proofs.Ytogofbncdggigaa
