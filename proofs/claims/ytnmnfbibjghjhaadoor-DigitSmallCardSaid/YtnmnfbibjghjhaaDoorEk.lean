/-
  The reference's walk of missed.
-/
import Derived.Test.YtnmnfbibjghjhaaDoorEj
namespace Go.Proofs.YtnmnfbibjghjhaaDoor
open Go.RowKit Dig

/-- What the reference says of an error. -/
def refMiss (k : Nat) (ws : List Nat) (sw : Bool) (p a b : Nat) : Bool := if k = 4 then false else missB k ws sw p a b
theorem set_lt {vs : List Nat} {i x m : Nat} (h : ∀ v ∈ vs, v < m) (hx : x < m) : ∀ v ∈ vs.set i x, v < m := fun v hv => by
  rcases List.mem_or_eq_of_mem_set hv with hv | rfl
  · exact h v hv
  · exact hx
theorem zeros_lt (n : Nat) : ∀ v ∈ List.replicate n 0, v < 10 := fun v hv => by rw [(List.mem_replicate.1 hv).2]; decide
theorem miss_put {k : Nat} {ws us : List Nat} {p a b : Nat} (hr : result k ws us = 0) (ha : us[p]? = some a) (h9 : k = 4 → ∀ v ∈ us, v < 10) (hb : b < 10) (hab : a < b) : (result k ws (us.set p b) == 0) = refMiss k ws false p a b := by
  unfold refMiss
  by_cases hk : k = 4
  · subst hk
    rw [if_pos rfl]
    exact put_perm (h9 rfl) hr ha hb (by omega)
  · rw [if_neg hk]
    exact put_val hk hr ha
theorem miss_swap {k : Nat} {ws us : List Nat} {p a b : Nat} (hr : result k ws us = 0) (hb' : us[p]? = some b) (ha : us[p + 1]? = some a) (h9 : k = 4 → ∀ v ∈ us, v < 10) (hab : a < b) : (result k ws ((us.set (p + 1) b).set p a) == 0) = refMiss k ws true p a b := by
  obtain ⟨A, B, hA, rfl⟩ := two_split p us b a hb' ha
  have e : ((A ++ b :: a :: B).set (p + 1) b).set p a = A ++ a :: b :: B := by
    rw [← hA]
    simp
  rw [e]
  unfold refMiss
  by_cases hk : k = 4
  · subst hk
    rw [if_pos rfl]
    exact swap_perm (h9 rfl) hr (by omega)
  · rw [if_neg hk, ← hA]
    exact swap_val hk hr

theorem box_four {W : World} {B : Nat} {a b c d : Value} {t : TypeId} (h : BlockAt W B #[a, b, c, d] t) : W.cell? ⟨B, 0, none⟩ = some a ∧ W.cell? ⟨B, 1, none⟩ = some b ∧ W.cell? ⟨B, 2, none⟩ = some c ∧ W.cell? ⟨B, 3, none⟩ = some d := by
  unfold BlockAt at h
  refine ⟨?_, ?_, ?_, ?_⟩ <;> simp [World.cell?, h]

set_option maxHeartbeats 8000000 in
theorem missed_any (k : Nat) (ws : List Nat) (wv : Value) (n p a b : Nat) (sw : Bool) (w : World) (hok : SysOk k ws) (hw : NatRow w wv ws) (h1 : 1 ≤ p) (hpn : if sw = true then p < n else p ≤ n) (hn30 : n ≤ 30) (hab : a < b) (hb : b < 10) :
    Calls Tryd.prog 40 #[.int .u8 k, wv, .int .i64 n, .agg #[.bool sw, .int .i64 p, .int .i64 a, .int .i64 b]] w fun e w' => e = .returned (.bool (refMiss k ws sw p a b)) ∧ Below w.heap.size w w' := by
  obtain ⟨i0, hi, hi0, hi1, hi2⟩ := info_parts Tryd.info3
  have hwf : ∃ pw cw, wv = .slice pw ws.length cw := by
    obtain ⟨pw, cw, h, _⟩ := hw
    exact ⟨pw, cw, h⟩
  obtain ⟨pw, cw, rfl⟩ := hwf
  have HW := Lib.hid hw
  have HOK := Lib.hid hok
  obtain ⟨N, hN⟩ : ∃ N, n + 1 = N := ⟨_, rfl⟩
  have hwN : IntKind.i64.wrap ((n : Int) + 1) = (N : Int) := by rw [IntKind.wrap_i64]; omega
  have hp30 : p ≤ 30 := by split at hpn <;> omega
  have hwp : IntKind.i64.wrap ((p : Int) + 1) = (p : Int) + 1 := by rw [IntKind.wrap_i64]; omega
  have HNN : Hid (1 ≤ N ∧ N ≤ 31 ∧ n + 1 = N ∧ 1 ≤ p) := Lib.hid ⟨by omega, by omega, hN, h1⟩
  clear hw hok
  cases sw with
  | false =>
    have hx0 : BlockAt ((w.alloc (.cells #[.bool false, .int .i64 p, .int .i64 a, .int .i64 b] 68)).alloc (.cells (madeCells #[.int .i64 0] N) 3)) w.heap.size #[.bool false, .int .i64 p, .int .i64 a, .int .i64 b] 68 := (BlockAt.new w _ 68).alloc _
    have hr0 : NumRow ((w.alloc (.cells #[.bool false, .int .i64 p, .int .i64 a, .int .i64 b] 68)).alloc (.cells (madeCells #[.int .i64 0] N) 3)) (w.heap.size + 1) (List.replicate N 0) := NumRow.made (by simp)
    have hY0 : Below w.heap.size w ((w.alloc (.cells #[.bool false, .int .i64 p, .int .i64 a, .int .i64 b] 68)).alloc (.cells (madeCells #[.int .i64 0] N) 3)) := ((Below.refl _ w).alloc (Nat.le_refl _) _).alloc (by simp) _
    go_enter Tryd.func40, Tryd.ntmps40
    go_upto_region 2 with (at_make; refine wpList_make_row _ rfl _ _ 23 rfl 3 i0 (.int .i64 0) Tryd.underlying23 hi hi0 hi1 rfl _ _ N rfl rfl (by rw [hi2]; omega) (by omega) ?_)
    obtain ⟨W2, hW2⟩ : ∃ W2, (w.alloc (.cells #[.bool false, .int .i64 p, .int .i64 a, .int .i64 b] 68)).alloc (.cells (madeCells #[.int .i64 0] N) 3) = W2 := ⟨_, rfl⟩
    obtain ⟨q0, hq0⟩ : ∃ q0, w.heap.size = q0 := ⟨_, rfl⟩
    obtain ⟨g, hg⟩ : ∃ g, q0 + 1 = g := ⟨_, rfl⟩
    rw [hW2, hq0] at hx0 hr0 hY0
    rw [hg] at hr0
    have hsimp : (w.alloc (.cells #[.bool false, .int .i64 p, .int .i64 a, .int .i64 b] 68)).heap.size = g := by rw [← hg, ← hq0]; simp
    (try rw [hsimp])
    rw [hW2, hq0]
    (try rw [hg])
    have hqg : ¬ q0 = g := by omega
    have hgq : ¬ g = q0 := by omega
    have hQ0 := Lib.hid hq0
    have HQG := Lib.hid hg
    have hxl := hx0.lt
    have hrl := hr0.lt
    clear hW2 hsimp hg hq0
    obtain ⟨b0, b1, b2, b3⟩ := box_four hx0
    have hpN : (p : Int) < (N : Int) := by rw [if_neg (by decide)] at hpn; omega
    have hpNn : p < N := by omega
    have cp := hr0.cell p 0 (by rw [List.getElem?_replicate, if_pos hpNn])
    have fp := hr0.open' p (by rw [List.length_replicate]; exact hpNn)
    have hr3 : NumRow (W2.setCell ⟨g, p, none⟩ (.int .i64 (a : Int))) g ((List.replicate N 0).set p a) := hr0.set (by rw [List.length_replicate]; exact hpNn) a
    have hY3 : Below q0 w (W2.setCell ⟨g, p, none⟩ (.int .i64 (a : Int))) := hY0.setCell (p := ⟨g, p, none⟩) (by show q0 ≤ g; have := HQG.out; omega) _
    have hx3 : BlockAt (W2.setCell ⟨g, p, none⟩ (.int .i64 (a : Int))) q0 #[.bool false, .int .i64 p, .int .i64 a, .int .i64 b] 68 := hx0.other hqg _
    have hvl : ((List.replicate N 0).set p a).length = N := by rw [List.length_set, List.length_replicate]
    have hv9 : ∀ v ∈ (List.replicate N 0).set p a, v < 10 := set_lt (zeros_lt N) (by omega)
    have hvp : ((List.replicate N 0).set p a)[p]? = some a := List.getElem?_set_self (by rw [List.length_replicate]; exact hpNn)
    go_upto_region 6 with fail
    obtain ⟨W3, hW3⟩ : ∃ W3, W2.setCell ⟨g, p, none⟩ (.int .i64 (a : Int)) = W3 := ⟨_, rfl⟩
    obtain ⟨vs, hvs⟩ : ∃ vs, (List.replicate N 0).set p a = vs := ⟨_, rfl⟩
    rw [hW3] at hr3 hY3 hx3 ⊢
    rw [hvs] at hr3 hvl hv9 hvp
    clear hW3 hvs b0 b1 b2 b3 cp fp hx0 hr0 hY0 hxl hrl
    have hwts : ∀ W : World, Below g W3 W → NatRow W (.slice pw ws.length cw) ws := fun W h => HW.out.below (by rw [hQ0.out]; exact Nat.le_refl _) (hY3.trans (h.mono (by have := HQG.out; omega)))
    go_wp2_with fail
    refine (complete_any k ws vs (.slice pw ws.length cw) g N N g W3 HOK.out (Nat.le_refl _) hwts hr3 hvl HNN.out.1 HNN.out.2.1 hv9).mono ?_
    rintro e W4 ⟨x, hx, hres, rfl, hr4, hb4⟩
    have hx4 : BlockAt W4 q0 #[.bool false, .int .i64 p, .int .i64 a, .int .i64 b] 68 := by
      unfold BlockAt at hx3 ⊢
      rw [← hx3]
      exact hb4.block q0 (by have := HQG.out; omega)
    have hY4 : Below q0 w W4 := hY3.trans (hb4.mono (by have := HQG.out; omega))
    have hul : (vs.set 0 x).length = N := by rw [List.length_set, hvl]
    have hu11 : ∀ v ∈ vs.set 0 x, v < topOf k := set_lt (fun v hv => by have := hv9 v hv; unfold topOf; split <;> omega) hx
    have hup : (vs.set 0 x)[p]? = some a := by rw [List.getElem?_set_ne (by have := HNN.out; omega)]; exact hvp

    obtain ⟨us, hus⟩ : ∃ us, vs.set 0 x = us := ⟨_, rfl⟩
    rw [hus] at hres hr4 hul hu11 hup
    have h4 : k = 4 → ∀ v ∈ us, v < 10 := fun e v hv => by have := hu11 v hv; rw [e] at this; exact this
    have hfin := miss_put hres hup h4 hb hab
    have hf11 : ∀ v ∈ us.set p b, v < topOf k := set_lt hu11 (by unfold topOf; split <;> omega)
    have hflen : (us.set p b).length = N := by rw [List.length_set, hul]
    have cp := hr4.cell p _ hup
    have fp := hr4.open' p (by rw [hul]; exact hpNn)
    have hr5 : NumRow (W4.setCell ⟨g, p, none⟩ (.int .i64 (b : Int))) g (us.set p b) := hr4.set (by rw [hul]; exact hpNn) b
    have hY5 : Below q0 w (W4.setCell ⟨g, p, none⟩ (.int .i64 (b : Int))) := hY4.setCell (p := ⟨g, p, none⟩) (by show q0 ≤ g; have := HQG.out; omega) _
    obtain ⟨b0, b1, b2, b3⟩ := box_four hx4
    have vg := hr4.lt
    have vq := hx4.lt
    have hpass := rpasses_any k ws _ (.slice pw ws.length cw) (.slice (some ⟨g, 0, none⟩) N N) _ HOK.out (HW.out.below (by rw [hQ0.out]; exact Nat.le_refl _) hY5) (by have := hr5.row N; rwa [hflen] at this) (by rw [hflen]; exact HNN.out.2.1) (fun v hv => by have := hf11 v hv; unfold topOf at this; split at this <;> omega) (fun h2 v hv => by have := hf11 v hv; unfold topOf at this; rw [if_neg h2] at this; exact this)
    rw [hfin] at hpass
    have HPS := Lib.hid hpass
    have HY5 := Lib.hid hY5
    clear hpass hY5 hr5 hf11 hflen hfin h4 hup hu11 hul hr4 hres hus hx hvp hv9 hvl hr3 hx3 hY3 hwts hb4
    go_wp2_with fail
    refine HPS.out.mono ?_
    rintro e w7 ⟨rfl, hb7⟩
    go_wp2
    go_ret
    exact ⟨rfl, by rw [hQ0.out]; exact HY5.out.trans (hb7.mono (by have h5 := HY5.out.size; rw [hQ0.out] at h5; exact h5))⟩
  | true =>
    have hx0 : BlockAt ((w.alloc (.cells #[.bool true, .int .i64 p, .int .i64 a, .int .i64 b] 68)).alloc (.cells (madeCells #[.int .i64 0] N) 3)) w.heap.size #[.bool true, .int .i64 p, .int .i64 a, .int .i64 b] 68 := (BlockAt.new w _ 68).alloc _
    have hr0 : NumRow ((w.alloc (.cells #[.bool true, .int .i64 p, .int .i64 a, .int .i64 b] 68)).alloc (.cells (madeCells #[.int .i64 0] N) 3)) (w.heap.size + 1) (List.replicate N 0) := NumRow.made (by simp)
    have hY0 : Below w.heap.size w ((w.alloc (.cells #[.bool true, .int .i64 p, .int .i64 a, .int .i64 b] 68)).alloc (.cells (madeCells #[.int .i64 0] N) 3)) := ((Below.refl _ w).alloc (Nat.le_refl _) _).alloc (by simp) _
    go_enter Tryd.func40, Tryd.ntmps40
    go_upto_region 2 with (at_make; refine wpList_make_row _ rfl _ _ 23 rfl 3 i0 (.int .i64 0) Tryd.underlying23 hi hi0 hi1 rfl _ _ N rfl rfl (by rw [hi2]; omega) (by omega) ?_)
    obtain ⟨W2, hW2⟩ : ∃ W2, (w.alloc (.cells #[.bool true, .int .i64 p, .int .i64 a, .int .i64 b] 68)).alloc (.cells (madeCells #[.int .i64 0] N) 3) = W2 := ⟨_, rfl⟩
    obtain ⟨q0, hq0⟩ : ∃ q0, w.heap.size = q0 := ⟨_, rfl⟩
    obtain ⟨g, hg⟩ : ∃ g, q0 + 1 = g := ⟨_, rfl⟩
    rw [hW2, hq0] at hx0 hr0 hY0
    rw [hg] at hr0
    have hsimp : (w.alloc (.cells #[.bool true, .int .i64 p, .int .i64 a, .int .i64 b] 68)).heap.size = g := by rw [← hg, ← hq0]; simp
    (try rw [hsimp])
    rw [hW2, hq0]
    (try rw [hg])
    have hqg : ¬ q0 = g := by omega
    have hgq : ¬ g = q0 := by omega
    have hQ0 := Lib.hid hq0
    have HQG := Lib.hid hg
    have hxl := hx0.lt
    have hrl := hr0.lt
    clear hW2 hsimp hg hq0
    obtain ⟨b0, b1, b2, b3⟩ := box_four hx0
    have hpN : (p : Int) < (N : Int) := by rw [if_pos rfl] at hpn; omega
    have hpNn : p < N := by omega
    have cp := hr0.cell p 0 (by rw [List.getElem?_replicate, if_pos hpNn])
    have fp := hr0.open' p (by rw [List.length_replicate]; exact hpNn)
    have hpN1 : (p : Int) + 1 < (N : Int) := by rw [if_pos rfl] at hpn; omega
    have hp10 : (0 : Int) ≤ (p : Int) + 1 := by omega
    have hpt : ((p : Int) + 1).toNat = p + 1 := by omega
    have hpN1n : p + 1 < N := by omega
    have cp1 := hr0.cell (p + 1) 0 (by rw [List.getElem?_replicate, if_pos hpN1n])
    have fp1 := hr0.open' (p + 1) (by rw [List.length_replicate]; exact hpN1n)
    have hr3 : NumRow (((W2.setCell ⟨g, p, none⟩ (.int .i64 (a : Int))).setCell ⟨g, p + 1, none⟩ (.int .i64 (a : Int))).setCell ⟨g, p, none⟩ (.int .i64 (b : Int))) g ((((List.replicate N 0).set p a).set (p + 1) a).set p b) :=
      ((hr0.set (by rw [List.length_replicate]; exact hpNn) a).set (by rw [List.length_set, List.length_replicate]; exact hpN1n) a).set (by rw [List.length_set, List.length_set, List.length_replicate]; exact hpNn) b
    have hY3 : Below q0 w (((W2.setCell ⟨g, p, none⟩ (.int .i64 (a : Int))).setCell ⟨g, p + 1, none⟩ (.int .i64 (a : Int))).setCell ⟨g, p, none⟩ (.int .i64 (b : Int))) := ((hY0.setCell (p := ⟨g, p, none⟩) (by show q0 ≤ g; have := HQG.out; omega) _).setCell (p := ⟨g, p + 1, none⟩) (by show q0 ≤ g; have := HQG.out; omega) _).setCell (p := ⟨g, p, none⟩) (by show q0 ≤ g; have := HQG.out; omega) _
    have hx3 : BlockAt (((W2.setCell ⟨g, p, none⟩ (.int .i64 (a : Int))).setCell ⟨g, p + 1, none⟩ (.int .i64 (a : Int))).setCell ⟨g, p, none⟩ (.int .i64 (b : Int))) q0 #[.bool true, .int .i64 p, .int .i64 a, .int .i64 b] 68 := ((hx0.other hqg _).other hqg _).other hqg _
    have hvl : ((((List.replicate N 0).set p a).set (p + 1) a).set p b).length = N := by rw [List.length_set, List.length_set, List.length_set, List.length_replicate]
    have hv9 : ∀ v ∈ (((List.replicate N 0).set p a).set (p + 1) a).set p b, v < 10 := set_lt (set_lt (set_lt (zeros_lt N) (by omega)) (by omega)) hb
    have hvp : ((((List.replicate N 0).set p a).set (p + 1) a).set p b)[p]? = some b := List.getElem?_set_self (by rw [List.length_set, List.length_set, List.length_replicate]; exact hpNn)
    have hvp1 : ((((List.replicate N 0).set p a).set (p + 1) a).set p b)[p + 1]? = some a := by rw [List.getElem?_set_ne (by have := HNN.out; omega)]; exact List.getElem?_set_self (by rw [List.length_set, List.length_replicate]; exact hpN1n)
    go_upto_region 6 with fail
    obtain ⟨W3, hW3⟩ : ∃ W3, ((W2.setCell ⟨g, p, none⟩ (.int .i64 (a : Int))).setCell ⟨g, p + 1, none⟩ (.int .i64 (a : Int))).setCell ⟨g, p, none⟩ (.int .i64 (b : Int)) = W3 := ⟨_, rfl⟩
    obtain ⟨vs, hvs⟩ : ∃ vs, (((List.replicate N 0).set p a).set (p + 1) a).set p b = vs := ⟨_, rfl⟩
    rw [hW3] at hr3 hY3 hx3 ⊢
    rw [hvs] at hr3 hvl hv9 hvp hvp1
    clear hW3 hvs b0 b1 b2 b3 cp fp hx0 hr0 hY0 hxl hrl cp1 fp1
    have hwts : ∀ W : World, Below g W3 W → NatRow W (.slice pw ws.length cw) ws := fun W h => HW.out.below (by rw [hQ0.out]; exact Nat.le_refl _) (hY3.trans (h.mono (by have := HQG.out; omega)))
    go_wp2_with fail
    refine (complete_any k ws vs (.slice pw ws.length cw) g N N g W3 HOK.out (Nat.le_refl _) hwts hr3 hvl HNN.out.1 HNN.out.2.1 hv9).mono ?_
    rintro e W4 ⟨x, hx, hres, rfl, hr4, hb4⟩
    have hx4 : BlockAt W4 q0 #[.bool true, .int .i64 p, .int .i64 a, .int .i64 b] 68 := by
      unfold BlockAt at hx3 ⊢
      rw [← hx3]
      exact hb4.block q0 (by have := HQG.out; omega)
    have hY4 : Below q0 w W4 := hY3.trans (hb4.mono (by have := HQG.out; omega))
    have hul : (vs.set 0 x).length = N := by rw [List.length_set, hvl]
    have hu11 : ∀ v ∈ vs.set 0 x, v < topOf k := set_lt (fun v hv => by have := hv9 v hv; unfold topOf; split <;> omega) hx
    have hup : (vs.set 0 x)[p]? = some b := by rw [List.getElem?_set_ne (by have := HNN.out; omega)]; exact hvp
    have hup1 : (vs.set 0 x)[p + 1]? = some a := by rw [List.getElem?_set_ne (by have := HNN.out; omega)]; exact hvp1
    obtain ⟨us, hus⟩ : ∃ us, vs.set 0 x = us := ⟨_, rfl⟩
    rw [hus] at hres hr4 hul hu11 hup hup1
    have h4 : k = 4 → ∀ v ∈ us, v < 10 := fun e v hv => by have := hu11 v hv; rw [e] at this; exact this
    have hfin := miss_swap hres hup hup1 h4 hab
    have hf11 : ∀ v ∈ (us.set (p + 1) b).set p a, v < topOf k := set_lt (set_lt hu11 (by unfold topOf; split <;> omega)) (by unfold topOf; split <;> omega)
    have hflen : ((us.set (p + 1) b).set p a).length = N := by rw [List.length_set, List.length_set, hul]
    have cp := hr4.cell p _ hup
    have fp := hr4.open' p (by rw [hul]; exact hpNn)
    have cp1 := hr4.cell (p + 1) _ hup1
    have fp1 := hr4.open' (p + 1) (by rw [hul]; exact hpN1n)
    have hr5 : NumRow ((W4.setCell ⟨g, p + 1, none⟩ (.int .i64 (b : Int))).setCell ⟨g, p, none⟩ (.int .i64 (a : Int))) g ((us.set (p + 1) b).set p a) := (hr4.set (by rw [hul]; exact hpN1n) b).set (by rw [List.length_set, hul]; exact hpNn) a
    have hY5 : Below q0 w ((W4.setCell ⟨g, p + 1, none⟩ (.int .i64 (b : Int))).setCell ⟨g, p, none⟩ (.int .i64 (a : Int))) := (hY4.setCell (p := ⟨g, p + 1, none⟩) (by show q0 ≤ g; have := HQG.out; omega) _).setCell (p := ⟨g, p, none⟩) (by show q0 ≤ g; have := HQG.out; omega) _
    obtain ⟨b0, b1, b2, b3⟩ := box_four hx4
    have vg := hr4.lt
    have vq := hx4.lt
    have hpass := rpasses_any k ws _ (.slice pw ws.length cw) (.slice (some ⟨g, 0, none⟩) N N) _ HOK.out (HW.out.below (by rw [hQ0.out]; exact Nat.le_refl _) hY5) (by have := hr5.row N; rwa [hflen] at this) (by rw [hflen]; exact HNN.out.2.1) (fun v hv => by have := hf11 v hv; unfold topOf at this; split at this <;> omega) (fun h2 v hv => by have := hf11 v hv; unfold topOf at this; rw [if_neg h2] at this; exact this)
    rw [hfin] at hpass
    have HPS := Lib.hid hpass
    have HY5 := Lib.hid hY5
    clear hpass hY5 hr5 hf11 hflen hfin h4 hup hup1 hu11 hul hr4 hres hus hx hvp hvp1 hv9 hvl hr3 hx3 hY3 hwts hb4
    go_wp2_with fail
    refine HPS.out.mono ?_
    rintro e w7 ⟨rfl, hb7⟩
    go_wp2
    go_ret
    exact ⟨rfl, by rw [hQ0.out]; exact HY5.out.trans (hb7.mono (by have h5 := HY5.out.size; rw [hQ0.out] at h5; exact h5))⟩
end Go.Proofs.YtnmnfbibjghjhaaDoor
