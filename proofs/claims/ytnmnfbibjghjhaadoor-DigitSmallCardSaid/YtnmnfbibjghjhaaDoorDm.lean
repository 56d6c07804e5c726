/-
  The walks of payload, weighted and anyOne.
-/
import Derived.Laws.StructEq
import Derived.Deep.AppendLies
import Derived.Deep.RegionLaw
import Derived.MapKept
import Derived.Test.YtnmnfbibjghjhaaDoorDj
namespace Go.Proofs.YtnmnfbibjghjhaaDoor
open Go.RowKit Dig

/-- A slice of bytes that came in. -/
def ByteSrc (W : World) (v : Value) (l : List Nat) : Prop := (∀ c ∈ l, c < 256) ∧ ∃ p cap, v = .slice p l.length cap ∧ (l = [] ∨ ∃ b o, p = some ⟨b, o, none⟩ ∧ b < W.heap.size ∧ ∀ (j c : Nat), l[j]? = some c → W.cell? ⟨b, o + j, none⟩ = some (.int .u8 (c : Int)))
theorem ByteSrc.below {B : Nat} {W W' : World} {v : Value} {l : List Nat} (h : ByteSrc W v l) (hB : W.heap.size ≤ B) (hb : Below B W W') : ByteSrc W' v l := by
  obtain ⟨hs, p, cap, rfl, h⟩ := h
  refine ⟨hs, p, cap, rfl, h.imp id ?_⟩
  rintro ⟨b, o, rfl, hlt, hc⟩
  exact ⟨b, o, rfl, Nat.lt_of_lt_of_le hlt hb.size, fun j c hj => (hb.cell (p := ⟨b, o + j, none⟩) (Nat.lt_of_lt_of_le hlt hB)).trans (hc j c hj)⟩
def digitsOf (l : List Nat) : List Nat := (l.take 30).map fun c => 48 + c % 10
/-- What payload returns. -/
def payOf (l : List Nat) : List Nat := if l = [] then [48] else digitsOf l
theorem payOf_ok (l : List Nat) : 1 ≤ (payOf l).length ∧ (payOf l).length ≤ 30 ∧ ∀ c ∈ payOf l, 48 ≤ c ∧ c ≤ 57 := by
  unfold payOf
  split
  · exact ⟨by decide, by decide, by decide⟩
  · rename_i h
    unfold digitsOf
    refine ⟨?_, by rw [List.length_map, List.length_take]; omega, fun c hc => ?_⟩
    · rw [List.length_map, List.length_take]
      have := List.length_pos_iff.2 h
      omega
    · obtain ⟨d, _, rfl⟩ := List.mem_map.1 hc
      have := Nat.mod_lt d (show 0 < 10 by decide)
      omega
theorem digitsOf_step {l : List Nat} {i c : Nat} (hi : i < 30) (h : l[i]? = some c) : digitsOf (l.take (i + 1)) = digitsOf (l.take i) ++ [48 + c % 10] := by
  unfold digitsOf
  rw [List.take_of_length_le (l := l.take (i + 1)) (by rw [List.length_take]; omega), List.take_of_length_le (l := l.take i) (by rw [List.length_take]; omega), take_snoc h, List.map_append]
  rfl
theorem digitsOf_end {l : List Nat} {i : Nat} (h : ¬ (i < l.length ∧ i < 30)) (h1 : i ≤ l.length) (h2 : i ≤ 30) : digitsOf (l.take i) = digitsOf l := by
  unfold digitsOf
  by_cases e : i < 30
  · rw [List.take_of_length_le (show l.length ≤ i by omega)]
  · rw [show i = 30 from by omega, List.take_take, Nat.min_self]
theorem toList_inj {a b : ByteArray} (h : a.toList = b.toList) : a = b := by
  have h1 : (a.toList == b.toList) = true := by rw [h]; exact beq_self_eq_true _
  rw [← beq_toListBytes] at h1
  exact (MapKept.bytes_beq a b).1 h1
theorem tx_inj {a b : ByteArray} (h : tx a = tx b) : a = b := by
  unfold tx at h
  have h2 : a.data.toList = b.data.toList := (List.map_inj_right (fun x y e => UInt8.toNat_inj.1 e)).1 h
  have h3 : a.data = b.data := Array.toList_inj.1 h2
  cases a; cases b; cases h3; rfl

set_option maxHeartbeats 4000000 in
theorem payload_any (l : List Nat) (v : Value) (w : World) (h : ByteSrc w v l) :
    Calls Tryd.prog 14 #[v] w fun e w' => ∃ S, e = .returned (.string S) ∧ tx S = payOf l ∧ Below w.heap.size w w' := by
  obtain ⟨hsm, p, cap, rfl, hc⟩ := h
  have HC := Lib.hid hc
  have HM := Lib.hid hsm
  clear hc hsm
  go_enter Tryd.func14, Tryd.ntmps14
  go_wp2_with fail
  go_loopw [3, 4] (fun sv iv wr => ∃ (i : Nat) (S : ByteArray), iv = .int .i64 i ∧ i ≤ l.length ∧ i ≤ 30 ∧ sv = .string S ∧ Hid (tx S = digitsOf (l.take i)) ∧ Below w.heap.size w wr)
    (fun _ iv _ => 30 - (intOf iv).toNat)
  case atStart => exact ⟨0, ⟨#[]⟩, rfl, by omega, by omega, rfl, Lib.hid rfl, Below.refl _ _⟩
  case round =>
    obtain ⟨i, S, rfl, hil, hi30, rfl, hS, hB⟩ := hrel
    have hSz : S.size = i := by rw [← tx_len S, hS.out]; unfold digitsOf; rw [List.length_map, List.length_take, List.length_take]; omega
    by_cases hlt : i < l.length ∧ i < 30
    · obtain ⟨h1, h2⟩ := hlt
      have h1i : (i : Int) < (l.length : Int) := by omega
      have h2i : (i : Int) < 30 := by omega
      obtain ⟨c, hcx⟩ : ∃ c, l[i]? = some c := ⟨_, List.getElem?_eq_getElem h1⟩
      have hc256 := HM.out c (List.mem_of_getElem? hcx)
      rcases HC.out with rfl | ⟨b, o, rfl, hbl, hcs⟩
      · simp at h1
      have hcell : wr.cell? ⟨b, o + i, none⟩ = some (.int .u8 (c : Int)) := (hB.cell (p := ⟨b, o + i, none⟩) hbl).trans (hcs i c hcx)
      obtain ⟨D, hD⟩ : ∃ D : Nat, D = 48 + c % 10 := ⟨_, rfl⟩
      have hD256 : D < 256 := by have := Nat.mod_lt c (show 0 < 10 by decide); omega
      have hDi : 48 + (c : Int) % 10 = (D : Int) := by omega
      have hconv := conv_one wr D hD256
      have HT : Hid (tx (S ++ ⟨#[UInt8.ofNat D]⟩) = digitsOf (l.take (i + 1))) := Lib.hid (by rw [tx_push S D hD256, hS.out, digitsOf_step h2 hcx, hD])
      clear hcs hcx hD
      go_wp2
      go_roundw
      case rel => exact ⟨i + 1, _, by go_num, by omega, by omega, rfl, HT, hB.alloc hB.size _⟩
      case measure => simp [intOf] <;> omega
    · have hend := digitsOf_end hlt hil hi30
      have hS2 := hS.out
      rw [hend] at hS2
      have HS := Lib.hid hS2
      clear hS2 hend hS
      by_cases h0 : l = []
      · subst h0
        have : S = ⟨#[]⟩ := tx_inj (by rw [HS.out]; rfl)
        subst this
        have hi0 : i = 0 := by simp at hil; exact hil
        subst hi0
        go_wp2
        go_ret
        exact ⟨⟨#[48]⟩, rfl, by unfold payOf; rw [if_pos rfl]; rfl, hB⟩
      · have HP : Hid (payOf l = digitsOf l) := Lib.hid (by unfold payOf; rw [if_neg h0])
        have hne : ¬ S = ⟨#[]⟩ := fun e => by
          have h2 := List.length_pos_iff.2 h0
          have h3 : S.size = 0 := by rw [e]; rfl
          omega
        have hem : S.toList.isEmpty = false := by
          cases e : S.toList.isEmpty with
          | false => rfl
          | true => exact absurd (toList_inj (b := ⟨#[]⟩) (by rw [List.isEmpty_iff.1 e]; simp)) hne
        by_cases h1 : i < l.length
        · have h1i : (i : Int) < (l.length : Int) := by omega
          have h2i : ¬ (i : Int) < 30 := by omega
          go_wp2
          go_ret
          exact ⟨S, rfl, by rw [HP.out, HS.out], hB⟩
        · have h1i : ¬ (i : Int) < (l.length : Int) := by omega
          go_wp2
          go_ret
          exact ⟨S, rfl, by rw [HP.out, HS.out], hB⟩

theorem grown_next {B : Nat} {w wr w1 : World} {o : Obj} {row : Option Nat} (h : Below B w wr) (hb : B ≤ wr.heap.size) (hg : (wr.alloc o).grownBy w1 row) (hrow : ∀ j, row = some j → B ≤ j) : Below B w w1 := (h.alloc hb o).grown hg (by simp; omega) hrow
theorem grown_next2 {B : Nat} {w wr w1 : World} {o : Obj} {row : Option Nat} (h : Below B w wr) (hb : B ≤ wr.heap.size) (hg : (wr.drew.alloc o).grownBy w1 row) (hrow : ∀ j, row = some j → B ≤ j) : Below B w w1 := (h.drew.alloc hb o).grown hg (by simp; omega) hrow
theorem BlockAt.not_row {W : World} {B : Nat} {cs : Array Value} {t e : TypeId} (h : BlockAt W B cs t) (hte : t ≠ e) {base size k : Nat} {v : Value} {xs : List Value} (hr : W.ownsRow base e size v k xs) : some B ≠ v.ownBlock := by
  rcases hr.2 with ⟨rfl, _⟩ | ⟨g, cap, cur, rfl, _, hgb, _⟩
  · simp [Value.ownBlock]
  · intro e'
    obtain rfl : B = g := by simpa [Value.ownBlock] using e'
    rw [show W.heap[B]? = _ from h] at hgb
    simp only [Option.some.injEq, Obj.cells.injEq] at hgb
    exact hte hgb.2.1

def mostOf (eleven : Bool) : Nat := if eleven = true then 10 else 9
/-- The weights of a system that weighted makes. -/
def weightsOf (eleven : Bool) (l : List Nat) : List Nat := if l = [] then [1] else (l.take 10).map fun c => 1 + c % mostOf eleven
def kindOf (eleven : Bool) : Nat := if eleven = true then 2 else 1
theorem weightsOf_ok (e : Bool) (l : List Nat) : SysOk (kindOf e) (weightsOf e l) := by
  have hm : modOf (kindOf e) = mostOf e + 1 := by cases e <;> rfl
  have hk : kindOf e = 1 ∨ kindOf e = 2 := by cases e; exact .inl rfl; exact .inr rfl
  have hp : 0 < mostOf e := by cases e <;> decide
  refine .inr ⟨hk, ?_⟩
  rw [hm]
  unfold weightsOf
  split
  · refine ⟨by decide, by decide, fun w hw => ?_⟩
    rw [List.mem_singleton.1 hw]; omega
  · rename_i h
    have := List.length_pos_iff.2 h
    refine ⟨by rw [List.length_map, List.length_take]; omega, by rw [List.length_map, List.length_take]; omega, fun w hw => ?_⟩
    obtain ⟨c, _, rfl⟩ := List.mem_map.1 hw
    have := Nat.mod_lt c hp
    omega
theorem weights_step {m : Nat} {l : List Nat} {i c : Nat} (hi : i < 10) (h : l[i]? = some c) : ((l.take (i + 1)).take 10).map (fun c => 1 + c % m) = ((l.take i).take 10).map (fun c => 1 + c % m) ++ [1 + c % m] := by
  rw [List.take_of_length_le (l := l.take (i + 1)) (by rw [List.length_take]; omega), List.take_of_length_le (l := l.take i) (by rw [List.length_take]; omega), take_snoc h, List.map_append]
  rfl
theorem weights_end {m : Nat} {l : List Nat} {i : Nat} (h : ¬ (i < l.length ∧ i < 10)) (h1 : i ≤ l.length) (h2 : i ≤ 10) : ((l.take i).take 10).map (fun c => 1 + c % m) = (l.take 10).map (fun c => 1 + c % m) := by
  by_cases e : i < 10
  · rw [List.take_of_length_le (show l.length ≤ i by omega)]
  · rw [show i = 10 from by omega, List.take_take, Nat.min_self]

set_option maxHeartbeats 8000000 in
theorem weighted_sys (e : Bool) (l : List Nat) (v : Value) (w : World) (h : ByteSrc w v l) :
    Calls Tryd.prog 30 #[.bool e, v] w fun e' w' => ∃ wv, e' = .returned (.agg #[.int .u8 (kindOf e : Nat), wv]) ∧ w'.ownsRow w.heap.size 3 1 wv (weightsOf e l).length (natCells (weightsOf e l)) ∧ Below w.heap.size w w' := by
  obtain ⟨hsm, p, cap, rfl, hc⟩ := h
  have HC := Lib.hid hc
  have HM := Lib.hid hsm
  clear hc hsm
  obtain ⟨i0, hi, hi0, hi1, hi2⟩ := info_parts Tryd.info3
  obtain ⟨K, hK⟩ : ∃ K, kindOf e = K := ⟨_, rfl⟩
  obtain ⟨M, hM⟩ : ∃ M, mostOf e = M := ⟨_, rfl⟩
  have hM9 : 9 ≤ M ∧ M ≤ 10 := by rw [← hM]; cases e <;> decide
  have HW : Hid (weightsOf e l = if l = [] then [1] else (l.take 10).map fun c => 1 + c % M) := Lib.hid (by unfold weightsOf; rw [hM])
  rw [hK]
  cases e
  · have hK1 : K = 1 := hK.symm
    have hM1 : M = 9 := hM.symm
    subst hK1 hM1
    clear hK hM
    go_enter Tryd.func30, Tryd.ntmps30
    go_wp2_with fail
    go_loopw [7] (fun iv wr => ∃ (i : Nat) (wv : Value), iv = .int .i64 i ∧ i ≤ l.length ∧ i ≤ 10 ∧ BlockAt wr (w.heap.size + 1) #[.int .u8 1, wv] 25 ∧ BlockAt wr w.heap.size #[.int .u8 0, .slice none 0 0] 25 ∧ wr.ownsRow w.heap.size 3 1 wv i (natCells (((l.take i).take 10).map fun c => 1 + c % 9)) ∧ Below w.heap.size w wr)
      (fun iv _ => 10 - (intOf iv).toNat)
    case atStart =>
      refine ⟨0, _, rfl, by omega, by omega, ?_, ?_, World.ownsRow_nil _ _ _ _, ?_⟩
      · have := BlockAt.new (w.alloc (.cells #[.int .u8 0, .slice none 0 0] 25)) #[.int .u8 1, .slice none 0 0] 25
        simpa using this
      · exact (BlockAt.new w _ 25).alloc _
      · exact ((Below.refl _ w).alloc (Nat.le_refl _) _).alloc (by simp) _
    case round =>
      obtain ⟨i, wv, rfl, hil, hi10, x1, x0, ho, hB⟩ := hrel
      obtain ⟨pq, cq, rfl⟩ := ownsRow_form ho
      obtain ⟨p0, p1, f0, f1⟩ := x1.two
      have v0 := x1.lt
      by_cases hlt : i < l.length ∧ i < 10
      · obtain ⟨h1, h2⟩ := hlt
        have h1i : (i : Int) < (l.length : Int) := by omega
        have h2i : (i : Int) < 10 := by omega
        obtain ⟨c, hcx⟩ : ∃ c, l[i]? = some c := ⟨_, List.getElem?_eq_getElem h1⟩
        have hc256 := HM.out c (List.mem_of_getElem? hcx)
        rcases HC.out with rfl | ⟨b, o, rfl, hbl, hcs⟩
        · simp at h1
        have hcell : wr.cell? ⟨b, o + i, none⟩ = some (.int .u8 (c : Int)) := (hB.cell (p := ⟨b, o + i, none⟩) hbl).trans (hcs i c hcx)
        have hbl2 : b < wr.heap.size := by have := hB.size; omega
        obtain ⟨D, hD⟩ : ∃ D : Nat, D = 1 + c % 9 := ⟨_, rfl⟩
        have hD11 : D < 11 := by have := Nat.mod_lt c (show 0 < 9 by decide); omega
        have hDi : 1 + (c : Int) % 9 = (D : Int) := by omega
        have hDw : IntKind.i64.wrap (1 + (c : Int) % 9) = (D : Int) := by rw [hDi, IntKind.wrap_i64]; omega
        have hDt : IntKind.i64.wrap (1 + (c : Int).tmod 9) = (D : Int) := by rw [Int.tmod_eq_emod_of_nonneg (by omega), hDi, IntKind.wrap_i64]; omega
        have HD := Lib.hid hD
        have HX := Lib.hid hcx
        have HO := Lib.hid ho
        have hcw : IntKind.i64.wrap (c : Int) = (c : Int) := by rw [IntKind.wrap_i64]; omega
        clear hD hcx ho hcs
        go_wp2_with fail
        go_region_law (refine step_append_lies _ rfl _ _ 23 rfl w.heap.size 3 i0 (.int .i64 0) 1 8 Tryd.underlying23 hi hi0 hi1 hi2 rfl (by decide) _ _ _ rfl (by first | exact World.ownsRow.alloc HO.out _ | exact World.ownsRow.alloc (World.ownsRow.drew HO.out) _) ⟨wr.heap.size, 0, none⟩ 1 1 (natCells [D]) rfl rfl (BlockAt.newCells (t := 3) (by first | exact BlockAt.new wr _ 3 | exact BlockAt.new wr.drew _ 3) rfl) (natCells_one _) (by decide) (by unfold maxLen; omega) (by omega) (by simp; have := hB.size; omega) (wr.heap.size + 1) (by simp) ?_; intro g cap w1 hown hgrow hat hlt; have y1 : BlockAt w1 (w.heap.size + 1) #[.int .u8 1, .slice pq i cq] 25 := (by first | exact (x1.alloc (.cells #[.int .i64 (D : Int)] 3)).kept hgrow ((x1.alloc (.cells #[.int .i64 (D : Int)] 3)).not_row (by decide) (World.ownsRow.alloc HO.out (.cells #[.int .i64 (D : Int)] 3))) | exact (x1.drew.alloc (.cells #[.int .i64 (D : Int)] 3)).kept hgrow ((x1.drew.alloc (.cells #[.int .i64 (D : Int)] 3)).not_row (by decide) (World.ownsRow.alloc (World.ownsRow.drew HO.out) (.cells #[.int .i64 (D : Int)] 3)))); have y0 : BlockAt w1 w.heap.size #[.int .u8 0, .slice none 0 0] 25 := (by first | exact (x0.alloc (.cells #[.int .i64 (D : Int)] 3)).kept hgrow ((x0.alloc (.cells #[.int .i64 (D : Int)] 3)).not_row (by decide) (World.ownsRow.alloc HO.out (.cells #[.int .i64 (D : Int)] 3))) | exact (x0.drew.alloc (.cells #[.int .i64 (D : Int)] 3)).kept hgrow ((x0.drew.alloc (.cells #[.int .i64 (D : Int)] 3)).not_row (by decide) (World.ownsRow.alloc (World.ownsRow.drew HO.out) (.cells #[.int .i64 (D : Int)] 3)))); have hB1 : Below w.heap.size w w1 := (by first | exact grown_next hB hB.size hgrow (fun j hj => ownsRow_base HO.out j hj) | exact grown_next2 hB hB.size hgrow (fun j hj => ownsRow_base HO.out j hj)); obtain ⟨r0, r1, r2, r3⟩ := y1.two; have v1 := y1.lt)
        all_goals
          go_wp2
          go_roundw
          case rel => exact ⟨i + 1, _, by go_num, by omega, by omega, y1.set21 _, y0.other (by omega) _, by rw [weights_step h2 HX.out, natCells_append, ← HD.out]; exact ownsRow_setCell_other hown (by intro e; exact (y1.not_row (by decide) hown) e.symm) _, hB1.setCell (by show w.heap.size ≤ w.heap.size + 1; omega) _⟩
          case measure => simp [intOf] <;> omega
      · have hend := weights_end (m := 9) hlt hil hi10
        rw [hend] at ho
        have hlen := ho.1
        rw [show (natCells ((l.take 10).map fun c => 1 + c % 9)).length = min 10 l.length from by simp [natCells]] at hlen
        have HOo := Lib.hid ho
        have hvb := Lib.hid (x0.not_row (by decide) ho)
        clear ho
        clear hend
        obtain ⟨q0, q1, q2, q3⟩ := x0.two
        have v2 := x0.lt
        by_cases h0 : l = []
        · have hi0 : i = 0 := by subst h0; simp at hil; exact hil
          subst hi0
          have hl0 : l.length = 0 := by rw [h0]; rfl
          go_wp2
          refine bodyPost_ret (results_cell_row Tryd.results30 _ _ _ _ _ _ _ rfl ((((x0.other (B' := w.heap.size + 1) (j := 1) (by omega) (.slice (some ⟨wr.heap.size, 0, none⟩) 1 1)).set20 (.int .u8 1)).set21 (.slice (some ⟨wr.heap.size, 0, none⟩) 1 1)).alloc (.cells #[.int .i64 1] 3)) Tryd.underlying25 rfl (by kernel_rfl)) rfl ?_
          refine ⟨_, rfl, ?_, ?_⟩
          · rw [HW.out, if_pos h0]
            have := World.ownsRow_lit (base := w.heap.size) (e := 3) (size := 1) (((wr.setCell ⟨w.heap.size + 1, 1, none⟩ (.slice (some ⟨wr.heap.size, 0, none⟩) 1 1)).setCell ⟨w.heap.size, 0, none⟩ (.int .u8 1)).setCell ⟨w.heap.size, 1, none⟩ (.slice (some ⟨wr.heap.size, 0, none⟩) 1 1)) #[.int .i64 1] 1 (by simp; exact hB.size) (by unfold maxLen; omega) rfl
            simpa [natCells] using this
          · exact (((hB.setCell (by show w.heap.size ≤ w.heap.size + 1; omega) _).setCell (Nat.le_refl _) _).setCell (Nat.le_refl _) _).alloc (by simp; exact hB.size) _
        · have hl0 := List.length_pos_iff.2 h0
          have hip : ¬ i = 0 := by omega
          have hipi : ((i : Int) == 0) = false := by rw [beq_eq_false_iff_ne]; omega
          by_cases h1 : i < l.length
          · have h1i : (i : Int) < (l.length : Int) := by omega
            have h2i : ¬ (i : Int) < 10 := by omega
            go_wp2
            refine bodyPost_ret (results_cell_row Tryd.results30 _ _ _ _ _ _ _ rfl ((x0.set20 (.int .u8 1)).set21 (.slice pq i cq)) Tryd.underlying25 rfl (by kernel_rfl)) rfl ?_
            refine ⟨_, rfl, ?_, (hB.setCell (Nat.le_refl _) _).setCell (Nat.le_refl _) _⟩
            rw [HW.out, if_neg h0]
            rw [show ((l.take 10).map fun c => 1 + c % 9).length = i from by have := HOo.out.1; simp only [natCells, List.length_map, Nat.mul_one] at this; rw [List.length_map]; exact this]
            exact ownsRow_setCell_other (ownsRow_setCell_other HOo.out (by intro e; exact hvb.out e.symm) _) (by intro e; exact hvb.out e.symm) _
          · have h1i : ¬ (i : Int) < (l.length : Int) := by omega
            go_wp2
            refine bodyPost_ret (results_cell_row Tryd.results30 _ _ _ _ _ _ _ rfl ((x0.set20 (.int .u8 1)).set21 (.slice pq i cq)) Tryd.underlying25 rfl (by kernel_rfl)) rfl ?_
            refine ⟨_, rfl, ?_, (hB.setCell (Nat.le_refl _) _).setCell (Nat.le_refl _) _⟩
            rw [HW.out, if_neg h0]
            rw [show ((l.take 10).map fun c => 1 + c % 9).length = i from by have := HOo.out.1; simp only [natCells, List.length_map, Nat.mul_one] at this; rw [List.length_map]; exact this]
            exact ownsRow_setCell_other (ownsRow_setCell_other HOo.out (by intro e; exact hvb.out e.symm) _) (by intro e; exact hvb.out e.symm) _
  · have hK1 : K = 2 := hK.symm
    have hM1 : M = 10 := hM.symm
    subst hK1 hM1
    clear hK hM
    go_enter Tryd.func30, Tryd.ntmps30
    go_wp2_with fail
    go_loopw [7] (fun iv wr => ∃ (i : Nat) (wv : Value), iv = .int .i64 i ∧ i ≤ l.length ∧ i ≤ 10 ∧ BlockAt wr (w.heap.size + 1) #[.int .u8 2, wv] 25 ∧ BlockAt wr w.heap.size #[.int .u8 0, .slice none 0 0] 25 ∧ wr.ownsRow w.heap.size 3 1 wv i (natCells (((l.take i).take 10).map fun c => 1 + c % 10)) ∧ Below w.heap.size w wr)
      (fun iv _ => 10 - (intOf iv).toNat)
    case atStart =>
      refine ⟨0, _, rfl, by omega, by omega, ?_, ?_, World.ownsRow_nil _ _ _ _, ?_⟩
      · have := BlockAt.new (w.alloc (.cells #[.int .u8 0, .slice none 0 0] 25)) #[.int .u8 2, .slice none 0 0] 25
        simpa using this
      · exact (BlockAt.new w _ 25).alloc _
      · exact ((Below.refl _ w).alloc (Nat.le_refl _) _).alloc (by simp) _
    case round =>
      obtain ⟨i, wv, rfl, hil, hi10, x1, x0, ho, hB⟩ := hrel
      obtain ⟨pq, cq, rfl⟩ := ownsRow_form ho
      obtain ⟨p0, p1, f0, f1⟩ := x1.two
      have v0 := x1.lt
      by_cases hlt : i < l.length ∧ i < 10
      · obtain ⟨h1, h2⟩ := hlt
        have h1i : (i : Int) < (l.length : Int) := by omega
        have h2i : (i : Int) < 10 := by omega
        obtain ⟨c, hcx⟩ : ∃ c, l[i]? = some c := ⟨_, List.getElem?_eq_getElem h1⟩
        have hc256 := HM.out c (List.mem_of_getElem? hcx)
        rcases HC.out with rfl | ⟨b, o, rfl, hbl, hcs⟩
        · simp at h1
        have hcell : wr.cell? ⟨b, o + i, none⟩ = some (.int .u8 (c : Int)) := (hB.cell (p := ⟨b, o + i, none⟩) hbl).trans (hcs i c hcx)
        have hbl2 : b < wr.heap.size := by have := hB.size; omega
        obtain ⟨D, hD⟩ : ∃ D : Nat, D = 1 + c % 10 := ⟨_, rfl⟩
        have hD11 : D < 11 := by have := Nat.mod_lt c (show 0 < 10 by decide); omega
        have hDi : 1 + (c : Int) % 10 = (D : Int) := by omega
        have hDw : IntKind.i64.wrap (1 + (c : Int) % 10) = (D : Int) := by rw [hDi, IntKind.wrap_i64]; omega
        have hDt : IntKind.i64.wrap (1 + (c : Int).tmod 10) = (D : Int) := by rw [Int.tmod_eq_emod_of_nonneg (by omega), hDi, IntKind.wrap_i64]; omega
        have HD := Lib.hid hD
        have HX := Lib.hid hcx
        have HO := Lib.hid ho
        have hcw : IntKind.i64.wrap (c : Int) = (c : Int) := by rw [IntKind.wrap_i64]; omega
        clear hD hcx ho hcs
        go_wp2_with fail
        go_region_law (refine step_append_lies _ rfl _ _ 23 rfl w.heap.size 3 i0 (.int .i64 0) 1 8 Tryd.underlying23 hi hi0 hi1 hi2 rfl (by decide) _ _ _ rfl (by first | exact World.ownsRow.alloc HO.out _ | exact World.ownsRow.alloc (World.ownsRow.drew HO.out) _) ⟨wr.heap.size, 0, none⟩ 1 1 (natCells [D]) rfl rfl (BlockAt.newCells (t := 3) (by first | exact BlockAt.new wr _ 3 | exact BlockAt.new wr.drew _ 3) rfl) (natCells_one _) (by decide) (by unfold maxLen; omega) (by omega) (by simp; have := hB.size; omega) (wr.heap.size + 1) (by simp) ?_; intro g cap w1 hown hgrow hat hlt; have y1 : BlockAt w1 (w.heap.size + 1) #[.int .u8 2, .slice pq i cq] 25 := (by first | exact (x1.alloc (.cells #[.int .i64 (D : Int)] 3)).kept hgrow ((x1.alloc (.cells #[.int .i64 (D : Int)] 3)).not_row (by decide) (World.ownsRow.alloc HO.out (.cells #[.int .i64 (D : Int)] 3))) | exact (x1.drew.alloc (.cells #[.int .i64 (D : Int)] 3)).kept hgrow ((x1.drew.alloc (.cells #[.int .i64 (D : Int)] 3)).not_row (by decide) (World.ownsRow.alloc (World.ownsRow.drew HO.out) (.cells #[.int .i64 (D : Int)] 3)))); have y0 : BlockAt w1 w.heap.size #[.int .u8 0, .slice none 0 0] 25 := (by first | exact (x0.alloc (.cells #[.int .i64 (D : Int)] 3)).kept hgrow ((x0.alloc (.cells #[.int .i64 (D : Int)] 3)).not_row (by decide) (World.ownsRow.alloc HO.out (.cells #[.int .i64 (D : Int)] 3))) | exact (x0.drew.alloc (.cells #[.int .i64 (D : Int)] 3)).kept hgrow ((x0.drew.alloc (.cells #[.int .i64 (D : Int)] 3)).not_row (by decide) (World.ownsRow.alloc (World.ownsRow.drew HO.out) (.cells #[.int .i64 (D : Int)] 3)))); have hB1 : Below w.heap.size w w1 := (by first | exact grown_next hB hB.size hgrow (fun j hj => ownsRow_base HO.out j hj) | exact grown_next2 hB hB.size hgrow (fun j hj => ownsRow_base HO.out j hj)); obtain ⟨r0, r1, r2, r3⟩ := y1.two; have v1 := y1.lt)
        all_goals
          go_wp2
          go_roundw
          case rel => exact ⟨i + 1, _, by go_num, by omega, by omega, y1.set21 _, y0.other (by omega) _, by rw [weights_step h2 HX.out, natCells_append, ← HD.out]; exact ownsRow_setCell_other hown (by intro e; exact (y1.not_row (by decide) hown) e.symm) _, hB1.setCell (by show w.heap.size ≤ w.heap.size + 1; omega) _⟩
          case measure => simp [intOf] <;> omega
      · have hend := weights_end (m := 10) hlt hil hi10
        rw [hend] at ho
        have hlen := ho.1
        rw [show (natCells ((l.take 10).map fun c => 1 + c % 10)).length = min 10 l.length from by simp [natCells]] at hlen
        have HOo := Lib.hid ho
        have hvb := Lib.hid (x0.not_row (by decide) ho)
        clear ho
        clear hend
        obtain ⟨q0, q1, q2, q3⟩ := x0.two
        have v2 := x0.lt
        by_cases h0 : l = []
        · have hi0 : i = 0 := by subst h0; simp at hil; exact hil
          subst hi0
          have hl0 : l.length = 0 := by rw [h0]; rfl
          go_wp2
          refine bodyPost_ret (results_cell_row Tryd.results30 _ _ _ _ _ _ _ rfl ((((x0.other (B' := w.heap.size + 1) (j := 1) (by omega) (.slice (some ⟨wr.heap.size, 0, none⟩) 1 1)).set20 (.int .u8 2)).set21 (.slice (some ⟨wr.heap.size, 0, none⟩) 1 1)).alloc (.cells #[.int .i64 1] 3)) Tryd.underlying25 rfl (by kernel_rfl)) rfl ?_
          refine ⟨_, rfl, ?_, ?_⟩
          · rw [HW.out, if_pos h0]
            have := World.ownsRow_lit (base := w.heap.size) (e := 3) (size := 1) (((wr.setCell ⟨w.heap.size + 1, 1, none⟩ (.slice (some ⟨wr.heap.size, 0, none⟩) 1 1)).setCell ⟨w.heap.size, 0, none⟩ (.int .u8 2)).setCell ⟨w.heap.size, 1, none⟩ (.slice (some ⟨wr.heap.size, 0, none⟩) 1 1)) #[.int .i64 1] 1 (by simp; exact hB.size) (by unfold maxLen; omega) rfl
            simpa [natCells] using this
          · exact (((hB.setCell (by show w.heap.size ≤ w.heap.size + 1; omega) _).setCell (Nat.le_refl _) _).setCell (Nat.le_refl _) _).alloc (by simp; exact hB.size) _
        · have hl0 := List.length_pos_iff.2 h0
          have hip : ¬ i = 0 := by omega
          have hipi : ((i : Int) == 0) = false := by rw [beq_eq_false_iff_ne]; omega
          by_cases h1 : i < l.length
          · have h1i : (i : Int) < (l.length : Int) := by omega
            have h2i : ¬ (i : Int) < 10 := by omega
            go_wp2
            refine bodyPost_ret (results_cell_row Tryd.results30 _ _ _ _ _ _ _ rfl ((x0.set20 (.int .u8 2)).set21 (.slice pq i cq)) Tryd.underlying25 rfl (by kernel_rfl)) rfl ?_
            refine ⟨_, rfl, ?_, (hB.setCell (Nat.le_refl _) _).setCell (Nat.le_refl _) _⟩
            rw [HW.out, if_neg h0]
            rw [show ((l.take 10).map fun c => 1 + c % 10).length = i from by have := HOo.out.1; simp only [natCells, List.length_map, Nat.mul_one] at this; rw [List.length_map]; exact this]
            exact ownsRow_setCell_other (ownsRow_setCell_other HOo.out (by intro e; exact hvb.out e.symm) _) (by intro e; exact hvb.out e.symm) _
          · have h1i : ¬ (i : Int) < (l.length : Int) := by omega
            go_wp2
            refine bodyPost_ret (results_cell_row Tryd.results30 _ _ _ _ _ _ _ rfl ((x0.set20 (.int .u8 2)).set21 (.slice pq i cq)) Tryd.underlying25 rfl (by kernel_rfl)) rfl ?_
            refine ⟨_, rfl, ?_, (hB.setCell (Nat.le_refl _) _).setCell (Nat.le_refl _) _⟩
            rw [HW.out, if_neg h0]
            rw [show ((l.take 10).map fun c => 1 + c % 10).length = i from by have := HOo.out.1; simp only [natCells, List.length_map, Nat.mul_one] at this; rw [List.length_map]; exact this]
            exact ownsRow_setCell_other (ownsRow_setCell_other HOo.out (by intro e; exact hvb.out e.symm) _) (by intro e; exact hvb.out e.symm) _
end Go.Proofs.YtnmnfbibjghjhaaDoor
