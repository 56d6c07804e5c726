/-
  The kit's walks: mark, LentInts, KeptInts.
-/
import Derived.Deep.QuietTactic
import Derived.Laws.AppendOwnNone
import Derived.Test.YtnmnfbibjghjhaaDoorEb
namespace Go.Proofs.YtnmnfbibjghjhaaDoor
open Go.RowKit Dig

/-- A slice of numbers as it was handed in. -/
def IntSrc (W : World) (v : Value) (l : List Int) : Prop := (v = .slice none 0 0 ∧ l = []) ∨ ∃ a c, v = .slice (some a) l.length c ∧ (l = [] ∨ ∃ b o, some a = some (⟨b, o, none⟩ : Addr) ∧ b < W.heap.size ∧ ∀ (j : Nat) (x : Int), l[j]? = some x → W.cell? ⟨b, o + j, none⟩ = some (.int .i64 x))
theorem IntSrc.row {W : World} {v : Value} {l : List Int} (h : IntSrc W v l) : IntRow W v l := by
  rcases h with ⟨rfl, rfl⟩ | ⟨a, c, rfl, hc⟩
  · exact ⟨none, 0, rfl, .inl rfl⟩
  · exact ⟨_, c, rfl, hc⟩
theorem IntSrc.below {B : Nat} {W W' : World} {v : Value} {l : List Int} (h : IntSrc W v l) (hB : W.heap.size ≤ B) (hb : Below B W W') : IntSrc W' v l := by
  rcases h with h | ⟨a, c, rfl, hc⟩
  · exact .inl h
  · refine .inr ⟨a, c, rfl, hc.imp id ?_⟩
    rintro ⟨b, o, ha, hlt, hc⟩
    exact ⟨b, o, ha, Nat.lt_of_lt_of_le hlt hb.size, fun j x hx => (hb.cell (p := ⟨b, o + j, none⟩) (Nat.lt_of_lt_of_le hlt hB)).trans (hc j x hx)⟩
def intCells (l : List Int) : List Value := l.map fun x => .int .i64 x
def marks (i : Nat) : List Int := (List.range i).map fun (j : Nat) => (8000024 + (j : Int) : Int)
theorem marks_succ (i : Nat) : marks (i + 1) = marks i ++ [8000024 + (i : Int)] := by unfold marks; rw [List.range_succ, List.map_append]; rfl
theorem intCells_append (a b : List Int) : intCells (a ++ b) = intCells a ++ intCells b := by simp [intCells]
theorem intCells_one (l : List Int) : ∀ u ∈ intCells l, u.oneCell' = true := by
  intro u hu
  obtain ⟨x, _, rfl⟩ := List.mem_map.1 hu
  rfl

set_option maxHeartbeats 1000000 in
theorem mark_any (i : Nat) (w : World) (hi : i < 1000) :
    Calls Tryd.prog 39 #[.int .i64 1, .int .i64 i] w fun e w' => e = .returned (.int .i64 (8000024 + (i : Int))) ∧ w' = w := by
  have hw : IntKind.i64.wrap (8000024 + (i : Int)) = 8000024 + (i : Int) := by rw [IntKind.wrap_i64]; omega
  go_enter Tryd.func39, Tryd.ntmps39
  go_wp2
  go_ret
  exact ⟨rfl, rfl⟩

set_option maxHeartbeats 4000000 in
theorem lent_any (l : List Int) (v : Value) (w : World) (hs : IntSrc w v l) (hl : l.length ≤ 20) :
    Calls Tryd.prog 23 #[v] w fun e w' => ∃ g cap, e = .returned (.slice (some ⟨g, 0, none⟩) l.length cap) ∧ l.length + 12 ≤ cap ∧ w'.ownsRow w.heap.size 3 1 (.slice (some ⟨g, 0, none⟩) (l.length + 12) cap) (l.length + 12) (intCells (l ++ marks 12)) ∧ Below w.heap.size w w' := by
  obtain ⟨i0, hi, hi0, hi1, hi2⟩ := info_parts Tryd.info3
  obtain ⟨n, hn⟩ : ∃ n, l.length = n := ⟨_, rfl⟩
  obtain ⟨N, hN⟩ : ∃ N, n + 12 = N := ⟨_, rfl⟩
  have hwN : IntKind.i64.wrap ((n : Int) + 12) = (N : Int) := by rw [IntKind.wrap_i64]; omega
  have main : ∀ p c, v = .slice p n c → Calls Tryd.prog 23 #[v] w fun e w' => ∃ g cap, e = .returned (.slice (some ⟨g, 0, none⟩) n cap) ∧ N ≤ cap ∧ w'.ownsRow w.heap.size 3 1 (.slice (some ⟨g, 0, none⟩) N cap) N (intCells (l ++ marks 12)) ∧ Below w.heap.size w w' := by
    intro p c hv
    subst hv
    have HS := Lib.hid hs
    have HN := Lib.hid hn
    rw [hn] at hl
    clear hs hn
    go_enter Tryd.func23, Tryd.ntmps23
    go_upto_region 2 with (at_make; refine wpList_make_own _ rfl _ _ 23 rfl w.heap.size 3 i0 (.int .i64 0) 1 Tryd.underlying23 hi hi0 hi1 _ _ _ N rfl rfl rfl (by rw [hi2]; omega) (by unfold maxLen; omega) (Nat.le_refl _) ?_; intro w1 ho1 hg1)
    have hB1 : Below w.heap.size w w1 := (Below.refl _ w).grown hg1 (Nat.le_refl _) (fun j hj => by cases hj)
    go_cut [3] from 3 to 11 (fun ov wx => wx.ownsRow w.heap.size 3 1 ov n (intCells l) ∧ Below w.heap.size w wx)
    case first =>
      rcases HS.out with ⟨hv0, hl0⟩ | ⟨ad, c', hv0, hcs⟩
      · simp only [Value.slice.injEq] at hv0
        obtain ⟨rfl, hn0, rfl⟩ := hv0
        subst hn0
        have HL0 := Lib.hid hl0
        clear hl0
        go_wp2_with (at_builtin; refine wpList_append_own_none rfl _ _ 23 rfl w.heap.size 3 i0 1 Tryd.underlying23 hi _ 0 [] rfl ho1 rfl ?_)
        go_meet
        exact ⟨by rw [HL0.out]; exact ho1, hB1⟩
      · simp only [Value.slice.injEq] at hv0
        obtain ⟨rfl, hn0, rfl⟩ := hv0
        clear hn0
        have hsrc : ∀ j u, (intCells l)[j]? = some u → w1.cell? (ad.add j) = some u := fun j u hu => by
          unfold intCells at hu
          rw [List.getElem?_map] at hu
          obtain ⟨x, hx, rfl⟩ := Option.map_eq_some_iff.1 hu
          rcases hcs with h0 | ⟨b, o, hab, hbl, hcs⟩
          · rw [h0] at hx; cases hx
          · cases hab
            rw [addr_add]
            exact (hB1.cell (p := ⟨b, o + j, none⟩) hbl).trans (hcs j x hx)
        have HSR := Lib.hid hsrc
        clear hsrc hcs
        have hsz := hB1.size
        go_wp2_with (at_builtin; refine wpList_append_own _ rfl _ _ 23 rfl w.heap.size 3 i0 (.int .i64 0) 1 8 Tryd.underlying23 hi hi0 hi1 hi2 rfl (by decide) _ 0 [] rfl ho1 ad n c (intCells l) rfl (by simp [intCells, HN.out]) HSR.out (intCells_one l) (by unfold maxLen; omega) (by omega) hsz ?_; intro v' w4 hown' hgrow _)
        go_meet
        exact ⟨by rw [Nat.zero_add, List.nil_append] at hown'; exact hown', hB1.grown hgrow hsz (fun j hj => ownsRow_base ho1 j hj)⟩
    case rest =>
      clear ho1 hg1 hB1
      obtain ⟨ho2, hB2⟩ := hcut
      obtain ⟨p2, c2, rfl⟩ := ownsRow_form ho2
      go_wp2_with fail
      go_loopw [3, 4] (fun ov iv wr => ∃ i : Nat, iv = .int .i64 i ∧ i ≤ 12 ∧ wr.ownsRow w.heap.size 3 1 ov (n + i) (intCells (l ++ marks i)) ∧ Below w.heap.size w wr)
        (fun _ iv _ => 12 - (intOf iv).toNat)
      case atStart => exact ⟨0, rfl, by omega, by rw [show l ++ marks 0 = l from List.append_nil l]; exact ho2, hB2⟩
      case round =>
        clear ho2 hB2
        obtain ⟨i, rfl, hi12, xo, xB⟩ := hrel
        obtain ⟨pp, cp, rfl⟩ := ownsRow_form xo
        have hwi : IntKind.i64.wrap ((i : Int) + 1) = (i : Int) + 1 := by rw [IntKind.wrap_i64]; omega
        by_cases hlt : i < 12
        · have hlti : (i : Int) < 12 := by omega
          go_wp2_with fail
          refine (mark_any i _ (by omega)).mono ?_
          rintro e w3 ⟨rfl, rfl⟩
          go_wp2_with (at_builtin; refine wpList_append_own _ rfl _ _ 23 rfl w.heap.size 3 i0 (.int .i64 0) 1 8 Tryd.underlying23 hi hi0 hi1 hi2 rfl (by decide) _ _ _ rfl (xo.alloc _) ⟨w3.heap.size, 0, none⟩ 1 1 [.int .i64 (8000024 + (i : Int))] rfl rfl ((BlockAt.new w3 #[.int .i64 (8000024 + (i : Int))] 3).newCells rfl) (by intro u hu; rw [List.mem_singleton.1 hu]; rfl) (by unfold maxLen; omega) (by omega) (by simp; have := xB.size; omega) ?_; intro v' w4 hown' hgrow _)
          go_roundw
          case rel => exact ⟨i + 1, by go_num, by omega, by rw [marks_succ, ← List.append_assoc, intCells_append]; exact hown', (xB.alloc xB.size _).grown hgrow (by simp; have := xB.size; omega) (fun j hj => ownsRow_base xo j hj)⟩
          case measure => simp [intOf] <;> omega
        · have hie : i = 12 := by omega
          subst hie
          rw [hN] at xo
          have hlti : ¬ ((12 : Nat) : Int) < 12 := by omega
          have XO := Lib.hid xo
          obtain ⟨_, hx2⟩ := xo
          rcases hx2 with ⟨_, h0⟩ | ⟨g, cap, cur, he, _, _, hnc, _⟩
          · omega
          · simp only [Value.slice.injEq] at he
            obtain ⟨rfl, hx, rfl⟩ := he
            clear hx
            have hnci : (n : Int) ≤ (cp : Int) := by omega
            have HNC := Lib.hid hnc
            clear hnc
            go_wp2
            go_ret
            exact ⟨g, cp, rfl, HNC.out, XO.out, xB⟩
  have hs2 := hs
  rw [hn, hN]
  rcases hs2 with ⟨h1, h2⟩ | ⟨ad, c, h1, _⟩
  · exact main none 0 (by rw [h1, ← hn, h2]; rfl)
  · exact main _ c (by rw [h1, hn])

set_option maxHeartbeats 4000000 in
/-- What LentInts leaves: the numbers, and the marks behind them. -/
theorem kept_any (l : List Int) (v : Value) (g n cap : Nat) (w : World) (hs : IntRow w v l) (hn : l.length = n) (hl : n ≤ 20) (hcap : n + 12 ≤ cap) (hg : g < w.heap.size) (hc : ∀ (j : Nat) (x : Int), (l ++ marks 12)[j]? = some x → w.cell? ⟨g, j, none⟩ = some (.int .i64 x)) :
    Calls Tryd.prog 26 #[.slice (some ⟨g, 0, none⟩) n cap, v] w fun e w' => e = .returned (.bool true) ∧ Below w.heap.size w w' := by
  obtain ⟨p, c, rfl, hcs⟩ := hs
  rw [hn]
  have HS := Lib.hid hcs
  have HC := Lib.hid hc
  have HN := Lib.hid hn
  clear hcs hc hn
  obtain ⟨N, hN⟩ : ∃ N, n + 12 = N := ⟨_, rfl⟩
  have hwN : IntKind.i64.wrap ((n : Int) + 12) = (N : Int) := by rw [IntKind.wrap_i64]; omega
  have hNc : (N : Int) ≤ (cap : Int) := by omega
  go_enter Tryd.func26, Tryd.ntmps26
  go_wp2_with fail
  go_loopw [6] (fun iv wr => ∃ i : Nat, iv = .int .i64 i ∧ i ≤ N ∧ Below w.heap.size w wr)
    (fun iv _ => N - (intOf iv).toNat)
  case atStart => exact ⟨0, rfl, by omega, Below.refl _ w⟩
  case round =>
    obtain ⟨i, rfl, hi, hY⟩ := hrel
    have hwi : IntKind.i64.wrap ((i : Int) + 1) = (i : Int) + 1 := by rw [IntKind.wrap_i64]; omega
    by_cases hiN : i < N
    · have hiNi : (i : Int) < (N : Int) := by omega
      by_cases hin : i < n
      · have hini : (i : Int) < (n : Int) := by omega
        have hinj : ¬ (n : Int) ≤ (i : Int) := by omega
        obtain ⟨x, hx⟩ : ∃ x, l[i]? = some x := ⟨_, List.getElem?_eq_getElem (by rw [HN.out]; exact hin)⟩
        obtain ⟨b, o, rfl, hbl, hcx⟩ : ∃ b o, p = some ⟨b, o, none⟩ ∧ b < w.heap.size ∧ w.cell? ⟨b, o + i, none⟩ = some (.int .i64 x) := by
          rcases HS.out with h0 | ⟨b, o, hq, hb, hc⟩
          · rw [h0] at hx; cases hx
          · exact ⟨b, o, hq, hb, hc i x hx⟩
        have hcx := (hY.cell (p := ⟨b, o + i, none⟩) hbl).trans hcx
        have hcg := (hY.cell (p := ⟨g, i, none⟩) hg).trans (HC.out i x (by rw [List.getElem?_append_left (by rw [HN.out]; exact hin)]; exact hx))
        have hd : decide ((n : Int) ≤ (i : Int)) = false := decide_eq_false hinj
        clear hx
        go_upto_region 7 with fail
        go_quiet (fail)
        go_wp2
        go_roundw
        case rel => exact ⟨i + 1, by go_num, by omega, ⟨hY.os, hY.tape, hY.output, hY.size, hY.block⟩⟩
        case measure => simp [intOf] <;> omega
      · have hini : ¬ (i : Int) < (n : Int) := by omega
        have hinj : (n : Int) ≤ (i : Int) := by omega
        obtain ⟨q, hq⟩ : ∃ q, i - n = q := ⟨_, rfl⟩
        have hwq : IntKind.i64.wrap ((i : Int) - (n : Int)) = (q : Int) := by rw [IntKind.wrap_i64]; omega
        have hq1000 : q < 1000 := by omega
        have hcg := (hY.cell (p := ⟨g, i, none⟩) hg).trans (HC.out i (8000024 + (q : Int)) (by
          rw [List.getElem?_append_right (by rw [HN.out]; omega), HN.out, hq]
          unfold marks
          rw [List.getElem?_map, List.getElem?_range (by omega)]; rfl))
        have hd : decide ((i : Int) < (n : Int)) = false := decide_eq_false hini
        clear hq
        go_upto_region 7 with fail
        go_quiet (first | (go_at_call 39; refine Calls.quiet_of_same (mark_any q _ hq1000)) | fail)
        go_wp2
        go_roundw
        case rel => exact ⟨i + 1, by go_num, by omega, ⟨hY.os, hY.tape, hY.output, hY.size, hY.block⟩⟩
        case measure => simp [intOf] <;> omega
    · have hiNi : ¬ (i : Int) < (N : Int) := by omega
      go_wp2
      go_ret
      exact ⟨rfl, hY⟩
end Go.Proofs.YtnmnfbibjghjhaaDoor
