/-
  The reference's walk of Misses.
-/
import Derived.Test.YtnmnfbibjghjhaaDoorDl
import Derived.Test.YtnmnfbibjghjhaaDoorEk
import Derived.Test.YtnmnfbibjghjhaaDoorDwc
namespace Go.Proofs.YtnmnfbibjghjhaaDoor
open Go.RowKit Dig

def mTo (k : Nat) (us : List Nat) (n i : Nat) : List Miss4 := if k = 4 then [] else missTo k us n i
def mSq (k : Nat) (us : List Nat) (n i a : Nat) : List Miss4 := if k = 4 then [] else missSq k us n i a
def mRow (k : Nat) (us : List Nat) (n i a b : Nat) : List Miss4 := if k = 4 then [] else missRow k us n i a b
theorem mRow_start (k : Nat) (us : List Nat) (n i a : Nat) : mRow k us n i a (a + 1) = [] := by unfold mRow; rw [missRow_start]; split <;> rfl
theorem mRow_step (k : Nat) (us : List Nat) (n i a b : Nat) (h : a < b) : mRow k us n i a (b + 1) = mRow k us n i a b ++ (if refMiss k us (swOf n i) (atOf n i) a b = true then [(swOf n i, atOf n i, a, b)] else []) := by
  unfold mRow refMiss
  by_cases hk : k = 4
  · rw [if_pos hk, if_pos hk, if_pos hk, if_neg (by decide)]; rfl
  · rw [if_neg hk, if_neg hk, if_neg hk]; exact missRow_step k us n i a b h
theorem mSq_start (k : Nat) (us : List Nat) (n i : Nat) : mSq k us n i 0 = [] := by unfold mSq; split <;> rfl
theorem mSq_step (k : Nat) (us : List Nat) (n i a : Nat) : mSq k us n i (a + 1) = mSq k us n i a ++ mRow k us n i a 10 := by
  unfold mSq mRow
  by_cases hk : k = 4
  · rw [if_pos hk, if_pos hk, if_pos hk]; rfl
  · rw [if_neg hk, if_neg hk, if_neg hk]; unfold missSq; rw [flat_succ]
theorem mTo_one (k : Nat) (us : List Nat) (n : Nat) : mTo k us n 1 = [] := by unfold mTo; split <;> rfl
theorem mTo_step (k : Nat) (us : List Nat) (n i : Nat) (h : i ≠ 0) : mTo k us n (i + 1) = mTo k us n i ++ mSq k us n i 10 := by
  unfold mTo mSq
  by_cases hk : k = 4
  · rw [if_pos hk, if_pos hk, if_pos hk]; rfl
  · rw [if_neg hk, if_neg hk, if_neg hk]; unfold missTo; rw [flat_succ, if_neg h]
theorem Tryd.info68 : (Tryd.prog.info? 68).map (fun i => (i.zero, i.size, i.bytes)) = some (some (.agg #[.bool false, .int .i64 0, .int .i64 0, .int .i64 0]), 4, 32) := by kernel_rfl
theorem missCells_len : ∀ l : List Miss4, (missCells l).length = l.length * 4
  | [] => rfl
  | x :: l => by show (Miss4.cells x ++ missCells l).length = _; rw [List.length_append, missCells_len l]; show 4 + _ = _; rw [List.length_cons]; omega

set_option maxRecDepth 100000 in
set_option maxHeartbeats 16000000 in
theorem rmisses_any (k : Nat) (ws : List Int) (v : Value) (N : Int) (w : World) (hr : IntRow w v ws) :
    Calls Tryd.prog 24 #[.int .u8 k, v, .int .i64 N] w fun e w' => ((missErr k ws N = 0 ∧ ∃ v', e = .returned (.tuple #[v', .int .i64 0]) ∧ w'.ownsRow w.heap.size 68 4 v' (missList k (natsOf ws) N.toNat).length (missCells (missList k (natsOf ws) N.toNat))) ∨
      (missErr k ws N ≠ 0 ∧ e = .returned (.tuple #[.slice none 0 0, .int .i64 (missErr k ws N : Nat)]))) ∧ Below w.heap.size w w' := by
  have hrr := rright_any k ws v w hr
  have HR := Lib.hid hr
  obtain ⟨p, c, rfl, _⟩ := hr
  have HRR := Lib.hid hrr
  obtain ⟨i0, hi, hi0, hi1, hi2⟩ := info_parts Tryd.info68
  obtain ⟨E, hE⟩ : ∃ E, missErr k ws N = E := ⟨_, rfl⟩
  rw [hE]
  have H1 := Lib.hid hE
  clear hE hrr
  go_enter Tryd.func24, Tryd.ntmps24
  go_wp2_with fail
  refine HRR.out.mono ?_
  rintro e w1 ⟨rfl, hb1⟩
  cases hR : rightB k ws with
  | false =>
    have he : E = 160 := by rw [← H1.out]; unfold missErr; rw [if_pos hR]
    subst he
    go_wp2
    go_ret2
    exact ⟨.inr ⟨by decide, rfl⟩, hb1⟩
  | true =>
    have HRt := Lib.hid hR
    clear hR
    by_cases hn1 : N < 1
    · have he : E = 2 := by rw [← H1.out]; unfold missErr; rw [if_neg (by rw [HRt.out]; decide), if_pos (.inl hn1)]
      subst he
      go_wp2
      go_ret2
      exact ⟨.inr ⟨by decide, rfl⟩, hb1⟩
    · by_cases hn30 : 30 < N
      · have he : E = 2 := by rw [← H1.out]; unfold missErr; rw [if_neg (by rw [HRt.out]; decide), if_pos (.inr hn30)]
        subst he
        have hn1i : 1 ≤ N := by omega
        go_wp2
        go_ret2
        exact ⟨.inr ⟨by decide, rfl⟩, hb1⟩
      · have he : E = 0 := by rw [← H1.out]; unfold missErr; rw [if_neg (by rw [HRt.out]; decide), if_neg (by omega)]
        subst he
        obtain ⟨n, rfl⟩ : ∃ n : Nat, N = (n : Int) := ⟨N.toNat, by omega⟩
        have hnn1 : 1 ≤ n := by omega
        have hnn30 : n ≤ 30 := by omega
        have hn1i : (1 : Int) ≤ (n : Int) := by omega
        have hn30i : (n : Int) ≤ 30 := by omega
        have hwn : IntKind.i64.wrap (n : Int) = (n : Int) := by rw [IntKind.wrap_i64]; omega
        have hwn1 : IntKind.i64.wrap ((n : Int) - 1) = (n : Int) - 1 := by rw [IntKind.wrap_i64]; omega
        obtain ⟨hwsn, hok⟩ := right_nats HRt.out
        obtain ⟨us, hus⟩ : ∃ us, natsOf ws = us := ⟨_, rfl⟩
        rw [hus] at hok hwsn
        have hwrow : ∀ W : World, Below w.heap.size w W → NatRow W (.slice p ws.length c) us := fun W h => IntRow.nat (by rw [show ints us = ws from hwsn.symm]; exact HR.out.below (Nat.le_refl _) h)
        have HWR := Lib.hid hwrow
        have HOK := Lib.hid hok
        have HML : Hid (missList k (natsOf ws) (n : Int).toNat = mTo k us n (2 * n)) := Lib.hid (by rw [hus]; rfl)
        have HML2 : Hid (missList k (natsOf ws) n = mTo k us n (2 * n)) := Lib.hid (by rw [hus]; rfl)
        clear hn1 hn30 hwrow hok hus hwsn
        go_wp2_with fail
        go_loopw [8, 9] (fun ov rv wr => ∃ r cnt : Nat, rv = .int .i64 r ∧ r ≤ 2 ∧ cnt ≤ 6000 ∧ wr.ownsRow w.heap.size 68 4 ov cnt (missCells (mTo k us n (if r = 0 then 1 else if r = 1 then n + 1 else 2 * n))) ∧ Below w.heap.size w wr)
          (fun _ rv _ => 2 - (intOf rv).toNat)
        case atStart => exact ⟨0, 0, rfl, by omega, by omega, by rw [if_pos rfl, mTo_one]; exact World.ownsRow_nil _ _ _ _, hb1⟩
        case round =>
          clear hb1
          obtain ⟨r, cnt, rfl, hr2, hcnt, ho, hY⟩ := hrel
          rcases (by omega : r = 0 ∨ r = 1 ∨ r = 2) with rfl | rfl | rfl
          · rw [show ((0 : Nat) : Int) = 0 from rfl]
            obtain ⟨pv, cv, rfl⟩ := ownsRow_form ho
            have ho1 : wr.ownsRow w.heap.size 68 4 (.slice pv cnt cv) cnt (missCells (mTo k us n (1))) := by
              rw [if_pos rfl] at ho
              exact ho
            have hlen := ho1.1
            rw [missCells_len] at hlen
            have hcnt1 : cnt ≤ 100 * (1) := by
              have h1 : (mTo k us n (1)).length ≤ 100 * (1) := by
                unfold mTo
                split
                · simp
                · exact flat_le _ 100 (fun i => by
                    show (if i = 0 then [] else missSq k us n i 10).length ≤ 100
                    split
                    · simp
                    · exact flat_le _ 10 (fun a => by unfold missRow; rw [List.length_map]; exact range_filter_le _ 10) 10) _
              omega
            clear ho hlen hcnt
            go_wp2_with fail
            go_loopw [8, 10] (fun ov tv wr => ∃ t cnt : Nat, tv = .int .i64 t ∧ 1 ≤ t ∧ t ≤ n + 1 ∧ cnt ≤ 100 * (t) ∧ wr.ownsRow w.heap.size 68 4 ov cnt (missCells (mTo k us n (t))) ∧ Below w.heap.size w wr)
              (fun _ tv _ => n + 1 - (intOf tv).toNat)
            case atStart => exact ⟨1, cnt, rfl, by omega, by omega, hcnt1, ho1, hY⟩
            case round =>
              clear ho1 hY hcnt1
              obtain ⟨t, cnt, rfl, ht1, htn, hcnt, ho, hY⟩ := hrel
              have hwt : IntKind.i64.wrap ((t : Int) + 1) = (t : Int) + 1 := by rw [IntKind.wrap_i64]; omega
              by_cases htl : t ≤ n
              · have htli : (t : Int) ≤ (n : Int) := by omega
                have hsB : swOf n (t) = false := decide_eq_false (by omega)
                have hAt : atOf n (t) = t := by unfold atOf; rw [if_neg (by omega)]
                have HSB := Lib.hid hsB
                have HAt := Lib.hid hAt
                clear hsB hAt
                go_wp2_with fail
                go_loopw [8, 11] (fun ov av wr => ∃ a cnt : Nat, av = .int .i64 a ∧ a ≤ 10 ∧ cnt ≤ 100 * (t) + 10 * a ∧ wr.ownsRow w.heap.size 68 4 ov cnt (missCells (mTo k us n (t) ++ mSq k us n (t) a)) ∧ Below w.heap.size w wr)
                  (fun _ av _ => 10 - (intOf av).toNat)
                case atStart => exact ⟨0, cnt, rfl, by omega, by omega, by rw [mSq_start, List.append_nil]; exact ho, hY⟩
                case round =>
                  clear ho hY hcnt
                  obtain ⟨a, cnt, rfl, ha10, hcnt, ho, hY⟩ := hrel
                  have hwa : IntKind.i64.wrap ((a : Int) + 1) = (a : Int) + 1 := by rw [IntKind.wrap_i64]; omega
                  by_cases hla : a < 10
                  · have hlai : (a : Int) < 10 := by omega
                    go_wp2_with fail
                    go_loopw [8, 12] (fun ov bv wr => ∃ b cnt : Nat, bv = .int .i64 b ∧ a < b ∧ b ≤ 10 ∧ cnt ≤ 100 * (t) + 10 * a + b ∧ wr.ownsRow w.heap.size 68 4 ov cnt (missCells (mTo k us n (t) ++ mSq k us n (t) a ++ mRow k us n (t) a b)) ∧ Below w.heap.size w wr)
                      (fun _ bv _ => 10 - (intOf bv).toNat)
                    case atStart => exact ⟨a + 1, cnt, by go_num, by omega, by omega, by omega, by rw [mRow_start, List.append_nil]; exact ho, hY⟩
                    case round =>
                      clear ho hY hcnt
                      obtain ⟨b, cnt, rfl, hab, hb10, hcnt, ho, hY⟩ := hrel
                      obtain ⟨pp, cc, rfl⟩ := ownsRow_form ho
                      have hwb : IntKind.i64.wrap ((b : Int) + 1) = (b : Int) + 1 := by rw [IntKind.wrap_i64]; omega
                      by_cases hlb : b < 10
                      · have hlbi : (b : Int) < 10 := by omega
                        have hYa : Below w.heap.size w (wr.alloc (.cells #[.bool false, .int .i64 (t : Int), .int .i64 (a : Int), .int .i64 (b : Int)] 68)) := hY.alloc hY.size _
                        have hxa : BlockAt (wr.alloc (.cells #[.bool false, .int .i64 (t : Int), .int .i64 (a : Int), .int .i64 (b : Int)] 68)) wr.heap.size #[.bool false, .int .i64 (t : Int), .int .i64 (a : Int), .int .i64 (b : Int)] 68 := BlockAt.new wr _ 68
                        have hoa := ho.alloc (.cells #[.bool false, .int .i64 (t : Int), .int .i64 (a : Int), .int .i64 (b : Int)] 68)
                        have hms := missed_any k us (.slice p ws.length c) n t a b false (wr.alloc (.cells #[.bool false, .int .i64 (t : Int), .int .i64 (a : Int), .int .i64 (b : Int)] 68)) HOK.out (HWR.out _ hYa) ht1 (by rw [if_neg (by decide)]; exact htl) hnn30 hab hlb
                        have hstep := mRow_step k us n (t) a b hab
                        rw [HSB.out, HAt.out] at hstep
                        obtain ⟨mb, hmb⟩ : ∃ mb, refMiss k us false t a b = mb := ⟨_, rfl⟩
                        rw [hmb] at hms hstep
                        have HMS := Lib.hid hms
                        have HST := Lib.hid hstep
                        clear hms hstep hmb ho hY
                        go_wp2_with fail
                        refine HMS.out.mono ?_
                        rintro e w6 ⟨rfl, hb6⟩
                        have ho6 := ownsRow_none hoa hb6
                        have hY6 := hYa.trans (hb6.mono hYa.size)
                        obtain ⟨c0, c1, c2, c3⟩ := box_four (hxa.below hb6)
                        have vx := (hxa.below hb6).lt
                        clear hoa hYa hxa hb6
                        cases mb with
                        | true =>
                          have HS2 := Lib.hid (HST.out.trans (by rw [if_pos rfl]))
                          clear HST
                          go_wp2_with (at_builtin; refine wpList_append_own _ rfl _ _ 45 rfl w.heap.size 68 i0 (.agg #[.bool false, .int .i64 0, .int .i64 0, .int .i64 0]) 4 32 Tryd.underlying45 hi hi0 hi1 hi2 rfl (by decide) _ _ _ rfl (ho6.alloc _) ⟨w6.heap.size, 0, none⟩ 1 1 (missCells [(false, t, a, b)]) rfl rfl ((BlockAt.new w6 #[.bool false, .int .i64 (t : Int), .int .i64 (a : Int), .int .i64 (b : Int)] 68).newCells rfl) (by intro u hu; simp [missCells, Miss4.cells] at hu; rcases hu with rfl | rfl | rfl | rfl <;> rfl) (by unfold maxLen; omega) (by omega) (by simp; have := hY6.size; omega) ?_; intro v' w7 hown' hgrow _)
                          go_roundw
                          case rel => exact ⟨b + 1, cnt + 1, by go_num, by omega, by omega, by omega, by rw [HS2.out, ← List.append_assoc, missCells_append (_ ++ _)]; exact hown', ((hY6.alloc hY6.size _).grown hgrow (by simp; have := hY6.size; omega) (fun j hj => ownsRow_base ho6 j hj))⟩
                          case measure => simp [intOf] <;> omega
                        | false =>
                          have HS2 := Lib.hid (HST.out.trans (by rw [if_neg (by decide), List.append_nil]))
                          clear HST
                          go_wp2
                          go_roundw
                          case rel => exact ⟨b + 1, cnt, by go_num, by omega, by omega, by omega, by rw [HS2.out]; exact ho6, hY6⟩
                          case measure => simp [intOf] <;> omega
                      · obtain rfl : b = 10 := by omega
                        have hlbi : ¬ ((10 : Nat) : Int) < 10 := by omega
                        go_wp2
                        go_roundw
                        case rel => exact ⟨a + 1, cnt, by go_num, by omega, by omega, by rw [mSq_step, ← List.append_assoc]; exact ho, hY⟩
                        case measure => simp [intOf] <;> omega
                  · obtain rfl : a = 10 := by omega
                    have hlai : ¬ ((10 : Nat) : Int) < 10 := by omega
                    obtain ⟨pp, cc, rfl⟩ := ownsRow_form ho
                    go_wp2
                    go_roundw
                    case rel => exact ⟨t + 1, cnt, by go_num, by omega, by omega, by omega, by rw [show (t + 1) = t + 1 from by omega, mTo_step _ _ _ _ (by omega)]; exact ho, hY⟩
                    case measure => simp [intOf] <;> omega
              · have htli : ¬ (t : Int) ≤ (n : Int) := by omega
                have hte : t = n + 1 := by omega
                rw [hte] at ho
                have hcnt6 : cnt ≤ 6000 := by omega
                obtain ⟨pp, cc, rfl⟩ := ownsRow_form ho
                have HO := Lib.hid ho
                clear ho hte
                go_wp2
                go_roundw
                case rel => exact ⟨1, cnt, by go_num, by omega, hcnt6, by rw [if_neg (by decide), if_pos rfl]; exact HO.out, hY⟩
                case measure => simp [intOf]
          · rw [show ((1 : Nat) : Int) = 1 from rfl]
            obtain ⟨pv, cv, rfl⟩ := ownsRow_form ho
            have ho1 : wr.ownsRow w.heap.size 68 4 (.slice pv cnt cv) cnt (missCells (mTo k us n (n + 1))) := by
              rw [if_neg (by decide), if_pos rfl] at ho
              exact ho
            have hlen := ho1.1
            rw [missCells_len] at hlen
            have hcnt1 : cnt ≤ 100 * (n + 1) := by
              have h1 : (mTo k us n (n + 1)).length ≤ 100 * (n + 1) := by
                unfold mTo
                split
                · simp
                · exact flat_le _ 100 (fun i => by
                    show (if i = 0 then [] else missSq k us n i 10).length ≤ 100
                    split
                    · simp
                    · exact flat_le _ 10 (fun a => by unfold missRow; rw [List.length_map]; exact range_filter_le _ 10) 10) _
              omega
            clear ho hlen hcnt
            go_wp2_with fail
            go_loopw [8, 10] (fun ov tv wr => ∃ t cnt : Nat, tv = .int .i64 t ∧ 1 ≤ t ∧ t ≤ n - 1 + 1 ∧ cnt ≤ 100 * (n + t) ∧ wr.ownsRow w.heap.size 68 4 ov cnt (missCells (mTo k us n (n + t))) ∧ Below w.heap.size w wr)
              (fun _ tv _ => n + 1 - (intOf tv).toNat)
            case atStart => exact ⟨1, cnt, rfl, by omega, by omega, hcnt1, ho1, hY⟩
            case round =>
              clear ho1 hY hcnt1
              obtain ⟨t, cnt, rfl, ht1, htn, hcnt, ho, hY⟩ := hrel
              have hwt : IntKind.i64.wrap ((t : Int) + 1) = (t : Int) + 1 := by rw [IntKind.wrap_i64]; omega
              by_cases htl : t ≤ n - 1
              · have htli : (t : Int) ≤ (n : Int) - 1 := by omega
                have hsB : swOf n (n + t) = true := decide_eq_true (by omega)
                have hAt : atOf n (n + t) = t := by unfold atOf; rw [if_pos (by omega)]; omega
                have HSB := Lib.hid hsB
                have HAt := Lib.hid hAt
                clear hsB hAt
                go_wp2_with fail
                go_loopw [8, 11] (fun ov av wr => ∃ a cnt : Nat, av = .int .i64 a ∧ a ≤ 10 ∧ cnt ≤ 100 * (n + t) + 10 * a ∧ wr.ownsRow w.heap.size 68 4 ov cnt (missCells (mTo k us n (n + t) ++ mSq k us n (n + t) a)) ∧ Below w.heap.size w wr)
                  (fun _ av _ => 10 - (intOf av).toNat)
                case atStart => exact ⟨0, cnt, rfl, by omega, by omega, by rw [mSq_start, List.append_nil]; exact ho, hY⟩
                case round =>
                  clear ho hY hcnt
                  obtain ⟨a, cnt, rfl, ha10, hcnt, ho, hY⟩ := hrel
                  have hwa : IntKind.i64.wrap ((a : Int) + 1) = (a : Int) + 1 := by rw [IntKind.wrap_i64]; omega
                  by_cases hla : a < 10
                  · have hlai : (a : Int) < 10 := by omega
                    go_wp2_with fail
                    go_loopw [8, 12] (fun ov bv wr => ∃ b cnt : Nat, bv = .int .i64 b ∧ a < b ∧ b ≤ 10 ∧ cnt ≤ 100 * (n + t) + 10 * a + b ∧ wr.ownsRow w.heap.size 68 4 ov cnt (missCells (mTo k us n (n + t) ++ mSq k us n (n + t) a ++ mRow k us n (n + t) a b)) ∧ Below w.heap.size w wr)
                      (fun _ bv _ => 10 - (intOf bv).toNat)
                    case atStart => exact ⟨a + 1, cnt, by go_num, by omega, by omega, by omega, by rw [mRow_start, List.append_nil]; exact ho, hY⟩
                    case round =>
                      clear ho hY hcnt
                      obtain ⟨b, cnt, rfl, hab, hb10, hcnt, ho, hY⟩ := hrel
                      obtain ⟨pp, cc, rfl⟩ := ownsRow_form ho
                      have hwb : IntKind.i64.wrap ((b : Int) + 1) = (b : Int) + 1 := by rw [IntKind.wrap_i64]; omega
                      by_cases hlb : b < 10
                      · have hlbi : (b : Int) < 10 := by omega
                        have hYa : Below w.heap.size w (wr.alloc (.cells #[.bool true, .int .i64 (t : Int), .int .i64 (a : Int), .int .i64 (b : Int)] 68)) := hY.alloc hY.size _
                        have hxa : BlockAt (wr.alloc (.cells #[.bool true, .int .i64 (t : Int), .int .i64 (a : Int), .int .i64 (b : Int)] 68)) wr.heap.size #[.bool true, .int .i64 (t : Int), .int .i64 (a : Int), .int .i64 (b : Int)] 68 := BlockAt.new wr _ 68
                        have hoa := ho.alloc (.cells #[.bool true, .int .i64 (t : Int), .int .i64 (a : Int), .int .i64 (b : Int)] 68)
                        have hms := missed_any k us (.slice p ws.length c) n t a b true (wr.alloc (.cells #[.bool true, .int .i64 (t : Int), .int .i64 (a : Int), .int .i64 (b : Int)] 68)) HOK.out (HWR.out _ hYa) ht1 (by rw [if_pos rfl]; omega) hnn30 hab hlb
                        have hstep := mRow_step k us n (n + t) a b hab
                        rw [HSB.out, HAt.out] at hstep
                        obtain ⟨mb, hmb⟩ : ∃ mb, refMiss k us true t a b = mb := ⟨_, rfl⟩
                        rw [hmb] at hms hstep
                        have HMS := Lib.hid hms
                        have HST := Lib.hid hstep
                        clear hms hstep hmb ho hY
                        go_wp2_with fail
                        refine HMS.out.mono ?_
                        rintro e w6 ⟨rfl, hb6⟩
                        have ho6 := ownsRow_none hoa hb6
                        have hY6 := hYa.trans (hb6.mono hYa.size)
                        obtain ⟨c0, c1, c2, c3⟩ := box_four (hxa.below hb6)
                        have vx := (hxa.below hb6).lt
                        clear hoa hYa hxa hb6
                        cases mb with
                        | true =>
                          have HS2 := Lib.hid (HST.out.trans (by rw [if_pos rfl]))
                          clear HST
                          go_wp2_with (at_builtin; refine wpList_append_own _ rfl _ _ 45 rfl w.heap.size 68 i0 (.agg #[.bool false, .int .i64 0, .int .i64 0, .int .i64 0]) 4 32 Tryd.underlying45 hi hi0 hi1 hi2 rfl (by decide) _ _ _ rfl (ho6.alloc _) ⟨w6.heap.size, 0, none⟩ 1 1 (missCells [(true, t, a, b)]) rfl rfl ((BlockAt.new w6 #[.bool true, .int .i64 (t : Int), .int .i64 (a : Int), .int .i64 (b : Int)] 68).newCells rfl) (by intro u hu; simp [missCells, Miss4.cells] at hu; rcases hu with rfl | rfl | rfl | rfl <;> rfl) (by unfold maxLen; omega) (by omega) (by simp; have := hY6.size; omega) ?_; intro v' w7 hown' hgrow _)
                          go_roundw
                          case rel => exact ⟨b + 1, cnt + 1, by go_num, by omega, by omega, by omega, by rw [HS2.out, ← List.append_assoc, missCells_append (_ ++ _)]; exact hown', ((hY6.alloc hY6.size _).grown hgrow (by simp; have := hY6.size; omega) (fun j hj => ownsRow_base ho6 j hj))⟩
                          case measure => simp [intOf] <;> omega
                        | false =>
                          have HS2 := Lib.hid (HST.out.trans (by rw [if_neg (by decide), List.append_nil]))
                          clear HST
                          go_wp2
                          go_roundw
                          case rel => exact ⟨b + 1, cnt, by go_num, by omega, by omega, by omega, by rw [HS2.out]; exact ho6, hY6⟩
                          case measure => simp [intOf] <;> omega
                      · obtain rfl : b = 10 := by omega
                        have hlbi : ¬ ((10 : Nat) : Int) < 10 := by omega
                        go_wp2
                        go_roundw
                        case rel => exact ⟨a + 1, cnt, by go_num, by omega, by omega, by rw [mSq_step, ← List.append_assoc]; exact ho, hY⟩
                        case measure => simp [intOf] <;> omega
                  · obtain rfl : a = 10 := by omega
                    have hlai : ¬ ((10 : Nat) : Int) < 10 := by omega
                    obtain ⟨pp, cc, rfl⟩ := ownsRow_form ho
                    go_wp2
                    go_roundw
                    case rel => exact ⟨t + 1, cnt, by go_num, by omega, by omega, by omega, by rw [show n + (t + 1) = n + t + 1 from by omega, mTo_step _ _ _ _ (by omega)]; exact ho, hY⟩
                    case measure => simp [intOf] <;> omega
              · have htli : ¬ (t : Int) ≤ (n : Int) - 1 := by omega
                have hte : n + t = 2 * n := by omega
                rw [hte] at ho
                have hcnt6 : cnt ≤ 6000 := by omega
                obtain ⟨pp, cc, rfl⟩ := ownsRow_form ho
                have HO := Lib.hid ho
                clear ho hte
                go_wp2
                go_roundw
                case rel => exact ⟨2, cnt, by go_num, by omega, hcnt6, by rw [if_neg (by decide), if_neg (by decide)]; exact HO.out, hY⟩
                case measure => simp [intOf]
          · rw [if_neg (by decide), if_neg (by decide)] at ho
            have hlen := ho.1
            rw [missCells_len] at hlen
            have hlen2 : (mTo k us n (2 * n)).length = cnt := by omega
            have HLN := Lib.hid hlen2
            obtain ⟨pp, cc, rfl⟩ := ownsRow_form ho
            have HO := Lib.hid ho
            clear ho hlen hlen2
            go_wp2
            go_ret2
            (first | exact ⟨.inl ⟨rfl, _, rfl, by rw [HML.out, HLN.out]; exact HO.out⟩, hY⟩ | exact ⟨⟨_, rfl, by rw [HML.out, HLN.out]; exact HO.out⟩, hY⟩ | exact ⟨⟨_, rfl, by rw [HML2.out, HLN.out]; exact HO.out⟩, hY⟩)
end Go.Proofs.YtnmnfbibjghjhaaDoor
