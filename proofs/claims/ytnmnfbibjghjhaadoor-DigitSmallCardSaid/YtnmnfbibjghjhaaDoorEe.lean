/-
  The reference's walk of Fill.
-/
import Derived.Test.YtnmnfbibjghjhaaDoorEd
namespace Go.Proofs.YtnmnfbibjghjhaaDoor
open Go.RowKit Dig

theorem below_after {B : Nat} {w wr w2 : World} (h : Below B w wr) (hs : B ≤ wr.heap.size) (hb : Below wr.drew.heap.size wr.drew w2) : Below B w w2 := h.drew.trans (hb.mono hs)
theorem q_ex : ∀ t : List Nat, ∃ q, QIs t q
  | [] => ⟨none, fun j => by simp⟩
  | c :: t => by
    by_cases h : c = 63
    · exact ⟨some 0, by rw [h]; rfl, fun j hj => by omega⟩
    · obtain ⟨q, hq⟩ := q_ex t
      cases q with
      | none => exact ⟨none, fun j => by
          cases j with
          | zero => simp [h]
          | succ j => rw [List.getElem?_cons_succ]; exact hq j⟩
      | some a => exact ⟨some (a + 1), by rw [List.getElem?_cons_succ]; exact hq.1, fun j hj => by
          cases j with
          | zero => simp [h]
          | succ j => rw [List.getElem?_cons_succ]; exact hq.2 j (by omega)⟩
/-- What the first loop of the reference's Fill leaves. -/
def FAt (t : List Nat) (i a many : Nat) : Prop := many ≤ i ∧ ((many = 0 ∧ ∀ j : Nat, j < i → t[j]? ≠ some 63) ∨ (many = 1 ∧ a < i ∧ t[a]? = some 63 ∧ ∀ j : Nat, j < i → j ≠ a → t[j]? ≠ some 63) ∨ (2 ≤ many ∧ ∃ b c : Nat, b < c ∧ t[b]? = some 63 ∧ t[c]? = some 63))
theorem FAt.yes {t : List Nat} {i a many : Nat} (h : FAt t i a many) (hi : t[i]? = some 63) : FAt t (i + 1) i (many + 1) := by
  obtain ⟨h0, h⟩ := h
  refine ⟨by omega, ?_⟩
  rcases h with ⟨rfl, h⟩ | ⟨rfl, ha, hc, h⟩ | ⟨h2, b, c, hbc, hb, hc⟩
  · exact .inr (.inl ⟨rfl, by omega, hi, fun j hj hne => h j (by omega)⟩)
  · exact .inr (.inr ⟨by omega, a, i, ha, hc, hi⟩)
  · exact .inr (.inr ⟨by omega, b, c, hbc, hb, hc⟩)
theorem FAt.no {t : List Nat} {i a many : Nat} (h : FAt t i a many) (hi : t[i]? ≠ some 63) : FAt t (i + 1) a many := by
  obtain ⟨h0, h⟩ := h
  refine ⟨by omega, ?_⟩
  rcases h with ⟨rfl, h⟩ | ⟨rfl, ha, hc, h⟩ | h
  · exact .inl ⟨rfl, fun j hj => by
      by_cases e : j = i
      · rw [e]; exact hi
      · exact h j (by omega)⟩
  · exact .inr (.inl ⟨rfl, by omega, hc, fun j hj hne => by
      by_cases e : j = i
      · rw [e]; exact hi
      · exact h j (by omega) hne⟩)
  · exact .inr (.inr h)
/-- Two unknown characters, or none: rejected. -/
theorem fill_many {k : Nat} {ws : List Int} {t : List Nat} {a many : Nat} (hr : rightB k ws = true) (hl : t.length ≤ 31) (h : FAt t t.length a many) (hm : many ≠ 1) : ∃ q, QIs t q ∧ fillErr k ws t q = 161 ∧ fillOut k ws t q = [] := by
  obtain ⟨q, hq⟩ := q_ex t
  refine ⟨q, hq, ?_⟩
  rcases h.2 with ⟨_, h⟩ | ⟨h1, _⟩ | ⟨_, b, c, hbc, hb, hc⟩
  · have hn : QIs t none := fun j e => h j (List.getElem?_eq_some_iff.1 e).1 e
    obtain rfl := hq.unique hn
    refine ⟨?_, rfl⟩
    unfold fillErr
    show (if chkErr k ws t = 0 then (if (none : Option Nat) = none then 161 else 0) else chkErr k ws t) = 161
    by_cases he : chkErr k ws t = 0
    · rw [if_pos he, if_pos rfl]
    · rw [if_neg he]
      unfold chkErr at he ⊢
      rw [hr, if_neg (by decide), if_neg (by omega)] at he ⊢
      by_cases h2 : okB (k == 2) t = false ∨ t.length < 2
      · rw [if_pos h2]
      · rw [if_neg h2] at he; exact absurd rfl he
  · exact absurd h1 hm
  · cases q with
    | none => exact absurd hb (hq b)
    | some a =>
      have hne : ∃ d, d ≠ a ∧ t[d]? = some 63 := by
        by_cases e : a = b
        · exact ⟨c, by omega, hc⟩
        · exact ⟨b, fun h => e h.symm, hb⟩
      obtain ⟨d, hda, hd⟩ := hne
      have hok : okB (k == 2) (t.set a 48) = false := by
        cases e : okB (k == 2) (t.set a 48) with
        | false => rfl
        | true =>
          rcases good_iff.1 (okB_iff.1 e) d 63 (by rw [List.getElem?_set_ne (fun h => hda h.symm)]; exact hd) with h | ⟨_, h, _⟩
          · omega
          · cases h
      have hce : chkErr k ws (t.set a 48) = 161 := by
        unfold chkErr
        rw [hr, if_neg (by decide), if_neg (by rw [List.length_set]; omega), if_pos (.inl hok)]
      refine ⟨?_, ?_⟩
      · show (if chkErr k ws (t.set a 48) = 0 then _ else chkErr k ws (t.set a 48)) = 161
        rw [hce, if_neg (by decide)]
      · show (if chkErr k ws (t.set a 48) = 0 then _ else []) = []
        rw [hce, if_neg (by decide)]
theorem fill_early {k : Nat} {ws : List Int} {t : List Nat} {e : Nat} (he : e ≠ 0) (h : ∀ q, chkErr k ws (repl t q) = e) : ∃ q, QIs t q ∧ fillErr k ws t q = e ∧ fillOut k ws t q = [] := by
  obtain ⟨q, hq⟩ := q_ex t
  refine ⟨q, hq, ?_, ?_⟩
  · unfold fillErr; rw [h q, if_neg he]
  · cases q with
    | none => rfl
    | some a =>
      show (if chkErr k ws (repl t (some a)) = 0 then _ else []) = []
      rw [h, if_neg he]
theorem slice_to (s : ByteArray) (a : Nat) (h1 : a ≤ s.size) : ∃ D : ByteArray, tx D = (tx s).take a ∧ ∀ W : World, (Instr.slice 9 (.string s) none (some (.int .i64 (a : Int))) none).run Tryd.prog W = .ok (.string D) W := by
  refine ⟨s.extract 0 a, ?_, fun W => ?_⟩
  · unfold tx
    rw [ByteArray.data_extract, Array.toList_extract, List.extract_eq_take_drop, List.drop_zero, Nat.sub_zero, List.map_take]
  · have ha : (a : Int) ≤ (s.size : Int) := by omega
    go_simp
theorem slice_behind (s : ByteArray) (a : Nat) (h1 : a + 1 ≤ s.size) : ∃ D : ByteArray, tx D = (tx s).drop (a + 1) ∧ ∀ W : World, (Instr.slice 9 (.string s) (some (.int .i64 ((a : Int) + 1))) none none).run Tryd.prog W = .ok (.string D) W := by
  refine ⟨s.extract (a + 1) s.size, ?_, fun W => ?_⟩
  · unfold tx
    rw [ByteArray.data_extract, Array.toList_extract, List.extract_eq_take_drop, List.take_of_length_le (by rw [List.length_drop, Array.length_toList]; exact Nat.le_refl _), List.map_drop]
  · have ha : (a : Int) + 1 ≤ (s.size : Int) := by omega
    have h0 : 0 ≤ (a : Int) + 1 := by omega
    have ht : ((a : Int) + 1).toNat = a + 1 := by omega
    go_simp
theorem cut_set {t : List Nat} {a : Nat} (h : a < t.length) (c : Nat) : t.take a ++ [c] ++ t.drop (a + 1) = t.set a c := by
  rw [List.set_eq_take_append_cons_drop, if_pos h, List.append_assoc]; rfl

set_option maxRecDepth 100000 in
set_option maxHeartbeats 16000000 in
theorem rfill_any (k : Nat) (ws : List Int) (v : Value) (s : ByteArray) (w : World) (hr : IntRow w v ws) (hl : s.size ≤ 900) :
    Calls Tryd.prog 43 #[.int .u8 k, v, .string s] w fun e w' => ∃ q S, QIs (tx s) q ∧ e = .returned (.tuple #[.string S, .int .i64 (fillErr k ws (tx s) q : Nat)]) ∧ tx S = fillOut k ws (tx s) q ∧ Below w.heap.size w w' := by
  have hrr := rright_any k ws v w hr
  have HR := Lib.hid hr
  obtain ⟨p, c, rfl, _⟩ := hr
  have HRR := Lib.hid hrr
  clear hrr
  have htl := tx_len s
  obtain ⟨t, ht⟩ : ∃ t, tx s = t := ⟨_, rfl⟩
  rw [ht] at htl ⊢
  have HT := Lib.hid ht
  obtain ⟨n, hn⟩ : ∃ n, s.size = n := ⟨_, rfl⟩
  rw [hn] at htl hl
  have HTL := Lib.hid htl
  clear ht htl
  go_enter Tryd.func43, Tryd.ntmps43
  go_wp2_with fail
  refine HRR.out.mono ?_
  rintro e w1 ⟨rfl, hb1⟩
  cases hR : rightB k ws with
  | false =>
    obtain ⟨q, hq, he, ho⟩ := fill_early (k := k) (ws := ws) (t := t) (e := 160) (by decide) (fun q => by unfold chkErr; rw [if_pos hR])
    have HA := Lib.hid he
    have HO := Lib.hid ho
    clear he ho
    go_wp2
    go_ret2
    exact ⟨q, ⟨#[]⟩, hq, by rw [HA.out]; rfl, by rw [HO.out]; rfl, hb1⟩
  | true =>
    by_cases h31 : 31 < n
    · obtain ⟨q, hq, he, ho⟩ := fill_early (k := k) (ws := ws) (t := t) (e := 3) (by decide) (fun q => by unfold chkErr; rw [hR, if_neg (by decide), if_pos (by rw [repl_len, HTL.out]; exact h31)])
      have HA := Lib.hid he
      have HO := Lib.hid ho
      have h31i : (31 : Int) < (n : Int) := by omega
      clear he ho hR
      go_wp2
      go_ret2
      exact ⟨q, ⟨#[]⟩, hq, by rw [HA.out]; rfl, by rw [HO.out]; rfl, hb1⟩
    · have h31i : (n : Int) ≤ 31 := by omega
      have HRt := Lib.hid hR
      clear hR
      go_wp2_with fail
      go_loopw [8, 9, 10] (fun av mv iv wr => ∃ i a many : Nat, iv = .int .i64 i ∧ i ≤ n ∧ av = .int .i64 a ∧ mv = .int .i64 many ∧ many ≤ i ∧ Hid (FAt t i a many) ∧ Below w.heap.size w wr)
        (fun _ _ iv _ => n - (intOf iv).toNat)
      case atStart => exact ⟨0, 0, 0, rfl, by omega, rfl, rfl, by omega, Lib.hid ⟨by omega, .inl ⟨rfl, fun j hj => by omega⟩⟩, hb1⟩
      case round =>
        clear hb1
        obtain ⟨i, a, many, rfl, hi, rfl, rfl, hmi, hF, hY⟩ := hrel
        have hwi : IntKind.i64.wrap ((i : Int) + 1) = (i : Int) + 1 := by rw [IntKind.wrap_i64]; omega
        have hwm : IntKind.i64.wrap ((many : Int) + 1) = (many : Int) + 1 := by rw [IntKind.wrap_i64]; omega
        by_cases hin : i < n
        · have hini : (i : Int) < (n : Int) := by omega
          have hms : i < s.size := by omega
          obtain ⟨ch, hch⟩ : ∃ ch, (s[i]'hms).toNat = ch := ⟨_, rfl⟩
          have hcc : t[i]? = some ch := by rw [← HT.out, tx_at s i hms, hch]
          have HC := Lib.hid hcc
          clear hcc
          by_cases h63 : ch = 63
          · have h63i : (ch : Int) = 63 := by omega
            have HF2 : Hid (FAt t (i + 1) i (many + 1)) := Lib.hid (hF.out.yes (by rw [HC.out, h63]))
            clear h63
            go_wp2
            go_roundw
            case rel => exact ⟨i + 1, i, many + 1, by go_num, by omega, rfl, by go_num, by omega, HF2, hY⟩
            case measure => simp [intOf] <;> omega
          · have h63i : ((ch : Int) == 63) = false := by rw [beq_eq_false_iff_ne]; omega
            have HF2 : Hid (FAt t (i + 1) a many) := Lib.hid (hF.out.no (by rw [HC.out]; exact fun e => h63 (Option.some.inj e)))
            clear h63
            go_wp2
            go_roundw
            case rel => exact ⟨i + 1, a, many, by go_num, by omega, rfl, rfl, by omega, HF2, hY⟩
            case measure => simp [intOf] <;> omega
        · have hini : ¬ (i : Int) < (n : Int) := by omega
          have hFn : FAt t t.length a many := by
            have := hF.out
            rwa [show i = t.length from by rw [HTL.out]; omega] at this
          have HFn := Lib.hid hFn
          clear hF hFn
          by_cases hm1 : many = 1
          · subst hm1
            rw [show ((1 : Nat) : Int) = 1 from rfl]
            have hfa : a < n ∧ t[a]? = some 63 ∧ (∀ j : Nat, j ≠ a → t[j]? ≠ some 63) := by
              rcases HFn.out.2 with ⟨h, _⟩ | ⟨_, ha, hc, h⟩ | ⟨h, _⟩
              · omega
              · rw [HTL.out] at ha h
                exact ⟨ha, hc, fun j hne e => h j (by have := (List.getElem?_eq_some_iff.1 e).1; rw [HTL.out] at this; exact this) hne e⟩
              · omega
            obtain ⟨han, hqa, hqo⟩ := hfa
            have HQ : Hid (QIs t (some a)) := Lib.hid ⟨hqa, fun j hj => hqo j (by omega)⟩
            have hani : (a : Int) < (n : Int) := by omega
            have hwa : IntKind.i64.wrap ((a : Int) + 1) = (a : Int) + 1 := by rw [IntKind.wrap_i64]; omega
            obtain ⟨A, hA, hslA⟩ := slice_to s a (by omega)
            obtain ⟨R, hRr, hslR⟩ := slice_behind s a (by omega)
            rw [HT.out] at hA hRr
            have hAz : A.size = a := by rw [← tx_len A, hA, List.length_take, HTL.out]; omega
            have hRz : R.size = n - (a + 1) := by rw [← tx_len R, hRr, List.length_drop, HTL.out]
            have HA := Lib.hid hA
            have HRr := Lib.hid hRr
            have hz1 : ¬ 9223372036854775807 < A.size + 1 := by omega
            have hz2 : ¬ 9223372036854775807 < A.size + 1 + R.size := by omega
            have hAR : A.size + 1 + R.size ≤ 99 := by omega
            have htxc : ∀ c, tx A ++ [c] ++ tx R = t.set a c := fun c => by rw [HA.out, HRr.out]; exact cut_set (by rw [HTL.out]; exact han) c
            have HTC := Lib.hid htxc
            clear hA hRr hAz hRz hqa hqo htxc HFn
            obtain ⟨E, hE⟩ : ∃ E, chkErr k ws (t.set a 48) = E := ⟨_, rfl⟩
            have HE := Lib.hid hE
            obtain ⟨B0, hB0⟩ : ∃ B0, testB k ws (t.set a 48) = B0 := ⟨_, rfl⟩
            have HB0 := Lib.hid hB0
            clear hE hB0
            go_upto_region 14 with fail
            go_region_held3 (fun _ => True) (trivial)
              (first
                | (go_at_call 42; with_reducible refine (rtest_any k ws _ (A ++ ⟨#[48]⟩ ++ R) _ (HR.out.below (Nat.le_refl _) hY.drew) (by rw [ByteArray.size_append, ByteArray.size_append, show (⟨#[48]⟩ : ByteArray).size = 1 from rfl]; omega)).mono ?_; rintro e w2 ⟨rfl, hb2⟩; rw [tx_append, tx_append, show tx ⟨#[48]⟩ = [48] from rfl, HTC.out, HE.out, HB0.out]; have hY2 : Below w.heap.size w w2 := below_after hY hY.size hb2)
                | fail)
            clear hY hb2
            by_cases h0 : E = 0
            · subst h0
              rw [show ((0 : Nat) : Int) = 0 from rfl]
              obtain ⟨hwsn, hok⟩ := right_nats HRt.out
              have hgood : Good (k == 2) (t.set a 48) ∧ 2 ≤ (t.set a 48).length ∧ (t.set a 48).length ≤ 31 := by
                have hce := HE.out
                unfold chkErr at hce
                rw [HRt.out, if_neg (by decide)] at hce
                have h31 : ¬ 31 < (t.set a 48).length := fun h => by rw [if_pos h] at hce; cases hce
                rw [if_neg h31] at hce
                have h3 : ¬ (okB (k == 2) (t.set a 48) = false ∨ (t.set a 48).length < 2) := fun h => by rw [if_pos h] at hce; cases hce
                refine ⟨good_iff.1 (okB_iff.1 ?_), by omega, by omega⟩
                cases e : okB (k == 2) (t.set a 48) with
                | true => rfl
                | false => exact absurd (.inl e) h3
              obtain ⟨F, hFd⟩ : ∃ F, fillOk k (natsOf ws) (vals (t.set a 48)) (t.length - 1 - a) = F := ⟨_, rfl⟩
              have hset : ∀ x, x < 11 → testB k ws (t.set a (shownB x)) = F x := fun x hx => by
                have := set_test hok hgood.1 hgood.2.1 hgood.2.2 (i := a) (by rw [List.length_set, HTL.out]; exact han) hx
                rw [List.set_set, List.set_set, List.length_set, show ints (natsOf ws) = ws from hwsn.symm, hFd] at this
                exact this
              have hout : fillOut k ws t (some a) = ((List.range 11).filter F).map shownB := by
                show (if chkErr k ws (t.set a 48) = 0 then _ else _) = _
                rw [HE.out, if_pos rfl, hFd]
              have herr : fillErr k ws t (some a) = 0 := by
                show (if chkErr k ws (t.set a 48) = 0 then (if some a = none then 161 else 0) else chkErr k ws (t.set a 48)) = 0
                rw [HE.out, if_pos rfl]; rfl
              have HSE := Lib.hid hset
              have HOU := Lib.hid hout
              have HER := Lib.hid herr
              clear hset hout herr hFd hgood hok hwsn
              go_wp2_with fail
              go_loopw [13, 14] (fun gv xv wr => ∃ (x : Nat) (Sw : ByteArray), xv = .int .i64 x ∧ x ≤ 11 ∧ gv = .string Sw ∧ Hid (tx Sw = ((List.range x).filter F).map shownB) ∧ Below w.heap.size w wr)
                (fun _ xv _ => 11 - (intOf xv).toNat)
              case atStart => exact ⟨0, ⟨#[]⟩, rfl, by omega, rfl, Lib.hid rfl, hY2⟩
              case round =>
                clear hY2
                obtain ⟨x, Sw, rfl, hx11, rfl, hSw, hY⟩ := hrel
                have hSwl : Sw.size ≤ 11 := by rw [← tx_len Sw, hSw.out, List.length_map]; exact Nat.le_trans (range_filter_le F x) hx11
                have hSwz : ¬ 9223372036854775807 < Sw.size + 1 := by omega
                rcases (by omega : x = 0 ∨ x = 1 ∨ x = 2 ∨ x = 3 ∨ x = 4 ∨ x = 5 ∨ x = 6 ∨ x = 7 ∨ x = 8 ∨ x = 9 ∨ x = 10 ∨ x = 11) with rfl | rfl | rfl | rfl | rfl | rfl | rfl | rfl | rfl | rfl | rfl | rfl
                · have hw1x : IntKind.i64.wrap 1 = 1 := by decide
                  have hslx : ∀ W : World, (Instr.slice 9 (.string ⟨#[48, 49, 50, 51, 52, 53, 54, 55, 56, 57, 88]⟩) (some (.int .i64 0)) (some (.int .i64 1)) none).run Tryd.prog W = .ok (.string ⟨#[48]⟩) W := fun W => by kernel_rfl
                  obtain ⟨fx, hfx⟩ : ∃ fx, F 0 = fx := ⟨_, rfl⟩
                  have hsx := HSE.out 0 (by decide)
                  rw [hfx, show shownB 0 = 48 from rfl] at hsx
                  obtain ⟨ex, hex⟩ : ∃ ex, chkErr k ws (t.set a 48) = ex := ⟨_, rfl⟩
                  have hee : fx = true → ex = 0 := fun h => by rw [← hex]; exact test_err (by rw [hsx, h])
                  have HSX := Lib.hid hsx
                  have HFX := Lib.hid hfx
                  have HEX := Lib.hid hex
                  clear hsx hfx hex
                  go_upto_region 21 with fail
                  go_region_held3 (fun _ => True) (trivial)
                    (first
                      | (go_at_call 42; with_reducible refine (rtest_any k ws _ (A ++ ⟨#[48]⟩ ++ R) _ (HR.out.below (Nat.le_refl _) hY.drew) (by rw [ByteArray.size_append, ByteArray.size_append, show (⟨#[48]⟩ : ByteArray).size = 1 from rfl]; omega)).mono ?_; rintro e w2 ⟨rfl, hb2⟩; rw [tx_append, tx_append, show tx ⟨#[48]⟩ = [48] from rfl, HTC.out, HSX.out, HEX.out]; have hY2 : Below w.heap.size w w2 := below_after hY hY.size hb2)
                      | fail)
                  clear hY hb2
                  cases fx with
                  | true =>
                    have h0 := hee rfl
                    subst h0
                    have HTx : Hid (tx (Sw ++ ⟨#[48]⟩) = ((List.range 1).filter F).map shownB) := Lib.hid (by rw [tx_append, hSw.out, show 1 = 0 + 1 from rfl, range_filter_succ F 0, HFX.out, if_pos rfl, List.map_append]; rfl)
                    clear hee
                    go_wp2
                    go_roundw
                    case rel => exact ⟨1, _, by go_num, by omega, rfl, HTx, hY2⟩
                    case measure => simp [intOf]
                  | false =>
                    have HTx : Hid (tx Sw = ((List.range 1).filter F).map shownB) := Lib.hid (by rw [show 1 = 0 + 1 from rfl, range_filter_succ F 0, HFX.out, if_neg (by decide), List.append_nil]; exact hSw.out)
                    clear hee
                    by_cases h0 : ex = 0
                    · subst h0
                      go_wp2
                      go_roundw
                      case rel => exact ⟨1, Sw, by go_num, by omega, rfl, HTx, hY2⟩
                      case measure => simp [intOf]
                    · have h0b : ((ex : Int) == 0) = false := by rw [beq_eq_false_iff_ne]; omega
                      clear h0
                      go_wp2
                      go_roundw
                      case rel => exact ⟨1, Sw, by go_num, by omega, rfl, HTx, hY2⟩
                      case measure => simp [intOf]
                · have hw1x : IntKind.i64.wrap 2 = 2 := by decide
                  have hslx : ∀ W : World, (Instr.slice 9 (.string ⟨#[48, 49, 50, 51, 52, 53, 54, 55, 56, 57, 88]⟩) (some (.int .i64 1)) (some (.int .i64 2)) none).run Tryd.prog W = .ok (.string ⟨#[49]⟩) W := fun W => by kernel_rfl
                  obtain ⟨fx, hfx⟩ : ∃ fx, F 1 = fx := ⟨_, rfl⟩
                  have hsx := HSE.out 1 (by decide)
                  rw [hfx, show shownB 1 = 49 from rfl] at hsx
                  obtain ⟨ex, hex⟩ : ∃ ex, chkErr k ws (t.set a 49) = ex := ⟨_, rfl⟩
                  have hee : fx = true → ex = 0 := fun h => by rw [← hex]; exact test_err (by rw [hsx, h])
                  have HSX := Lib.hid hsx
                  have HFX := Lib.hid hfx
                  have HEX := Lib.hid hex
                  clear hsx hfx hex
                  go_upto_region 21 with fail
                  go_region_held3 (fun _ => True) (trivial)
                    (first
                      | (go_at_call 42; with_reducible refine (rtest_any k ws _ (A ++ ⟨#[49]⟩ ++ R) _ (HR.out.below (Nat.le_refl _) hY.drew) (by rw [ByteArray.size_append, ByteArray.size_append, show (⟨#[49]⟩ : ByteArray).size = 1 from rfl]; omega)).mono ?_; rintro e w2 ⟨rfl, hb2⟩; rw [tx_append, tx_append, show tx ⟨#[49]⟩ = [49] from rfl, HTC.out, HSX.out, HEX.out]; have hY2 : Below w.heap.size w w2 := below_after hY hY.size hb2)
                      | fail)
                  clear hY hb2
                  cases fx with
                  | true =>
                    have h0 := hee rfl
                    subst h0
                    have HTx : Hid (tx (Sw ++ ⟨#[49]⟩) = ((List.range 2).filter F).map shownB) := Lib.hid (by rw [tx_append, hSw.out, show 2 = 1 + 1 from rfl, range_filter_succ F 1, HFX.out, if_pos rfl, List.map_append]; rfl)
                    clear hee
                    go_wp2
                    go_roundw
                    case rel => exact ⟨2, _, by go_num, by omega, rfl, HTx, hY2⟩
                    case measure => simp [intOf]
                  | false =>
                    have HTx : Hid (tx Sw = ((List.range 2).filter F).map shownB) := Lib.hid (by rw [show 2 = 1 + 1 from rfl, range_filter_succ F 1, HFX.out, if_neg (by decide), List.append_nil]; exact hSw.out)
                    clear hee
                    by_cases h0 : ex = 0
                    · subst h0
                      go_wp2
                      go_roundw
                      case rel => exact ⟨2, Sw, by go_num, by omega, rfl, HTx, hY2⟩
                      case measure => simp [intOf]
                    · have h0b : ((ex : Int) == 0) = false := by rw [beq_eq_false_iff_ne]; omega
                      clear h0
                      go_wp2
                      go_roundw
                      case rel => exact ⟨2, Sw, by go_num, by omega, rfl, HTx, hY2⟩
                      case measure => simp [intOf]
                · have hw1x : IntKind.i64.wrap 3 = 3 := by decide
                  have hslx : ∀ W : World, (Instr.slice 9 (.string ⟨#[48, 49, 50, 51, 52, 53, 54, 55, 56, 57, 88]⟩) (some (.int .i64 2)) (some (.int .i64 3)) none).run Tryd.prog W = .ok (.string ⟨#[50]⟩) W := fun W => by kernel_rfl
                  obtain ⟨fx, hfx⟩ : ∃ fx, F 2 = fx := ⟨_, rfl⟩
                  have hsx := HSE.out 2 (by decide)
                  rw [hfx, show shownB 2 = 50 from rfl] at hsx
                  obtain ⟨ex, hex⟩ : ∃ ex, chkErr k ws (t.set a 50) = ex := ⟨_, rfl⟩
                  have hee : fx = true → ex = 0 := fun h => by rw [← hex]; exact test_err (by rw [hsx, h])
                  have HSX := Lib.hid hsx
                  have HFX := Lib.hid hfx
                  have HEX := Lib.hid hex
                  clear hsx hfx hex
                  go_upto_region 21 with fail
                  go_region_held3 (fun _ => True) (trivial)
                    (first
                      | (go_at_call 42; with_reducible refine (rtest_any k ws _ (A ++ ⟨#[50]⟩ ++ R) _ (HR.out.below (Nat.le_refl _) hY.drew) (by rw [ByteArray.size_append, ByteArray.size_append, show (⟨#[50]⟩ : ByteArray).size = 1 from rfl]; omega)).mono ?_; rintro e w2 ⟨rfl, hb2⟩; rw [tx_append, tx_append, show tx ⟨#[50]⟩ = [50] from rfl, HTC.out, HSX.out, HEX.out]; have hY2 : Below w.heap.size w w2 := below_after hY hY.size hb2)
                      | fail)
                  clear hY hb2
                  cases fx with
                  | true =>
                    have h0 := hee rfl
                    subst h0
                    have HTx : Hid (tx (Sw ++ ⟨#[50]⟩) = ((List.range 3).filter F).map shownB) := Lib.hid (by rw [tx_append, hSw.out, show 3 = 2 + 1 from rfl, range_filter_succ F 2, HFX.out, if_pos rfl, List.map_append]; rfl)
                    clear hee
                    go_wp2
                    go_roundw
                    case rel => exact ⟨3, _, by go_num, by omega, rfl, HTx, hY2⟩
                    case measure => simp [intOf]
                  | false =>
                    have HTx : Hid (tx Sw = ((List.range 3).filter F).map shownB) := Lib.hid (by rw [show 3 = 2 + 1 from rfl, range_filter_succ F 2, HFX.out, if_neg (by decide), List.append_nil]; exact hSw.out)
                    clear hee
                    by_cases h0 : ex = 0
                    · subst h0
                      go_wp2
                      go_roundw
                      case rel => exact ⟨3, Sw, by go_num, by omega, rfl, HTx, hY2⟩
                      case measure => simp [intOf]
                    · have h0b : ((ex : Int) == 0) = false := by rw [beq_eq_false_iff_ne]; omega
                      clear h0
                      go_wp2
                      go_roundw
                      case rel => exact ⟨3, Sw, by go_num, by omega, rfl, HTx, hY2⟩
                      case measure => simp [intOf]
                · have hw1x : IntKind.i64.wrap 4 = 4 := by decide
                  have hslx : ∀ W : World, (Instr.slice 9 (.string ⟨#[48, 49, 50, 51, 52, 53, 54, 55, 56, 57, 88]⟩) (some (.int .i64 3)) (some (.int .i64 4)) none).run Tryd.prog W = .ok (.string ⟨#[51]⟩) W := fun W => by kernel_rfl
                  obtain ⟨fx, hfx⟩ : ∃ fx, F 3 = fx := ⟨_, rfl⟩
                  have hsx := HSE.out 3 (by decide)
                  rw [hfx, show shownB 3 = 51 from rfl] at hsx
                  obtain ⟨ex, hex⟩ : ∃ ex, chkErr k ws (t.set a 51) = ex := ⟨_, rfl⟩
                  have hee : fx = true → ex = 0 := fun h => by rw [← hex]; exact test_err (by rw [hsx, h])
                  have HSX := Lib.hid hsx
                  have HFX := Lib.hid hfx
                  have HEX := Lib.hid hex
                  clear hsx hfx hex
                  go_upto_region 21 with fail
                  go_region_held3 (fun _ => True) (trivial)
                    (first
                      | (go_at_call 42; with_reducible refine (rtest_any k ws _ (A ++ ⟨#[51]⟩ ++ R) _ (HR.out.below (Nat.le_refl _) hY.drew) (by rw [ByteArray.size_append, ByteArray.size_append, show (⟨#[51]⟩ : ByteArray).size = 1 from rfl]; omega)).mono ?_; rintro e w2 ⟨rfl, hb2⟩; rw [tx_append, tx_append, show tx ⟨#[51]⟩ = [51] from rfl, HTC.out, HSX.out, HEX.out]; have hY2 : Below w.heap.size w w2 := below_after hY hY.size hb2)
                      | fail)
                  clear hY hb2
                  cases fx with
                  | true =>
                    have h0 := hee rfl
                    subst h0
                    have HTx : Hid (tx (Sw ++ ⟨#[51]⟩) = ((List.range 4).filter F).map shownB) := Lib.hid (by rw [tx_append, hSw.out, show 4 = 3 + 1 from rfl, range_filter_succ F 3, HFX.out, if_pos rfl, List.map_append]; rfl)
                    clear hee
                    go_wp2
                    go_roundw
                    case rel => exact ⟨4, _, by go_num, by omega, rfl, HTx, hY2⟩
                    case measure => simp [intOf]
                  | false =>
                    have HTx : Hid (tx Sw = ((List.range 4).filter F).map shownB) := Lib.hid (by rw [show 4 = 3 + 1 from rfl, range_filter_succ F 3, HFX.out, if_neg (by decide), List.append_nil]; exact hSw.out)
                    clear hee
                    by_cases h0 : ex = 0
                    · subst h0
                      go_wp2
                      go_roundw
                      case rel => exact ⟨4, Sw, by go_num, by omega, rfl, HTx, hY2⟩
                      case measure => simp [intOf]
                    · have h0b : ((ex : Int) == 0) = false := by rw [beq_eq_false_iff_ne]; omega
                      clear h0
                      go_wp2
                      go_roundw
                      case rel => exact ⟨4, Sw, by go_num, by omega, rfl, HTx, hY2⟩
                      case measure => simp [intOf]
                · have hw1x : IntKind.i64.wrap 5 = 5 := by decide
                  have hslx : ∀ W : World, (Instr.slice 9 (.string ⟨#[48, 49, 50, 51, 52, 53, 54, 55, 56, 57, 88]⟩) (some (.int .i64 4)) (some (.int .i64 5)) none).run Tryd.prog W = .ok (.string ⟨#[52]⟩) W := fun W => by kernel_rfl
                  obtain ⟨fx, hfx⟩ : ∃ fx, F 4 = fx := ⟨_, rfl⟩
                  have hsx := HSE.out 4 (by decide)
                  rw [hfx, show shownB 4 = 52 from rfl] at hsx
                  obtain ⟨ex, hex⟩ : ∃ ex, chkErr k ws (t.set a 52) = ex := ⟨_, rfl⟩
                  have hee : fx = true → ex = 0 := fun h => by rw [← hex]; exact test_err (by rw [hsx, h])
                  have HSX := Lib.hid hsx
                  have HFX := Lib.hid hfx
                  have HEX := Lib.hid hex
                  clear hsx hfx hex
                  go_upto_region 21 with fail
                  go_region_held3 (fun _ => True) (trivial)
                    (first
                      | (go_at_call 42; with_reducible refine (rtest_any k ws _ (A ++ ⟨#[52]⟩ ++ R) _ (HR.out.below (Nat.le_refl _) hY.drew) (by rw [ByteArray.size_append, ByteArray.size_append, show (⟨#[52]⟩ : ByteArray).size = 1 from rfl]; omega)).mono ?_; rintro e w2 ⟨rfl, hb2⟩; rw [tx_append, tx_append, show tx ⟨#[52]⟩ = [52] from rfl, HTC.out, HSX.out, HEX.out]; have hY2 : Below w.heap.size w w2 := below_after hY hY.size hb2)
                      | fail)
                  clear hY hb2
                  cases fx with
                  | true =>
                    have h0 := hee rfl
                    subst h0
                    have HTx : Hid (tx (Sw ++ ⟨#[52]⟩) = ((List.range 5).filter F).map shownB) := Lib.hid (by rw [tx_append, hSw.out, show 5 = 4 + 1 from rfl, range_filter_succ F 4, HFX.out, if_pos rfl, List.map_append]; rfl)
                    clear hee
                    go_wp2
                    go_roundw
                    case rel => exact ⟨5, _, by go_num, by omega, rfl, HTx, hY2⟩
                    case measure => simp [intOf]
                  | false =>
                    have HTx : Hid (tx Sw = ((List.range 5).filter F).map shownB) := Lib.hid (by rw [show 5 = 4 + 1 from rfl, range_filter_succ F 4, HFX.out, if_neg (by decide), List.append_nil]; exact hSw.out)
                    clear hee
                    by_cases h0 : ex = 0
                    · subst h0
                      go_wp2
                      go_roundw
                      case rel => exact ⟨5, Sw, by go_num, by omega, rfl, HTx, hY2⟩
                      case measure => simp [intOf]
                    · have h0b : ((ex : Int) == 0) = false := by rw [beq_eq_false_iff_ne]; omega
                      clear h0
                      go_wp2
                      go_roundw
                      case rel => exact ⟨5, Sw, by go_num, by omega, rfl, HTx, hY2⟩
                      case measure => simp [intOf]
                · have hw1x : IntKind.i64.wrap 6 = 6 := by decide
                  have hslx : ∀ W : World, (Instr.slice 9 (.string ⟨#[48, 49, 50, 51, 52, 53, 54, 55, 56, 57, 88]⟩) (some (.int .i64 5)) (some (.int .i64 6)) none).run Tryd.prog W = .ok (.string ⟨#[53]⟩) W := fun W => by kernel_rfl
                  obtain ⟨fx, hfx⟩ : ∃ fx, F 5 = fx := ⟨_, rfl⟩
                  have hsx := HSE.out 5 (by decide)
                  rw [hfx, show shownB 5 = 53 from rfl] at hsx
                  obtain ⟨ex, hex⟩ : ∃ ex, chkErr k ws (t.set a 53) = ex := ⟨_, rfl⟩
                  have hee : fx = true → ex = 0 := fun h => by rw [← hex]; exact test_err (by rw [hsx, h])
                  have HSX := Lib.hid hsx
                  have HFX := Lib.hid hfx
                  have HEX := Lib.hid hex
                  clear hsx hfx hex
                  go_upto_region 21 with fail
                  go_region_held3 (fun _ => True) (trivial)
                    (first
                      | (go_at_call 42; with_reducible refine (rtest_any k ws _ (A ++ ⟨#[53]⟩ ++ R) _ (HR.out.below (Nat.le_refl _) hY.drew) (by rw [ByteArray.size_append, ByteArray.size_append, show (⟨#[53]⟩ : ByteArray).size = 1 from rfl]; omega)).mono ?_; rintro e w2 ⟨rfl, hb2⟩; rw [tx_append, tx_append, show tx ⟨#[53]⟩ = [53] from rfl, HTC.out, HSX.out, HEX.out]; have hY2 : Below w.heap.size w w2 := below_after hY hY.size hb2)
                      | fail)
                  clear hY hb2
                  cases fx with
                  | true =>
                    have h0 := hee rfl
                    subst h0
                    have HTx : Hid (tx (Sw ++ ⟨#[53]⟩) = ((List.range 6).filter F).map shownB) := Lib.hid (by rw [tx_append, hSw.out, show 6 = 5 + 1 from rfl, range_filter_succ F 5, HFX.out, if_pos rfl, List.map_append]; rfl)
                    clear hee
                    go_wp2
                    go_roundw
                    case rel => exact ⟨6, _, by go_num, by omega, rfl, HTx, hY2⟩
                    case measure => simp [intOf]
                  | false =>
                    have HTx : Hid (tx Sw = ((List.range 6).filter F).map shownB) := Lib.hid (by rw [show 6 = 5 + 1 from rfl, range_filter_succ F 5, HFX.out, if_neg (by decide), List.append_nil]; exact hSw.out)
                    clear hee
                    by_cases h0 : ex = 0
                    · subst h0
                      go_wp2
                      go_roundw
                      case rel => exact ⟨6, Sw, by go_num, by omega, rfl, HTx, hY2⟩
                      case measure => simp [intOf]
                    · have h0b : ((ex : Int) == 0) = false := by rw [beq_eq_false_iff_ne]; omega
                      clear h0
                      go_wp2
                      go_roundw
                      case rel => exact ⟨6, Sw, by go_num, by omega, rfl, HTx, hY2⟩
                      case measure => simp [intOf]
                · have hw1x : IntKind.i64.wrap 7 = 7 := by decide
                  have hslx : ∀ W : World, (Instr.slice 9 (.string ⟨#[48, 49, 50, 51, 52, 53, 54, 55, 56, 57, 88]⟩) (some (.int .i64 6)) (some (.int .i64 7)) none).run Tryd.prog W = .ok (.string ⟨#[54]⟩) W := fun W => by kernel_rfl
                  obtain ⟨fx, hfx⟩ : ∃ fx, F 6 = fx := ⟨_, rfl⟩
                  have hsx := HSE.out 6 (by decide)
                  rw [hfx, show shownB 6 = 54 from rfl] at hsx
                  obtain ⟨ex, hex⟩ : ∃ ex, chkErr k ws (t.set a 54) = ex := ⟨_, rfl⟩
                  have hee : fx = true → ex = 0 := fun h => by rw [← hex]; exact test_err (by rw [hsx, h])
                  have HSX := Lib.hid hsx
                  have HFX := Lib.hid hfx
                  have HEX := Lib.hid hex
                  clear hsx hfx hex
                  go_upto_region 21 with fail
                  go_region_held3 (fun _ => True) (trivial)
                    (first
                      | (go_at_call 42; with_reducible refine (rtest_any k ws _ (A ++ ⟨#[54]⟩ ++ R) _ (HR.out.below (Nat.le_refl _) hY.drew) (by rw [ByteArray.size_append, ByteArray.size_append, show (⟨#[54]⟩ : ByteArray).size = 1 from rfl]; omega)).mono ?_; rintro e w2 ⟨rfl, hb2⟩; rw [tx_append, tx_append, show tx ⟨#[54]⟩ = [54] from rfl, HTC.out, HSX.out, HEX.out]; have hY2 : Below w.heap.size w w2 := below_after hY hY.size hb2)
                      | fail)
                  clear hY hb2
                  cases fx with
                  | true =>
                    have h0 := hee rfl
                    subst h0
                    have HTx : Hid (tx (Sw ++ ⟨#[54]⟩) = ((List.range 7).filter F).map shownB) := Lib.hid (by rw [tx_append, hSw.out, show 7 = 6 + 1 from rfl, range_filter_succ F 6, HFX.out, if_pos rfl, List.map_append]; rfl)
                    clear hee
                    go_wp2
                    go_roundw
                    case rel => exact ⟨7, _, by go_num, by omega, rfl, HTx, hY2⟩
                    case measure => simp [intOf]
                  | false =>
                    have HTx : Hid (tx Sw = ((List.range 7).filter F).map shownB) := Lib.hid (by rw [show 7 = 6 + 1 from rfl, range_filter_succ F 6, HFX.out, if_neg (by decide), List.append_nil]; exact hSw.out)
                    clear hee
                    by_cases h0 : ex = 0
                    · subst h0
                      go_wp2
                      go_roundw
                      case rel => exact ⟨7, Sw, by go_num, by omega, rfl, HTx, hY2⟩
                      case measure => simp [intOf]
                    · have h0b : ((ex : Int) == 0) = false := by rw [beq_eq_false_iff_ne]; omega
                      clear h0
                      go_wp2
                      go_roundw
                      case rel => exact ⟨7, Sw, by go_num, by omega, rfl, HTx, hY2⟩
                      case measure => simp [intOf]
                · have hw1x : IntKind.i64.wrap 8 = 8 := by decide
                  have hslx : ∀ W : World, (Instr.slice 9 (.string ⟨#[48, 49, 50, 51, 52, 53, 54, 55, 56, 57, 88]⟩) (some (.int .i64 7)) (some (.int .i64 8)) none).run Tryd.prog W = .ok (.string ⟨#[55]⟩) W := fun W => by kernel_rfl
                  obtain ⟨fx, hfx⟩ : ∃ fx, F 7 = fx := ⟨_, rfl⟩
                  have hsx := HSE.out 7 (by decide)
                  rw [hfx, show shownB 7 = 55 from rfl] at hsx
                  obtain ⟨ex, hex⟩ : ∃ ex, chkErr k ws (t.set a 55) = ex := ⟨_, rfl⟩
                  have hee : fx = true → ex = 0 := fun h => by rw [← hex]; exact test_err (by rw [hsx, h])
                  have HSX := Lib.hid hsx
                  have HFX := Lib.hid hfx
                  have HEX := Lib.hid hex
                  clear hsx hfx hex
                  go_upto_region 21 with fail
                  go_region_held3 (fun _ => True) (trivial)
                    (first
                      | (go_at_call 42; with_reducible refine (rtest_any k ws _ (A ++ ⟨#[55]⟩ ++ R) _ (HR.out.below (Nat.le_refl _) hY.drew) (by rw [ByteArray.size_append, ByteArray.size_append, show (⟨#[55]⟩ : ByteArray).size = 1 from rfl]; omega)).mono ?_; rintro e w2 ⟨rfl, hb2⟩; rw [tx_append, tx_append, show tx ⟨#[55]⟩ = [55] from rfl, HTC.out, HSX.out, HEX.out]; have hY2 : Below w.heap.size w w2 := below_after hY hY.size hb2)
                      | fail)
                  clear hY hb2
                  cases fx with
                  | true =>
                    have h0 := hee rfl
                    subst h0
                    have HTx : Hid (tx (Sw ++ ⟨#[55]⟩) = ((List.range 8).filter F).map shownB) := Lib.hid (by rw [tx_append, hSw.out, show 8 = 7 + 1 from rfl, range_filter_succ F 7, HFX.out, if_pos rfl, List.map_append]; rfl)
                    clear hee
                    go_wp2
                    go_roundw
                    case rel => exact ⟨8, _, by go_num, by omega, rfl, HTx, hY2⟩
                    case measure => simp [intOf]
                  | false =>
                    have HTx : Hid (tx Sw = ((List.range 8).filter F).map shownB) := Lib.hid (by rw [show 8 = 7 + 1 from rfl, range_filter_succ F 7, HFX.out, if_neg (by decide), List.append_nil]; exact hSw.out)
                    clear hee
                    by_cases h0 : ex = 0
                    · subst h0
                      go_wp2
                      go_roundw
                      case rel => exact ⟨8, Sw, by go_num, by omega, rfl, HTx, hY2⟩
                      case measure => simp [intOf]
                    · have h0b : ((ex : Int) == 0) = false := by rw [beq_eq_false_iff_ne]; omega
                      clear h0
                      go_wp2
                      go_roundw
                      case rel => exact ⟨8, Sw, by go_num, by omega, rfl, HTx, hY2⟩
                      case measure => simp [intOf]
                · have hw1x : IntKind.i64.wrap 9 = 9 := by decide
                  have hslx : ∀ W : World, (Instr.slice 9 (.string ⟨#[48, 49, 50, 51, 52, 53, 54, 55, 56, 57, 88]⟩) (some (.int .i64 8)) (some (.int .i64 9)) none).run Tryd.prog W = .ok (.string ⟨#[56]⟩) W := fun W => by kernel_rfl
                  obtain ⟨fx, hfx⟩ : ∃ fx, F 8 = fx := ⟨_, rfl⟩
                  have hsx := HSE.out 8 (by decide)
                  rw [hfx, show shownB 8 = 56 from rfl] at hsx
                  obtain ⟨ex, hex⟩ : ∃ ex, chkErr k ws (t.set a 56) = ex := ⟨_, rfl⟩
                  have hee : fx = true → ex = 0 := fun h => by rw [← hex]; exact test_err (by rw [hsx, h])
                  have HSX := Lib.hid hsx
                  have HFX := Lib.hid hfx
                  have HEX := Lib.hid hex
                  clear hsx hfx hex
                  go_upto_region 21 with fail
                  go_region_held3 (fun _ => True) (trivial)
                    (first
                      | (go_at_call 42; with_reducible refine (rtest_any k ws _ (A ++ ⟨#[56]⟩ ++ R) _ (HR.out.below (Nat.le_refl _) hY.drew) (by rw [ByteArray.size_append, ByteArray.size_append, show (⟨#[56]⟩ : ByteArray).size = 1 from rfl]; omega)).mono ?_; rintro e w2 ⟨rfl, hb2⟩; rw [tx_append, tx_append, show tx ⟨#[56]⟩ = [56] from rfl, HTC.out, HSX.out, HEX.out]; have hY2 : Below w.heap.size w w2 := below_after hY hY.size hb2)
                      | fail)
                  clear hY hb2
                  cases fx with
                  | true =>
                    have h0 := hee rfl
                    subst h0
                    have HTx : Hid (tx (Sw ++ ⟨#[56]⟩) = ((List.range 9).filter F).map shownB) := Lib.hid (by rw [tx_append, hSw.out, show 9 = 8 + 1 from rfl, range_filter_succ F 8, HFX.out, if_pos rfl, List.map_append]; rfl)
                    clear hee
                    go_wp2
                    go_roundw
                    case rel => exact ⟨9, _, by go_num, by omega, rfl, HTx, hY2⟩
                    case measure => simp [intOf]
                  | false =>
                    have HTx : Hid (tx Sw = ((List.range 9).filter F).map shownB) := Lib.hid (by rw [show 9 = 8 + 1 from rfl, range_filter_succ F 8, HFX.out, if_neg (by decide), List.append_nil]; exact hSw.out)
                    clear hee
                    by_cases h0 : ex = 0
                    · subst h0
                      go_wp2
                      go_roundw
                      case rel => exact ⟨9, Sw, by go_num, by omega, rfl, HTx, hY2⟩
                      case measure => simp [intOf]
                    · have h0b : ((ex : Int) == 0) = false := by rw [beq_eq_false_iff_ne]; omega
                      clear h0
                      go_wp2
                      go_roundw
                      case rel => exact ⟨9, Sw, by go_num, by omega, rfl, HTx, hY2⟩
                      case measure => simp [intOf]
                · have hw1x : IntKind.i64.wrap 10 = 10 := by decide
                  have hslx : ∀ W : World, (Instr.slice 9 (.string ⟨#[48, 49, 50, 51, 52, 53, 54, 55, 56, 57, 88]⟩) (some (.int .i64 9)) (some (.int .i64 10)) none).run Tryd.prog W = .ok (.string ⟨#[57]⟩) W := fun W => by kernel_rfl
                  obtain ⟨fx, hfx⟩ : ∃ fx, F 9 = fx := ⟨_, rfl⟩
                  have hsx := HSE.out 9 (by decide)
                  rw [hfx, show shownB 9 = 57 from rfl] at hsx
                  obtain ⟨ex, hex⟩ : ∃ ex, chkErr k ws (t.set a 57) = ex := ⟨_, rfl⟩
                  have hee : fx = true → ex = 0 := fun h => by rw [← hex]; exact test_err (by rw [hsx, h])
                  have HSX := Lib.hid hsx
                  have HFX := Lib.hid hfx
                  have HEX := Lib.hid hex
                  clear hsx hfx hex
                  go_upto_region 21 with fail
                  go_region_held3 (fun _ => True) (trivial)
                    (first
                      | (go_at_call 42; with_reducible refine (rtest_any k ws _ (A ++ ⟨#[57]⟩ ++ R) _ (HR.out.below (Nat.le_refl _) hY.drew) (by rw [ByteArray.size_append, ByteArray.size_append, show (⟨#[57]⟩ : ByteArray).size = 1 from rfl]; omega)).mono ?_; rintro e w2 ⟨rfl, hb2⟩; rw [tx_append, tx_append, show tx ⟨#[57]⟩ = [57] from rfl, HTC.out, HSX.out, HEX.out]; have hY2 : Below w.heap.size w w2 := below_after hY hY.size hb2)
                      | fail)
                  clear hY hb2
                  cases fx with
                  | true =>
                    have h0 := hee rfl
                    subst h0
                    have HTx : Hid (tx (Sw ++ ⟨#[57]⟩) = ((List.range 10).filter F).map shownB) := Lib.hid (by rw [tx_append, hSw.out, show 10 = 9 + 1 from rfl, range_filter_succ F 9, HFX.out, if_pos rfl, List.map_append]; rfl)
                    clear hee
                    go_wp2
                    go_roundw
                    case rel => exact ⟨10, _, by go_num, by omega, rfl, HTx, hY2⟩
                    case measure => simp [intOf]
                  | false =>
                    have HTx : Hid (tx Sw = ((List.range 10).filter F).map shownB) := Lib.hid (by rw [show 10 = 9 + 1 from rfl, range_filter_succ F 9, HFX.out, if_neg (by decide), List.append_nil]; exact hSw.out)
                    clear hee
                    by_cases h0 : ex = 0
                    · subst h0
                      go_wp2
                      go_roundw
                      case rel => exact ⟨10, Sw, by go_num, by omega, rfl, HTx, hY2⟩
                      case measure => simp [intOf]
                    · have h0b : ((ex : Int) == 0) = false := by rw [beq_eq_false_iff_ne]; omega
                      clear h0
                      go_wp2
                      go_roundw
                      case rel => exact ⟨10, Sw, by go_num, by omega, rfl, HTx, hY2⟩
                      case measure => simp [intOf]
                · have hw1x : IntKind.i64.wrap 11 = 11 := by decide
                  have hslx : ∀ W : World, (Instr.slice 9 (.string ⟨#[48, 49, 50, 51, 52, 53, 54, 55, 56, 57, 88]⟩) (some (.int .i64 10)) (some (.int .i64 11)) none).run Tryd.prog W = .ok (.string ⟨#[88]⟩) W := fun W => by kernel_rfl
                  obtain ⟨fx, hfx⟩ : ∃ fx, F 10 = fx := ⟨_, rfl⟩
                  have hsx := HSE.out 10 (by decide)
                  rw [hfx, show shownB 10 = 88 from rfl] at hsx
                  obtain ⟨ex, hex⟩ : ∃ ex, chkErr k ws (t.set a 88) = ex := ⟨_, rfl⟩
                  have hee : fx = true → ex = 0 := fun h => by rw [← hex]; exact test_err (by rw [hsx, h])
                  have HSX := Lib.hid hsx
                  have HFX := Lib.hid hfx
                  have HEX := Lib.hid hex
                  clear hsx hfx hex
                  go_upto_region 21 with fail
                  go_region_held3 (fun _ => True) (trivial)
                    (first
                      | (go_at_call 42; with_reducible refine (rtest_any k ws _ (A ++ ⟨#[88]⟩ ++ R) _ (HR.out.below (Nat.le_refl _) hY.drew) (by rw [ByteArray.size_append, ByteArray.size_append, show (⟨#[88]⟩ : ByteArray).size = 1 from rfl]; omega)).mono ?_; rintro e w2 ⟨rfl, hb2⟩; rw [tx_append, tx_append, show tx ⟨#[88]⟩ = [88] from rfl, HTC.out, HSX.out, HEX.out]; have hY2 : Below w.heap.size w w2 := below_after hY hY.size hb2)
                      | fail)
                  clear hY hb2
                  cases fx with
                  | true =>
                    have h0 := hee rfl
                    subst h0
                    have HTx : Hid (tx (Sw ++ ⟨#[88]⟩) = ((List.range 11).filter F).map shownB) := Lib.hid (by rw [tx_append, hSw.out, show 11 = 10 + 1 from rfl, range_filter_succ F 10, HFX.out, if_pos rfl, List.map_append]; rfl)
                    clear hee
                    go_wp2
                    go_roundw
                    case rel => exact ⟨11, _, by go_num, by omega, rfl, HTx, hY2⟩
                    case measure => simp [intOf]
                  | false =>
                    have HTx : Hid (tx Sw = ((List.range 11).filter F).map shownB) := Lib.hid (by rw [show 11 = 10 + 1 from rfl, range_filter_succ F 10, HFX.out, if_neg (by decide), List.append_nil]; exact hSw.out)
                    clear hee
                    by_cases h0 : ex = 0
                    · subst h0
                      go_wp2
                      go_roundw
                      case rel => exact ⟨11, Sw, by go_num, by omega, rfl, HTx, hY2⟩
                      case measure => simp [intOf]
                    · have h0b : ((ex : Int) == 0) = false := by rw [beq_eq_false_iff_ne]; omega
                      clear h0
                      go_wp2
                      go_roundw
                      case rel => exact ⟨11, Sw, by go_num, by omega, rfl, HTx, hY2⟩
                      case measure => simp [intOf]
                · go_wp2
                  go_ret2
                  exact ⟨some a, Sw, HQ.out, by rw [HER.out]; rfl, by rw [HOU.out, hSw.out], hY⟩
            · have h0b : ((E : Int) == 0) = false := by rw [beq_eq_false_iff_ne]; omega
              have h0n : ((E : Int) != 0) = true := by rw [bne_iff_ne]; omega
              have HER : Hid (fillErr k ws t (some a) = E) := Lib.hid (by
                show (if chkErr k ws (t.set a 48) = 0 then (if some a = none then 161 else 0) else chkErr k ws (t.set a 48)) = E
                rw [HE.out, if_neg h0])
              have HOU : Hid (fillOut k ws t (some a) = []) := Lib.hid (by
                show (if chkErr k ws (t.set a 48) = 0 then _ else _) = _
                rw [HE.out, if_neg h0])
              clear h0
              go_wp2
              go_ret2
              exact ⟨some a, ⟨#[]⟩, HQ.out, by rw [HER.out]; rfl, by rw [HOU.out]; rfl, hY2⟩
          · obtain ⟨q, hq, he, ho⟩ := fill_many (k := k) (ws := ws) HRt.out (by rw [HTL.out]; omega) HFn.out hm1
            have HA := Lib.hid he
            have HO := Lib.hid ho
            have hm1b : ((many : Int) == 1) = false := by rw [beq_eq_false_iff_ne]; omega
            have hm1n : ((many : Int) != 1) = true := by rw [bne_iff_ne]; omega
            clear he ho hm1
            go_wp2
            go_ret2
            (first | exact ⟨q, ⟨#[]⟩, hq, by rw [HA.out]; rfl, by rw [HO.out]; rfl, hY⟩ | exact ⟨q, hq, ⟨#[]⟩, by rw [HA.out]; rfl, by rw [HO.out]; rfl, hY⟩ | (trace_state; fail))
end Go.Proofs.YtnmnfbibjghjhaaDoor
