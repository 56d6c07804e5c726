/-
  The walk of DigitWrong.
-/
import Derived.Test.YtnmnfbibjghjhaaDoorDo
import Derived.Test.YtnmnfbibjghjhaaDoorDs
import Derived.Test.YtnmnfbibjghjhaaDoorDt
import Derived.Test.YtnmnfbibjghjhaaDoorDtc
namespace Go.Proofs.YtnmnfbibjghjhaaDoor
open Go.RowKit Dig

theorem below_next3 {B : Nat} {w wr w2 : World} (h : Below B w wr) (hs : B ≤ wr.heap.size) (hb : Below wr.drew.heap.size wr.drew w2) : Below B w w2 := h.drew.trans (hb.mono hs)
theorem below_next4 {B : Nat} {w wr w2 : World} (h : Below B w wr) (hs : B ≤ wr.heap.size) (hb : Below wr.heap.size wr w2) : Below B w w2 := h.trans (hb.mono hs)
theorem own_empty {X : World} {B base : Nat} (hB : X.heap.size = B) (hb : base ≤ B) : (X.alloc (.cells #[] 3)).ownsRow base 3 1 (.slice (some ⟨B, 0, none⟩) 0 0) 0 [] := by
  subst hB
  exact World.ownsRow_lit X #[] 0 hb (by unfold maxLen; omega) rfl
theorem put0_any (s : ByteArray) (c : Nat) (w : World) (hi : 0 < s.size) (hc : c < 256) (hl : s.size ≤ 999) :
    Calls Tryd.prog 16 #[.string s, .int .i64 0, .int .u8 c] w fun e w' => ∃ S, e = .returned (.string S) ∧ tx S = (tx s).set 0 c ∧ Below w.heap.size w w' := put_any s 0 c w hi hc hl
/-- The numbers lie from an address on. -/
def SrcAt (W : World) (g : Nat) (vs : List Nat) : Prop := g < W.heap.size ∧ ∀ j u, (natCells vs)[j]? = some u → W.cell? ((⟨g, 0, none⟩ : Addr).add j) = some u
theorem SrcAt.below {W W' : World} {g : Nat} {vs : List Nat} (h : SrcAt W g vs) (hb : Below W.heap.size W W') : SrcAt W' g vs :=
  ⟨Nat.lt_of_lt_of_le h.1 hb.size, fun j u hu => by rw [addr_add]; exact (hb.cell (p := ⟨g, 0 + j, none⟩) h.1).trans (by have := h.2 j u hu; rwa [addr_add] at this)⟩
theorem SrcAt.alloc {W : World} {g : Nat} {vs : List Nat} (h : SrcAt W g vs) (o : Obj) : SrcAt (W.alloc o) g vs := h.below ((Below.refl _ W).alloc (Nat.le_refl _) o)
theorem SrcAt.drew {W : World} {g : Nat} {vs : List Nat} (h : SrcAt W g vs) : SrcAt W.drew g vs := h
theorem SrcAt.get {W : World} {g : Nat} {vs : List Nat} (h : SrcAt W g vs) : ∀ j u, (natCells vs)[j]? = some u → W.cell? ((⟨g, 0, none⟩ : Addr).add j) = some u := h.2
theorem own_drew {W : World} {base n : Nat} {v : Value} {xs : List Value} (h : W.ownsRow base 3 1 v n xs) : W.drew.ownsRow base 3 1 v n xs := h

set_option maxRecDepth 100000 in
set_option maxHeartbeats 16000000 in
theorem digitwrong_any (kd : Int) (wl pl : List Nat) (wv pv : Value) (by' : Int) (w : World) (hk0 : 0 ≤ kd) (hk1 : kd < 256) (hw : ByteSrc w wv wl) (hp : ByteSrc w pv pl) (hy0 : 0 ≤ by') (hy1 : by' < 256) (ht : Tabs w) :
    Calls Tryd.prog 4 #[.int .u8 kd, wv, pv, .int .u8 by'] w fun e w' => e = .returned (.bool true) ∧ Below w.heap.size w w' := by
  obtain ⟨yc, rfl⟩ : ∃ yc : Nat, by' = (yc : Int) := ⟨by'.toNat, by omega⟩
  have hyc : yc < 256 := by omega
  have HW := Lib.hid hw
  have HP := Lib.hid hp
  have HT := Lib.hid ht
  obtain ⟨_, wp, wc', rfl, _⟩ := hw
  obtain ⟨_, pp, pc, rfl, _⟩ := hp
  obtain ⟨i0, hi, hi0, hi1, hi2⟩ := info_parts Tryd.info3
  clear ht
  go_enter Tryd.func4, Tryd.ntmps4
  go_wp2_with fail
  refine (anyone2_any kd wl _ _ HW.out hk0 hk1).mono ?_
  rintro e w1 ⟨k, ws, q, cc, hok, rfl, hN, hb1⟩
  have HN := Lib.hid hN
  have HOK := Lib.hid hok
  have hw1 := hb1.size
  have hwsl : ws.length ≤ 10 := by
    rcases hok with ⟨_, h⟩ | ⟨_, _, h, _⟩
    · rw [h]; decide
    · exact h
  clear hN hok
  go_wp2_with fail
  have x0 : BlockAt (w1.alloc (.cells #[.int .u8 k, .slice q ws.length cc] 25)) w1.heap.size #[.int .u8 k, .slice q ws.length cc] 25 := BlockAt.new w1 _ 25
  have hY : Below w1.heap.size w1 (w1.alloc (.cells #[.int .u8 k, .slice q ws.length cc] 25)) := (Below.refl _ w1).alloc (Nat.le_refl _) _
  refine (payload_any pl _ _ (HP.out.below (Nat.le_refl _) (hb1.trans (hY.mono hb1.size)))).mono ?_
  rintro e w2 ⟨S1, rfl, hS1, hb2⟩
  have x2 := x0.below hb2
  have hY2 := hY.trans (hb2.mono (by simp))
  clear x0 hY hb2
  obtain ⟨hpl1, hpl2, hpd⟩ := payOf_ok pl
  obtain ⟨t, hte⟩ : ∃ t, payOf pl = t := ⟨_, rfl⟩
  rw [hte] at hpl1 hpl2 hpd hS1
  have HS1 := Lib.hid hS1
  have hSz : S1.size = t.length := by rw [← tx_len S1, hS1]
  have HPD := Lib.hid hpd
  clear hS1 hpd hte
  obtain ⟨p0, p1, _, _⟩ := x2.two
  have v0 := x2.lt
  go_upto_region 4 with fail
  go_cut [12] from 12 to 39 (fun bv wx => ∃ (B : Nat) (p : Option Addr) (c : Nat), bv = .pointer (some ⟨B, 0, none⟩) ∧ BlockAt wx B #[.int .u8 k, .slice p (ws.length + 1) c] 25 ∧ NatRow wx (.slice p (ws.length + 1) c) (ws ++ [11]) ∧ BlockAt wx w1.heap.size #[.int .u8 k, .slice q ws.length cc] 25 ∧ Below w1.heap.size w1 wx)
  case first =>
    have hsz2 : w1.heap.size < w2.heap.size := v0
    rcases HN.out with ⟨hq, hws⟩ | ⟨g, c2, hq, hgl, hwne, hcs⟩
    · simp only [Value.slice.injEq] at hq
      obtain ⟨rfl, _, rfl⟩ := hq
      subst hws
      have x2 : BlockAt w2 w1.heap.size #[.int .u8 k, .slice none 0 0] 25 := x2
      obtain ⟨p0, p1, _, _⟩ := x2.two
      refine wp_region_noPanic ?_
      refine wp_region_held_drew (S := (fun w' => w'.cell? ⟨w1.heap.size, 0, none⟩ = some (.int .u8 k) ∧ w'.cell? ⟨w1.heap.size, 1, none⟩ = some (.slice none 0 0))) (by kernel_rfl) ?_ (fun hHeld => ?_)
      · (try dsimp only)
        go_keep
      refine rt0 (v := ?_) (by kernel_rfl) (by kernel_rfl) (by kernel_rfl) (fun _ _ _ h => h) (by rfl) hHeld ?_ ?_
      rotate_left
      · intro w' hSw
        (try dsimp only at hSw)
        go_simp <;> with_reducible rfl
      (try simp only [Act.put, List.setIfInBounds_toArray, List.set_cons_zero, List.set_cons_succ])
      refine rt1 (v := ?_) (by kernel_rfl) (by kernel_rfl) (by kernel_rfl) (fun _ _ _ h => h) (by rfl) hHeld ?_ ?_
      rotate_left
      · intro w' hSw
        (try dsimp only at hSw)
        go_simp <;> with_reducible rfl
      (try simp only [Act.put, List.setIfInBounds_toArray, List.set_cons_zero, List.set_cons_succ])
      refine rt3 (v := ?_) (by kernel_rfl) (by kernel_rfl) (by kernel_rfl) (fun _ _ _ h => h) (by rfl) hHeld ?_ ?_
      rotate_left
      · intro w' hSw
        (try dsimp only at hSw)
        go_simp <;> with_reducible rfl
      (try simp only [Act.put, List.setIfInBounds_toArray, List.set_cons_zero, List.set_cons_succ])
      refine rt4 (v := ?_) (by kernel_rfl) (by kernel_rfl) (by kernel_rfl) (fun _ _ _ h => h) (by rfl) hHeld ?_ ?_
      rotate_left
      · intro w' hSw
        (try dsimp only at hSw)
        go_simp <;> with_reducible rfl
      (try simp only [Act.put, List.setIfInBounds_toArray, List.set_cons_zero, List.set_cons_succ])
      have y0 : BlockAt w2.drew w1.heap.size #[.int .u8 k, .slice none 0 0] 25 := x2
      have hB0 : Below w1.heap.size w1 w2.drew := hY2.drew
      have hz0 : w1.heap.size < w2.drew.heap.size := v0
      obtain ⟨W0, hW0⟩ : ∃ W0, w2.drew = W0 := ⟨_, rfl⟩
      rw [hW0] at y0 hB0 hz0 hHeld ⊢
      obtain ⟨b0, hb0⟩ : ∃ b0, W0.heap.size = b0 := ⟨_, rfl⟩
      have hge : b0 ≤ W0.heap.size := by omega
      have hzb : w1.heap.size < b0 := by omega
      clear hb0 hW0 x2 hY2 v0 p0 p1
      refine wpAnyH_ready (rs := [2, 6, 9]) (by kernel_rfl) (by simp) ?_
      refine rd2 (fun Kq hKq => ?_) ?_
      · go_simp
        obtain ⟨W1, hW1⟩ : ∃ W1, W0.alloc (.cells #[] 3) = W1 := ⟨_, rfl⟩
        obtain ⟨b2, hb2⟩ : ∃ b2, W0.heap.size = b2 := ⟨_, rfl⟩
        have hg1 : W1.heap.size = b2 + 1 := by rw [← hW1, ← hb2]; simp
        have y1 : BlockAt W1 w1.heap.size #[.int .u8 k, .slice none 0 0] 25 := by rw [← hW1]; exact y0.alloc _
        have hB1 : Below w1.heap.size w1 W1 := by rw [← hW1]; exact hB0.alloc hB0.size _
        have own1 : W1.ownsRow b0 3 1 (.slice (some ⟨b2, 0, none⟩) 0 0) 0 [] := by rw [← hW1]; exact own_empty hb2 (by omega)
        have hk1 : b0 ≤ W1.heap.size := by omega
        have hb2g : b0 ≤ b2 := by omega
        have hl1_b2 : b2 < W1.heap.size := by omega
        rw [hW1, hb2]
        clear hW1 hb2 hg1
        obtain ⟨a0, a1, _, _⟩ := y1.two
        refine hKq.out _ _ ?_ (fun hHeld => ?_)
        · (try dsimp only)
          exact ⟨a0, a1⟩
        clear hKq Kq a0 a1
        (try simp only [Act.put, List.setIfInBounds_toArray, List.set_cons_zero, List.set_cons_succ])
        refine wpAnyH_ready (rs := [5, 6, 9]) (by kernel_rfl) (by simp) ?_
        refine rd5 (fun Kq hKq => ?_) ?_
        · refine step_append_nil rfl (.tmp 33) (.tmp 35) 23 rfl b0 3 i0 1 Tryd.underlying23 hi _ 0 [] rfl own1 rfl ?_
          obtain ⟨a0, a1, _, _⟩ := y1.two
          refine hKq.out _ _ ?_ (fun hHeld => ?_)
          · (try dsimp only)
            exact ⟨a0, a1⟩
          clear hKq Kq a0 a1
          (try simp only [Act.put, List.setIfInBounds_toArray, List.set_cons_zero, List.set_cons_succ])
          refine wpAnyH_ready (rs := [6, 9]) (by kernel_rfl) (by simp) ?_
          refine rd6 (fun Kq hKq => ?_) ?_
          · go_simp
            obtain ⟨W3, hW3⟩ : ∃ W3, W1.alloc (.cells #[.int .i64 11] 3) = W3 := ⟨_, rfl⟩
            obtain ⟨b6, hb6⟩ : ∃ b6, W1.heap.size = b6 := ⟨_, rfl⟩
            have hg3 : W3.heap.size = b6 + 1 := by rw [← hW3, ← hb6]; simp
            have y3 : BlockAt W3 w1.heap.size #[.int .u8 k, .slice none 0 0] 25 := by rw [← hW3]; exact y1.alloc _
            have hB3 : Below w1.heap.size w1 W3 := by rw [← hW3]; exact hB1.alloc hB1.size _
            have own3 : W3.ownsRow b0 3 1 (.slice (some ⟨b2, 0, none⟩) 0 0) 0 [] := by rw [← hW3]; exact World.ownsRow.alloc own1 _
            have e3 : BlockAt W3 b6 #[.int .i64 11] 3 := by rw [← hW3]; exact BlockAt.new_at hb6
            have hk3 : b0 ≤ W3.heap.size := by omega
            have hb6g : b0 ≤ b6 := by omega
            have hne_b2_b6 : b2 ≠ b6 := by omega
            have hl3_b2 : b2 < W3.heap.size := by omega
            have hl3_b6 : b6 < W3.heap.size := by omega
            rw [hW3, hb6]
            clear hW3 hb6 hg3
            obtain ⟨a0, a1, _, _⟩ := y3.two
            refine hKq.out _ _ ?_ (fun hHeld => ?_)
            · (try dsimp only)
              exact ⟨a0, a1⟩
            clear hKq Kq a0 a1
            (try simp only [Act.put, List.setIfInBounds_toArray, List.set_cons_zero, List.set_cons_succ])
            refine wpAnyH_ready (rs := [7, 9]) (by kernel_rfl) (by simp) ?_
            refine rd7 (fun Kq hKq => ?_) ?_
            · refine step_append_lies _ rfl (.tmp 36) (.tmp 37) 23 rfl b0 3 i0 (.int .i64 0) 1 8 Tryd.underlying23 hi hi0 hi1 hi2 rfl (by decide) _ 0 _ rfl own3 ⟨b6, 0, none⟩ 1 1 (natCells [11]) rfl rfl (BlockAt.newCells e3 rfl) (natCells_one _) (by decide) (by unfold maxLen; omega) (by omega) (by omega) _ rfl ?_
              intro g2 cap2 W4 own4 hgr hat hlt
              have hgs := hgr.size
              have hcase : b2 = g2 ∨ g2 = W3.heap.size := by
                rcases hat with h | h
                · exact .inl (Option.some.inj h)
                · exact .inr h
              have kp : ∀ id (cs : Array Value) t, BlockAt W3 id cs t → id ≠ b2 → BlockAt W4 id cs t := fun id cs t h hne => h.kept hgr (fun e => hne (Option.some.inj e))
              have y4 : BlockAt W4 w1.heap.size #[.int .u8 k, .slice none 0 0] 25 := kp _ _ _ y3 (by omega)
              have hB4 : Below w1.heap.size w1 W4 := Below.grown hB3 hgr (by omega) (fun j hj => by have := Option.some.inj (show some b2 = some j from hj); omega)
              have hk4 : b0 ≤ W4.heap.size := by omega
              have hg2g : b0 ≤ g2 := by omega
              have hl4_b2 : b2 < W4.heap.size := by omega
              have hne_b6_g2 : b6 ≠ g2 := by omega
              have hl4_b6 : b6 < W4.heap.size := by omega
              clear kp hcase hat hgr hgs
              have own4 : W4.ownsRow b0 3 1 (.slice (some ⟨g2, 0, none⟩) (0 + 1) cap2) (0 + 1) (natCells [] ++ natCells [11]) := own4
              obtain ⟨a0, a1, _, _⟩ := y4.two
              refine hKq.out _ _ ?_ (fun hHeld => ?_)
              · (try dsimp only)
                exact ⟨a0, a1⟩
              clear hKq Kq a0 a1
              (try simp only [Act.put, List.setIfInBounds_toArray, List.set_cons_zero, List.set_cons_succ])
              refine rt8 (v := ?_) (by kernel_rfl) (by kernel_rfl) (by kernel_rfl) (fun _ _ _ h => h) (by rfl) hHeld ?_ ?_
              rotate_left
              · intro w' hSw
                (try dsimp only at hSw)
                go_simp <;> with_reducible rfl
              (try simp only [Act.put, List.setIfInBounds_toArray, List.set_cons_zero, List.set_cons_succ])
              refine wpAnyH_ready (rs := [9]) (by kernel_rfl) (by simp) ?_
              refine rd9 (fun Kq hKq => ?_) ?_
              · go_simp
                obtain ⟨W5, hW5⟩ : ∃ W5, W4.alloc (.cells #[.int .u8 0, .slice none 0 0] 25) = W5 := ⟨_, rfl⟩
                obtain ⟨b9, hb9⟩ : ∃ b9, W4.heap.size = b9 := ⟨_, rfl⟩
                have hg5 : W5.heap.size = b9 + 1 := by rw [← hW5, ← hb9]; simp
                have y5 : BlockAt W5 w1.heap.size #[.int .u8 k, .slice none 0 0] 25 := by rw [← hW5]; exact y4.alloc _
                have hB5 : Below w1.heap.size w1 W5 := by rw [← hW5]; exact hB4.alloc hB4.size _
                have own5 : W5.ownsRow b0 3 1 (.slice (some ⟨g2, 0, none⟩) (0 + 1) cap2) (0 + 1) ((natCells []) ++ natCells [11]) := by rw [← hW5]; exact World.ownsRow.alloc own4 _
                have n5 : BlockAt W5 b9 #[.int .u8 0, .slice none 0 0] 25 := by rw [← hW5]; exact BlockAt.new_at hb9
                have hk5 : b0 ≤ W5.heap.size := by omega
                have hb9g : b0 ≤ b9 := by omega
                have hne_b6_b9 : b6 ≠ b9 := by omega
                have hl5_b6 : b6 < W5.heap.size := by omega
                have hne_g2_b9 : g2 ≠ b9 := by omega
                have hl5_g2 : g2 < W5.heap.size := by omega
                have hl5_b9 : b9 < W5.heap.size := by omega
                rw [hW5, hb9]
                clear hW5 hb9 hg5
                obtain ⟨a0, a1, _, _⟩ := y5.two
                refine hKq.out _ _ ?_ (fun hHeld => ?_)
                · (try dsimp only)
                  exact ⟨a0, a1⟩
                clear hKq Kq a0 a1
                (try simp only [Act.put, List.setIfInBounds_toArray, List.set_cons_zero, List.set_cons_succ])
                refine wpAnyH_ready (rs := [10]) (by kernel_rfl) (by simp) ?_
                refine rd10 (fun Kq hKq => ?_) ?_
                · obtain ⟨q0, q1, q2, q3⟩ := n5.two
                  go_simp
                  have y9f := (n5.set20 (.int .u8 k)).set21 (.slice (some ⟨g2, 0, none⟩) (0 + 1) cap2)
                  have ownf := ownsRow_setCell_other (ownsRow_setCell_other own5 (a := ⟨b9, 0, none⟩) (by intro e; have e2 := Option.some.inj (show some g2 = some b9 from e); omega) (.int .u8 k)) (a := ⟨b9, 1, none⟩) (by intro e; have e2 := Option.some.inj (show some g2 = some b9 from e); omega) (.slice (some ⟨g2, 0, none⟩) (0 + 1) cap2)
                  have y6 := (y5.other (B' := b9) (j := 0) (by omega) (.int .u8 k)).other (B' := b9) (j := 1) (by omega) (.slice (some ⟨g2, 0, none⟩) (0 + 1) cap2)
                  have hB6 := (hB5.setCell (p := ⟨b9, 0, none⟩) (by show w1.heap.size ≤ b9; omega) (.int .u8 k)).setCell (p := ⟨b9, 1, none⟩) (by show w1.heap.size ≤ b9; omega) (.slice (some ⟨g2, 0, none⟩) (0 + 1) cap2)
                  obtain ⟨a0, a1, _, _⟩ := y6.two
                  refine hKq.out _ _ ?_ (fun hHeld => ?_)
                  · (try dsimp only)
                    exact ⟨a0, a1⟩
                  clear hKq Kq a0 a1
                  (try simp only [Act.put, List.setIfInBounds_toArray, List.set_cons_zero, List.set_cons_succ])
                  refine wpAnyH_done (by kernel_rfl) ?_ _
                  refine NoPanic.normal ?_
                  go_wp2_with fail
                  go_meet
                  exact ⟨b9, some ⟨g2, 0, none⟩, cap2, rfl, y9f, NatRow.of_owns (by rw [natCells_append]; exact ownf), y6, hB6⟩
                exact AllReadyH.nil
              exact AllReadyH.nil
            refine rd9 (fun Kq hKq => ?_) ?_
            · go_simp
              obtain ⟨W7, hW7⟩ : ∃ W7, W3.alloc (.cells #[.int .u8 0, .slice none 0 0] 25) = W7 := ⟨_, rfl⟩
              obtain ⟨b9, hb9⟩ : ∃ b9, W3.heap.size = b9 := ⟨_, rfl⟩
              have hg7 : W7.heap.size = b9 + 1 := by rw [← hW7, ← hb9]; simp
              have y7 : BlockAt W7 w1.heap.size #[.int .u8 k, .slice none 0 0] 25 := by rw [← hW7]; exact y3.alloc _
              have hB7 : Below w1.heap.size w1 W7 := by rw [← hW7]; exact hB3.alloc hB3.size _
              have own7 : W7.ownsRow b0 3 1 (.slice (some ⟨b2, 0, none⟩) 0 0) 0 [] := by rw [← hW7]; exact World.ownsRow.alloc own3 _
              have e7 : BlockAt W7 b6 #[.int .i64 11] 3 := by rw [← hW7]; exact e3.alloc _
              have n7 : BlockAt W7 b9 #[.int .u8 0, .slice none 0 0] 25 := by rw [← hW7]; exact BlockAt.new_at hb9
              have hk7 : b0 ≤ W7.heap.size := by omega
              have hb9g : b0 ≤ b9 := by omega
              have hne_b2_b9 : b2 ≠ b9 := by omega
              have hl7_b2 : b2 < W7.heap.size := by omega
              have hne_b6_b9 : b6 ≠ b9 := by omega
              have hl7_b6 : b6 < W7.heap.size := by omega
              have hl7_b9 : b9 < W7.heap.size := by omega
              rw [hW7, hb9]
              clear hW7 hb9 hg7
              obtain ⟨a0, a1, _, _⟩ := y7.two
              refine hKq.out _ _ ?_ (fun hHeld => ?_)
              · (try dsimp only)
                exact ⟨a0, a1⟩
              clear hKq Kq a0 a1
              (try simp only [Act.put, List.setIfInBounds_toArray, List.set_cons_zero, List.set_cons_succ])
              refine wpAnyH_ready (rs := [7]) (by kernel_rfl) (by simp) ?_
              refine rd7 (fun Kq hKq => ?_) ?_
              · refine step_append_lies _ rfl (.tmp 36) (.tmp 37) 23 rfl b0 3 i0 (.int .i64 0) 1 8 Tryd.underlying23 hi hi0 hi1 hi2 rfl (by decide) _ 0 _ rfl own7 ⟨b6, 0, none⟩ 1 1 (natCells [11]) rfl rfl (BlockAt.newCells e7 rfl) (natCells_one _) (by decide) (by unfold maxLen; omega) (by omega) (by omega) _ rfl ?_
                intro g2 cap2 W8 own8 hgr hat hlt
                have hgs := hgr.size
                have hcase : b2 = g2 ∨ g2 = W7.heap.size := by
                  rcases hat with h | h
                  · exact .inl (Option.some.inj h)
                  · exact .inr h
                have kp : ∀ id (cs : Array Value) t, BlockAt W7 id cs t → id ≠ b2 → BlockAt W8 id cs t := fun id cs t h hne => h.kept hgr (fun e => hne (Option.some.inj e))
                have y8 : BlockAt W8 w1.heap.size #[.int .u8 k, .slice none 0 0] 25 := kp _ _ _ y7 (by omega)
                have hB8 : Below w1.heap.size w1 W8 := Below.grown hB7 hgr (by omega) (fun j hj => by have := Option.some.inj (show some b2 = some j from hj); omega)
                have n8 : BlockAt W8 b9 #[.int .u8 0, .slice none 0 0] 25 := kp _ _ _ n7 (by omega)
                have hk8 : b0 ≤ W8.heap.size := by omega
                have hg2g : b0 ≤ g2 := by omega
                have hl8_b2 : b2 < W8.heap.size := by omega
                have hne_b6_g2 : b6 ≠ g2 := by omega
                have hl8_b6 : b6 < W8.heap.size := by omega
                have hne_b9_g2 : b9 ≠ g2 := by omega
                have hl8_b9 : b9 < W8.heap.size := by omega
                clear kp hcase hat hgr hgs
                have own8 : W8.ownsRow b0 3 1 (.slice (some ⟨g2, 0, none⟩) (0 + 1) cap2) (0 + 1) (natCells [] ++ natCells [11]) := own8
                obtain ⟨a0, a1, _, _⟩ := y8.two
                refine hKq.out _ _ ?_ (fun hHeld => ?_)
                · (try dsimp only)
                  exact ⟨a0, a1⟩
                clear hKq Kq a0 a1
                (try simp only [Act.put, List.setIfInBounds_toArray, List.set_cons_zero, List.set_cons_succ])
                refine rt8 (v := ?_) (by kernel_rfl) (by kernel_rfl) (by kernel_rfl) (fun _ _ _ h => h) (by rfl) hHeld ?_ ?_
                rotate_left
                · intro w' hSw
                  (try dsimp only at hSw)
                  go_simp <;> with_reducible rfl
                (try simp only [Act.put, List.setIfInBounds_toArray, List.set_cons_zero, List.set_cons_succ])
                refine wpAnyH_ready (rs := [10]) (by kernel_rfl) (by simp) ?_
                refine rd10 (fun Kq hKq => ?_) ?_
                · obtain ⟨q0, q1, q2, q3⟩ := n8.two
                  go_simp
                  have y9f := (n8.set20 (.int .u8 k)).set21 (.slice (some ⟨g2, 0, none⟩) (0 + 1) cap2)
                  have ownf := ownsRow_setCell_other (ownsRow_setCell_other own8 (a := ⟨b9, 0, none⟩) (by intro e; have e2 := Option.some.inj (show some g2 = some b9 from e); omega) (.int .u8 k)) (a := ⟨b9, 1, none⟩) (by intro e; have e2 := Option.some.inj (show some g2 = some b9 from e); omega) (.slice (some ⟨g2, 0, none⟩) (0 + 1) cap2)
                  have y9 := (y8.other (B' := b9) (j := 0) (by omega) (.int .u8 k)).other (B' := b9) (j := 1) (by omega) (.slice (some ⟨g2, 0, none⟩) (0 + 1) cap2)
                  have hB9 := (hB8.setCell (p := ⟨b9, 0, none⟩) (by show w1.heap.size ≤ b9; omega) (.int .u8 k)).setCell (p := ⟨b9, 1, none⟩) (by show w1.heap.size ≤ b9; omega) (.slice (some ⟨g2, 0, none⟩) (0 + 1) cap2)
                  obtain ⟨a0, a1, _, _⟩ := y9.two
                  refine hKq.out _ _ ?_ (fun hHeld => ?_)
                  · (try dsimp only)
                    exact ⟨a0, a1⟩
                  clear hKq Kq a0 a1
                  (try simp only [Act.put, List.setIfInBounds_toArray, List.set_cons_zero, List.set_cons_succ])
                  refine wpAnyH_done (by kernel_rfl) ?_ _
                  refine NoPanic.normal ?_
                  go_wp2_with fail
                  go_meet
                  exact ⟨b9, some ⟨g2, 0, none⟩, cap2, rfl, y9f, NatRow.of_owns (by rw [natCells_append]; exact ownf), y9, hB9⟩
                exact AllReadyH.nil
              exact AllReadyH.nil
            exact AllReadyH.nil
          refine rd9 (fun Kq hKq => ?_) ?_
          · go_simp
            obtain ⟨W10, hW10⟩ : ∃ W10, W1.alloc (.cells #[.int .u8 0, .slice none 0 0] 25) = W10 := ⟨_, rfl⟩
            obtain ⟨b9, hb9⟩ : ∃ b9, W1.heap.size = b9 := ⟨_, rfl⟩
            have hg10 : W10.heap.size = b9 + 1 := by rw [← hW10, ← hb9]; simp
            have y10 : BlockAt W10 w1.heap.size #[.int .u8 k, .slice none 0 0] 25 := by rw [← hW10]; exact y1.alloc _
            have hB10 : Below w1.heap.size w1 W10 := by rw [← hW10]; exact hB1.alloc hB1.size _
            have own10 : W10.ownsRow b0 3 1 (.slice (some ⟨b2, 0, none⟩) 0 0) 0 [] := by rw [← hW10]; exact World.ownsRow.alloc own1 _
            have n10 : BlockAt W10 b9 #[.int .u8 0, .slice none 0 0] 25 := by rw [← hW10]; exact BlockAt.new_at hb9
            have hk10 : b0 ≤ W10.heap.size := by omega
            have hb9g : b0 ≤ b9 := by omega
            have hne_b2_b9 : b2 ≠ b9 := by omega
            have hl10_b2 : b2 < W10.heap.size := by omega
            have hl10_b9 : b9 < W10.heap.size := by omega
            rw [hW10, hb9]
            clear hW10 hb9 hg10
            obtain ⟨a0, a1, _, _⟩ := y10.two
            refine hKq.out _ _ ?_ (fun hHeld => ?_)
            · (try dsimp only)
              exact ⟨a0, a1⟩
            clear hKq Kq a0 a1
            (try simp only [Act.put, List.setIfInBounds_toArray, List.set_cons_zero, List.set_cons_succ])
            refine wpAnyH_ready (rs := [6]) (by kernel_rfl) (by simp) ?_
            refine rd6 (fun Kq hKq => ?_) ?_
            · go_simp
              obtain ⟨W11, hW11⟩ : ∃ W11, W10.alloc (.cells #[.int .i64 11] 3) = W11 := ⟨_, rfl⟩
              obtain ⟨b6, hb6⟩ : ∃ b6, W10.heap.size = b6 := ⟨_, rfl⟩
              have hg11 : W11.heap.size = b6 + 1 := by rw [← hW11, ← hb6]; simp
              have y11 : BlockAt W11 w1.heap.size #[.int .u8 k, .slice none 0 0] 25 := by rw [← hW11]; exact y10.alloc _
              have hB11 : Below w1.heap.size w1 W11 := by rw [← hW11]; exact hB10.alloc hB10.size _
              have own11 : W11.ownsRow b0 3 1 (.slice (some ⟨b2, 0, none⟩) 0 0) 0 [] := by rw [← hW11]; exact World.ownsRow.alloc own10 _
              have n11 : BlockAt W11 b9 #[.int .u8 0, .slice none 0 0] 25 := by rw [← hW11]; exact n10.alloc _
              have e11 : BlockAt W11 b6 #[.int .i64 11] 3 := by rw [← hW11]; exact BlockAt.new_at hb6
              have hk11 : b0 ≤ W11.heap.size := by omega
              have hb6g : b0 ≤ b6 := by omega
              have hne_b2_b6 : b2 ≠ b6 := by omega
              have hl11_b2 : b2 < W11.heap.size := by omega
              have hne_b9_b6 : b9 ≠ b6 := by omega
              have hl11_b9 : b9 < W11.heap.size := by omega
              have hl11_b6 : b6 < W11.heap.size := by omega
              rw [hW11, hb6]
              clear hW11 hb6 hg11
              obtain ⟨a0, a1, _, _⟩ := y11.two
              refine hKq.out _ _ ?_ (fun hHeld => ?_)
              · (try dsimp only)
                exact ⟨a0, a1⟩
              clear hKq Kq a0 a1
              (try simp only [Act.put, List.setIfInBounds_toArray, List.set_cons_zero, List.set_cons_succ])
              refine wpAnyH_ready (rs := [7]) (by kernel_rfl) (by simp) ?_
              refine rd7 (fun Kq hKq => ?_) ?_
              · refine step_append_lies _ rfl (.tmp 36) (.tmp 37) 23 rfl b0 3 i0 (.int .i64 0) 1 8 Tryd.underlying23 hi hi0 hi1 hi2 rfl (by decide) _ 0 _ rfl own11 ⟨b6, 0, none⟩ 1 1 (natCells [11]) rfl rfl (BlockAt.newCells e11 rfl) (natCells_one _) (by decide) (by unfold maxLen; omega) (by omega) (by omega) _ rfl ?_
                intro g2 cap2 W12 own12 hgr hat hlt
                have hgs := hgr.size
                have hcase : b2 = g2 ∨ g2 = W11.heap.size := by
                  rcases hat with h | h
                  · exact .inl (Option.some.inj h)
                  · exact .inr h
                have kp : ∀ id (cs : Array Value) t, BlockAt W11 id cs t → id ≠ b2 → BlockAt W12 id cs t := fun id cs t h hne => h.kept hgr (fun e => hne (Option.some.inj e))
                have y12 : BlockAt W12 w1.heap.size #[.int .u8 k, .slice none 0 0] 25 := kp _ _ _ y11 (by omega)
                have hB12 : Below w1.heap.size w1 W12 := Below.grown hB11 hgr (by omega) (fun j hj => by have := Option.some.inj (show some b2 = some j from hj); omega)
                have n12 : BlockAt W12 b9 #[.int .u8 0, .slice none 0 0] 25 := kp _ _ _ n11 (by omega)
                have hk12 : b0 ≤ W12.heap.size := by omega
                have hg2g : b0 ≤ g2 := by omega
                have hl12_b2 : b2 < W12.heap.size := by omega
                have hne_b9_g2 : b9 ≠ g2 := by omega
                have hl12_b9 : b9 < W12.heap.size := by omega
                have hne_b6_g2 : b6 ≠ g2 := by omega
                have hl12_b6 : b6 < W12.heap.size := by omega
                clear kp hcase hat hgr hgs
                have own12 : W12.ownsRow b0 3 1 (.slice (some ⟨g2, 0, none⟩) (0 + 1) cap2) (0 + 1) (natCells [] ++ natCells [11]) := own12
                obtain ⟨a0, a1, _, _⟩ := y12.two
                refine hKq.out _ _ ?_ (fun hHeld => ?_)
                · (try dsimp only)
                  exact ⟨a0, a1⟩
                clear hKq Kq a0 a1
                (try simp only [Act.put, List.setIfInBounds_toArray, List.set_cons_zero, List.set_cons_succ])
                refine rt8 (v := ?_) (by kernel_rfl) (by kernel_rfl) (by kernel_rfl) (fun _ _ _ h => h) (by rfl) hHeld ?_ ?_
                rotate_left
                · intro w' hSw
                  (try dsimp only at hSw)
                  go_simp <;> with_reducible rfl
                (try simp only [Act.put, List.setIfInBounds_toArray, List.set_cons_zero, List.set_cons_succ])
                refine wpAnyH_ready (rs := [10]) (by kernel_rfl) (by simp) ?_
                refine rd10 (fun Kq hKq => ?_) ?_
                · obtain ⟨q0, q1, q2, q3⟩ := n12.two
                  go_simp
                  have y9f := (n12.set20 (.int .u8 k)).set21 (.slice (some ⟨g2, 0, none⟩) (0 + 1) cap2)
                  have ownf := ownsRow_setCell_other (ownsRow_setCell_other own12 (a := ⟨b9, 0, none⟩) (by intro e; have e2 := Option.some.inj (show some g2 = some b9 from e); omega) (.int .u8 k)) (a := ⟨b9, 1, none⟩) (by intro e; have e2 := Option.some.inj (show some g2 = some b9 from e); omega) (.slice (some ⟨g2, 0, none⟩) (0 + 1) cap2)
                  have y13 := (y12.other (B' := b9) (j := 0) (by omega) (.int .u8 k)).other (B' := b9) (j := 1) (by omega) (.slice (some ⟨g2, 0, none⟩) (0 + 1) cap2)
                  have hB13 := (hB12.setCell (p := ⟨b9, 0, none⟩) (by show w1.heap.size ≤ b9; omega) (.int .u8 k)).setCell (p := ⟨b9, 1, none⟩) (by show w1.heap.size ≤ b9; omega) (.slice (some ⟨g2, 0, none⟩) (0 + 1) cap2)
                  obtain ⟨a0, a1, _, _⟩ := y13.two
                  refine hKq.out _ _ ?_ (fun hHeld => ?_)
                  · (try dsimp only)
                    exact ⟨a0, a1⟩
                  clear hKq Kq a0 a1
                  (try simp only [Act.put, List.setIfInBounds_toArray, List.set_cons_zero, List.set_cons_succ])
                  refine wpAnyH_done (by kernel_rfl) ?_ _
                  refine NoPanic.normal ?_
                  go_wp2_with fail
                  go_meet
                  exact ⟨b9, some ⟨g2, 0, none⟩, cap2, rfl, y9f, NatRow.of_owns (by rw [natCells_append]; exact ownf), y13, hB13⟩
                exact AllReadyH.nil
              exact AllReadyH.nil
            exact AllReadyH.nil
          exact AllReadyH.nil
        refine rd6 (fun Kq hKq => ?_) ?_
        · go_simp
          obtain ⟨W14, hW14⟩ : ∃ W14, W1.alloc (.cells #[.int .i64 11] 3) = W14 := ⟨_, rfl⟩
          obtain ⟨b6, hb6⟩ : ∃ b6, W1.heap.size = b6 := ⟨_, rfl⟩
          have hg14 : W14.heap.size = b6 + 1 := by rw [← hW14, ← hb6]; simp
          have y14 : BlockAt W14 w1.heap.size #[.int .u8 k, .slice none 0 0] 25 := by rw [← hW14]; exact y1.alloc _
          have hB14 : Below w1.heap.size w1 W14 := by rw [← hW14]; exact hB1.alloc hB1.size _
          have own14 : W14.ownsRow b0 3 1 (.slice (some ⟨b2, 0, none⟩) 0 0) 0 [] := by rw [← hW14]; exact World.ownsRow.alloc own1 _
          have e14 : BlockAt W14 b6 #[.int .i64 11] 3 := by rw [← hW14]; exact BlockAt.new_at hb6
          have hk14 : b0 ≤ W14.heap.size := by omega
          have hb6g : b0 ≤ b6 := by omega
          have hne_b2_b6 : b2 ≠ b6 := by omega
          have hl14_b2 : b2 < W14.heap.size := by omega
          have hl14_b6 : b6 < W14.heap.size := by omega
          rw [hW14, hb6]
          clear hW14 hb6 hg14
          obtain ⟨a0, a1, _, _⟩ := y14.two
          refine hKq.out _ _ ?_ (fun hHeld => ?_)
          · (try dsimp only)
            exact ⟨a0, a1⟩
          clear hKq Kq a0 a1
          (try simp only [Act.put, List.setIfInBounds_toArray, List.set_cons_zero, List.set_cons_succ])
          refine wpAnyH_ready (rs := [5, 9]) (by kernel_rfl) (by simp) ?_
          refine rd5 (fun Kq hKq => ?_) ?_
          · refine step_append_nil rfl (.tmp 33) (.tmp 35) 23 rfl b0 3 i0 1 Tryd.underlying23 hi _ 0 [] rfl own14 rfl ?_
            obtain ⟨a0, a1, _, _⟩ := y14.two
            refine hKq.out _ _ ?_ (fun hHeld => ?_)
            · (try dsimp only)
              exact ⟨a0, a1⟩
            clear hKq Kq a0 a1
            (try simp only [Act.put, List.setIfInBounds_toArray, List.set_cons_zero, List.set_cons_succ])
            refine wpAnyH_ready (rs := [7, 9]) (by kernel_rfl) (by simp) ?_
            refine rd7 (fun Kq hKq => ?_) ?_
            · refine step_append_lies _ rfl (.tmp 36) (.tmp 37) 23 rfl b0 3 i0 (.int .i64 0) 1 8 Tryd.underlying23 hi hi0 hi1 hi2 rfl (by decide) _ 0 _ rfl own14 ⟨b6, 0, none⟩ 1 1 (natCells [11]) rfl rfl (BlockAt.newCells e14 rfl) (natCells_one _) (by decide) (by unfold maxLen; omega) (by omega) (by omega) _ rfl ?_
              intro g2 cap2 W16 own16 hgr hat hlt
              have hgs := hgr.size
              have hcase : b2 = g2 ∨ g2 = W14.heap.size := by
                rcases hat with h | h
                · exact .inl (Option.some.inj h)
                · exact .inr h
              have kp : ∀ id (cs : Array Value) t, BlockAt W14 id cs t → id ≠ b2 → BlockAt W16 id cs t := fun id cs t h hne => h.kept hgr (fun e => hne (Option.some.inj e))
              have y16 : BlockAt W16 w1.heap.size #[.int .u8 k, .slice none 0 0] 25 := kp _ _ _ y14 (by omega)
              have hB16 : Below w1.heap.size w1 W16 := Below.grown hB14 hgr (by omega) (fun j hj => by have := Option.some.inj (show some b2 = some j from hj); omega)
              have hk16 : b0 ≤ W16.heap.size := by omega
              have hg2g : b0 ≤ g2 := by omega
              have hl16_b2 : b2 < W16.heap.size := by omega
              have hne_b6_g2 : b6 ≠ g2 := by omega
              have hl16_b6 : b6 < W16.heap.size := by omega
              clear kp hcase hat hgr hgs
              have own16 : W16.ownsRow b0 3 1 (.slice (some ⟨g2, 0, none⟩) (0 + 1) cap2) (0 + 1) (natCells [] ++ natCells [11]) := own16
              obtain ⟨a0, a1, _, _⟩ := y16.two
              refine hKq.out _ _ ?_ (fun hHeld => ?_)
              · (try dsimp only)
                exact ⟨a0, a1⟩
              clear hKq Kq a0 a1
              (try simp only [Act.put, List.setIfInBounds_toArray, List.set_cons_zero, List.set_cons_succ])
              refine rt8 (v := ?_) (by kernel_rfl) (by kernel_rfl) (by kernel_rfl) (fun _ _ _ h => h) (by rfl) hHeld ?_ ?_
              rotate_left
              · intro w' hSw
                (try dsimp only at hSw)
                go_simp <;> with_reducible rfl
              (try simp only [Act.put, List.setIfInBounds_toArray, List.set_cons_zero, List.set_cons_succ])
              refine wpAnyH_ready (rs := [9]) (by kernel_rfl) (by simp) ?_
              refine rd9 (fun Kq hKq => ?_) ?_
              · go_simp
                obtain ⟨W17, hW17⟩ : ∃ W17, W16.alloc (.cells #[.int .u8 0, .slice none 0 0] 25) = W17 := ⟨_, rfl⟩
                obtain ⟨b9, hb9⟩ : ∃ b9, W16.heap.size = b9 := ⟨_, rfl⟩
                have hg17 : W17.heap.size = b9 + 1 := by rw [← hW17, ← hb9]; simp
                have y17 : BlockAt W17 w1.heap.size #[.int .u8 k, .slice none 0 0] 25 := by rw [← hW17]; exact y16.alloc _
                have hB17 : Below w1.heap.size w1 W17 := by rw [← hW17]; exact hB16.alloc hB16.size _
                have own17 : W17.ownsRow b0 3 1 (.slice (some ⟨g2, 0, none⟩) (0 + 1) cap2) (0 + 1) ((natCells []) ++ natCells [11]) := by rw [← hW17]; exact World.ownsRow.alloc own16 _
                have n17 : BlockAt W17 b9 #[.int .u8 0, .slice none 0 0] 25 := by rw [← hW17]; exact BlockAt.new_at hb9
                have hk17 : b0 ≤ W17.heap.size := by omega
                have hb9g : b0 ≤ b9 := by omega
                have hne_b6_b9 : b6 ≠ b9 := by omega
                have hl17_b6 : b6 < W17.heap.size := by omega
                have hne_g2_b9 : g2 ≠ b9 := by omega
                have hl17_g2 : g2 < W17.heap.size := by omega
                have hl17_b9 : b9 < W17.heap.size := by omega
                rw [hW17, hb9]
                clear hW17 hb9 hg17
                obtain ⟨a0, a1, _, _⟩ := y17.two
                refine hKq.out _ _ ?_ (fun hHeld => ?_)
                · (try dsimp only)
                  exact ⟨a0, a1⟩
                clear hKq Kq a0 a1
                (try simp only [Act.put, List.setIfInBounds_toArray, List.set_cons_zero, List.set_cons_succ])
                refine wpAnyH_ready (rs := [10]) (by kernel_rfl) (by simp) ?_
                refine rd10 (fun Kq hKq => ?_) ?_
                · obtain ⟨q0, q1, q2, q3⟩ := n17.two
                  go_simp
                  have y9f := (n17.set20 (.int .u8 k)).set21 (.slice (some ⟨g2, 0, none⟩) (0 + 1) cap2)
                  have ownf := ownsRow_setCell_other (ownsRow_setCell_other own17 (a := ⟨b9, 0, none⟩) (by intro e; have e2 := Option.some.inj (show some g2 = some b9 from e); omega) (.int .u8 k)) (a := ⟨b9, 1, none⟩) (by intro e; have e2 := Option.some.inj (show some g2 = some b9 from e); omega) (.slice (some ⟨g2, 0, none⟩) (0 + 1) cap2)
                  have y18 := (y17.other (B' := b9) (j := 0) (by omega) (.int .u8 k)).other (B' := b9) (j := 1) (by omega) (.slice (some ⟨g2, 0, none⟩) (0 + 1) cap2)
                  have hB18 := (hB17.setCell (p := ⟨b9, 0, none⟩) (by show w1.heap.size ≤ b9; omega) (.int .u8 k)).setCell (p := ⟨b9, 1, none⟩) (by show w1.heap.size ≤ b9; omega) (.slice (some ⟨g2, 0, none⟩) (0 + 1) cap2)
                  obtain ⟨a0, a1, _, _⟩ := y18.two
                  refine hKq.out _ _ ?_ (fun hHeld => ?_)
                  · (try dsimp only)
                    exact ⟨a0, a1⟩
                  clear hKq Kq a0 a1
                  (try simp only [Act.put, List.setIfInBounds_toArray, List.set_cons_zero, List.set_cons_succ])
                  refine wpAnyH_done (by kernel_rfl) ?_ _
                  refine NoPanic.normal ?_
                  go_wp2_with fail
                  go_meet
                  exact ⟨b9, some ⟨g2, 0, none⟩, cap2, rfl, y9f, NatRow.of_owns (by rw [natCells_append]; exact ownf), y18, hB18⟩
                exact AllReadyH.nil
              exact AllReadyH.nil
            refine rd9 (fun Kq hKq => ?_) ?_
            · go_simp
              obtain ⟨W19, hW19⟩ : ∃ W19, W14.alloc (.cells #[.int .u8 0, .slice none 0 0] 25) = W19 := ⟨_, rfl⟩
              obtain ⟨b9, hb9⟩ : ∃ b9, W14.heap.size = b9 := ⟨_, rfl⟩
              have hg19 : W19.heap.size = b9 + 1 := by rw [← hW19, ← hb9]; simp
              have y19 : BlockAt W19 w1.heap.size #[.int .u8 k, .slice none 0 0] 25 := by rw [← hW19]; exact y14.alloc _
              have hB19 : Below w1.heap.size w1 W19 := by rw [← hW19]; exact hB14.alloc hB14.size _
              have own19 : W19.ownsRow b0 3 1 (.slice (some ⟨b2, 0, none⟩) 0 0) 0 [] := by rw [← hW19]; exact World.ownsRow.alloc own14 _
              have e19 : BlockAt W19 b6 #[.int .i64 11] 3 := by rw [← hW19]; exact e14.alloc _
              have n19 : BlockAt W19 b9 #[.int .u8 0, .slice none 0 0] 25 := by rw [← hW19]; exact BlockAt.new_at hb9
              have hk19 : b0 ≤ W19.heap.size := by omega
              have hb9g : b0 ≤ b9 := by omega
              have hne_b2_b9 : b2 ≠ b9 := by omega
              have hl19_b2 : b2 < W19.heap.size := by omega
              have hne_b6_b9 : b6 ≠ b9 := by omega
              have hl19_b6 : b6 < W19.heap.size := by omega
              have hl19_b9 : b9 < W19.heap.size := by omega
              rw [hW19, hb9]
              clear hW19 hb9 hg19
              obtain ⟨a0, a1, _, _⟩ := y19.two
              refine hKq.out _ _ ?_ (fun hHeld => ?_)
              · (try dsimp only)
                exact ⟨a0, a1⟩
              clear hKq Kq a0 a1
              (try simp only [Act.put, List.setIfInBounds_toArray, List.set_cons_zero, List.set_cons_succ])
              refine wpAnyH_ready (rs := [7]) (by kernel_rfl) (by simp) ?_
              refine rd7 (fun Kq hKq => ?_) ?_
              · refine step_append_lies _ rfl (.tmp 36) (.tmp 37) 23 rfl b0 3 i0 (.int .i64 0) 1 8 Tryd.underlying23 hi hi0 hi1 hi2 rfl (by decide) _ 0 _ rfl own19 ⟨b6, 0, none⟩ 1 1 (natCells [11]) rfl rfl (BlockAt.newCells e19 rfl) (natCells_one _) (by decide) (by unfold maxLen; omega) (by omega) (by omega) _ rfl ?_
                intro g2 cap2 W20 own20 hgr hat hlt
                have hgs := hgr.size
                have hcase : b2 = g2 ∨ g2 = W19.heap.size := by
                  rcases hat with h | h
                  · exact .inl (Option.some.inj h)
                  · exact .inr h
                have kp : ∀ id (cs : Array Value) t, BlockAt W19 id cs t → id ≠ b2 → BlockAt W20 id cs t := fun id cs t h hne => h.kept hgr (fun e => hne (Option.some.inj e))
                have y20 : BlockAt W20 w1.heap.size #[.int .u8 k, .slice none 0 0] 25 := kp _ _ _ y19 (by omega)
                have hB20 : Below w1.heap.size w1 W20 := Below.grown hB19 hgr (by omega) (fun j hj => by have := Option.some.inj (show some b2 = some j from hj); omega)
                have n20 : BlockAt W20 b9 #[.int .u8 0, .slice none 0 0] 25 := kp _ _ _ n19 (by omega)
                have hk20 : b0 ≤ W20.heap.size := by omega
                have hg2g : b0 ≤ g2 := by omega
                have hl20_b2 : b2 < W20.heap.size := by omega
                have hne_b6_g2 : b6 ≠ g2 := by omega
                have hl20_b6 : b6 < W20.heap.size := by omega
                have hne_b9_g2 : b9 ≠ g2 := by omega
                have hl20_b9 : b9 < W20.heap.size := by omega
                clear kp hcase hat hgr hgs
                have own20 : W20.ownsRow b0 3 1 (.slice (some ⟨g2, 0, none⟩) (0 + 1) cap2) (0 + 1) (natCells [] ++ natCells [11]) := own20
                obtain ⟨a0, a1, _, _⟩ := y20.two
                refine hKq.out _ _ ?_ (fun hHeld => ?_)
                · (try dsimp only)
                  exact ⟨a0, a1⟩
                clear hKq Kq a0 a1
                (try simp only [Act.put, List.setIfInBounds_toArray, List.set_cons_zero, List.set_cons_succ])
                refine rt8 (v := ?_) (by kernel_rfl) (by kernel_rfl) (by kernel_rfl) (fun _ _ _ h => h) (by rfl) hHeld ?_ ?_
                rotate_left
                · intro w' hSw
                  (try dsimp only at hSw)
                  go_simp <;> with_reducible rfl
                (try simp only [Act.put, List.setIfInBounds_toArray, List.set_cons_zero, List.set_cons_succ])
                refine wpAnyH_ready (rs := [10]) (by kernel_rfl) (by simp) ?_
                refine rd10 (fun Kq hKq => ?_) ?_
                · obtain ⟨q0, q1, q2, q3⟩ := n20.two
                  go_simp
                  have y9f := (n20.set20 (.int .u8 k)).set21 (.slice (some ⟨g2, 0, none⟩) (0 + 1) cap2)
                  have ownf := ownsRow_setCell_other (ownsRow_setCell_other own20 (a := ⟨b9, 0, none⟩) (by intro e; have e2 := Option.some.inj (show some g2 = some b9 from e); omega) (.int .u8 k)) (a := ⟨b9, 1, none⟩) (by intro e; have e2 := Option.some.inj (show some g2 = some b9 from e); omega) (.slice (some ⟨g2, 0, none⟩) (0 + 1) cap2)
                  have y21 := (y20.other (B' := b9) (j := 0) (by omega) (.int .u8 k)).other (B' := b9) (j := 1) (by omega) (.slice (some ⟨g2, 0, none⟩) (0 + 1) cap2)
                  have hB21 := (hB20.setCell (p := ⟨b9, 0, none⟩) (by show w1.heap.size ≤ b9; omega) (.int .u8 k)).setCell (p := ⟨b9, 1, none⟩) (by show w1.heap.size ≤ b9; omega) (.slice (some ⟨g2, 0, none⟩) (0 + 1) cap2)
                  obtain ⟨a0, a1, _, _⟩ := y21.two
                  refine hKq.out _ _ ?_ (fun hHeld => ?_)
                  · (try dsimp only)
                    exact ⟨a0, a1⟩
                  clear hKq Kq a0 a1
                  (try simp only [Act.put, List.setIfInBounds_toArray, List.set_cons_zero, List.set_cons_succ])
                  refine wpAnyH_done (by kernel_rfl) ?_ _
                  refine NoPanic.normal ?_
                  go_wp2_with fail
                  go_meet
                  exact ⟨b9, some ⟨g2, 0, none⟩, cap2, rfl, y9f, NatRow.of_owns (by rw [natCells_append]; exact ownf), y21, hB21⟩
                exact AllReadyH.nil
              exact AllReadyH.nil
            exact AllReadyH.nil
          refine rd9 (fun Kq hKq => ?_) ?_
          · go_simp
            obtain ⟨W22, hW22⟩ : ∃ W22, W14.alloc (.cells #[.int .u8 0, .slice none 0 0] 25) = W22 := ⟨_, rfl⟩
            obtain ⟨b9, hb9⟩ : ∃ b9, W14.heap.size = b9 := ⟨_, rfl⟩
            have hg22 : W22.heap.size = b9 + 1 := by rw [← hW22, ← hb9]; simp
            have y22 : BlockAt W22 w1.heap.size #[.int .u8 k, .slice none 0 0] 25 := by rw [← hW22]; exact y14.alloc _
            have hB22 : Below w1.heap.size w1 W22 := by rw [← hW22]; exact hB14.alloc hB14.size _
            have own22 : W22.ownsRow b0 3 1 (.slice (some ⟨b2, 0, none⟩) 0 0) 0 [] := by rw [← hW22]; exact World.ownsRow.alloc own14 _
            have e22 : BlockAt W22 b6 #[.int .i64 11] 3 := by rw [← hW22]; exact e14.alloc _
            have n22 : BlockAt W22 b9 #[.int .u8 0, .slice none 0 0] 25 := by rw [← hW22]; exact BlockAt.new_at hb9
            have hk22 : b0 ≤ W22.heap.size := by omega
            have hb9g : b0 ≤ b9 := by omega
            have hne_b2_b9 : b2 ≠ b9 := by omega
            have hl22_b2 : b2 < W22.heap.size := by omega
            have hne_b6_b9 : b6 ≠ b9 := by omega
            have hl22_b6 : b6 < W22.heap.size := by omega
            have hl22_b9 : b9 < W22.heap.size := by omega
            rw [hW22, hb9]
            clear hW22 hb9 hg22
            obtain ⟨a0, a1, _, _⟩ := y22.two
            refine hKq.out _ _ ?_ (fun hHeld => ?_)
            · (try dsimp only)
              exact ⟨a0, a1⟩
            clear hKq Kq a0 a1
            (try simp only [Act.put, List.setIfInBounds_toArray, List.set_cons_zero, List.set_cons_succ])
            refine wpAnyH_ready (rs := [5]) (by kernel_rfl) (by simp) ?_
            refine rd5 (fun Kq hKq => ?_) ?_
            · refine step_append_nil rfl (.tmp 33) (.tmp 35) 23 rfl b0 3 i0 1 Tryd.underlying23 hi _ 0 [] rfl own22 rfl ?_
              obtain ⟨a0, a1, _, _⟩ := y22.two
              refine hKq.out _ _ ?_ (fun hHeld => ?_)
              · (try dsimp only)
                exact ⟨a0, a1⟩
              clear hKq Kq a0 a1
              (try simp only [Act.put, List.setIfInBounds_toArray, List.set_cons_zero, List.set_cons_succ])
              refine wpAnyH_ready (rs := [7]) (by kernel_rfl) (by simp) ?_
              refine rd7 (fun Kq hKq => ?_) ?_
              · refine step_append_lies _ rfl (.tmp 36) (.tmp 37) 23 rfl b0 3 i0 (.int .i64 0) 1 8 Tryd.underlying23 hi hi0 hi1 hi2 rfl (by decide) _ 0 _ rfl own22 ⟨b6, 0, none⟩ 1 1 (natCells [11]) rfl rfl (BlockAt.newCells e22 rfl) (natCells_one _) (by decide) (by unfold maxLen; omega) (by omega) (by omega) _ rfl ?_
                intro g2 cap2 W24 own24 hgr hat hlt
                have hgs := hgr.size
                have hcase : b2 = g2 ∨ g2 = W22.heap.size := by
                  rcases hat with h | h
                  · exact .inl (Option.some.inj h)
                  · exact .inr h
                have kp : ∀ id (cs : Array Value) t, BlockAt W22 id cs t → id ≠ b2 → BlockAt W24 id cs t := fun id cs t h hne => h.kept hgr (fun e => hne (Option.some.inj e))
                have y24 : BlockAt W24 w1.heap.size #[.int .u8 k, .slice none 0 0] 25 := kp _ _ _ y22 (by omega)
                have hB24 : Below w1.heap.size w1 W24 := Below.grown hB22 hgr (by omega) (fun j hj => by have := Option.some.inj (show some b2 = some j from hj); omega)
                have n24 : BlockAt W24 b9 #[.int .u8 0, .slice none 0 0] 25 := kp _ _ _ n22 (by omega)
                have hk24 : b0 ≤ W24.heap.size := by omega
                have hg2g : b0 ≤ g2 := by omega
                have hl24_b2 : b2 < W24.heap.size := by omega
                have hne_b6_g2 : b6 ≠ g2 := by omega
                have hl24_b6 : b6 < W24.heap.size := by omega
                have hne_b9_g2 : b9 ≠ g2 := by omega
                have hl24_b9 : b9 < W24.heap.size := by omega
                clear kp hcase hat hgr hgs
                have own24 : W24.ownsRow b0 3 1 (.slice (some ⟨g2, 0, none⟩) (0 + 1) cap2) (0 + 1) (natCells [] ++ natCells [11]) := own24
                obtain ⟨a0, a1, _, _⟩ := y24.two
                refine hKq.out _ _ ?_ (fun hHeld => ?_)
                · (try dsimp only)
                  exact ⟨a0, a1⟩
                clear hKq Kq a0 a1
                (try simp only [Act.put, List.setIfInBounds_toArray, List.set_cons_zero, List.set_cons_succ])
                refine rt8 (v := ?_) (by kernel_rfl) (by kernel_rfl) (by kernel_rfl) (fun _ _ _ h => h) (by rfl) hHeld ?_ ?_
                rotate_left
                · intro w' hSw
                  (try dsimp only at hSw)
                  go_simp <;> with_reducible rfl
                (try simp only [Act.put, List.setIfInBounds_toArray, List.set_cons_zero, List.set_cons_succ])
                refine wpAnyH_ready (rs := [10]) (by kernel_rfl) (by simp) ?_
                refine rd10 (fun Kq hKq => ?_) ?_
                · obtain ⟨q0, q1, q2, q3⟩ := n24.two
                  go_simp
                  have y9f := (n24.set20 (.int .u8 k)).set21 (.slice (some ⟨g2, 0, none⟩) (0 + 1) cap2)
                  have ownf := ownsRow_setCell_other (ownsRow_setCell_other own24 (a := ⟨b9, 0, none⟩) (by intro e; have e2 := Option.some.inj (show some g2 = some b9 from e); omega) (.int .u8 k)) (a := ⟨b9, 1, none⟩) (by intro e; have e2 := Option.some.inj (show some g2 = some b9 from e); omega) (.slice (some ⟨g2, 0, none⟩) (0 + 1) cap2)
                  have y25 := (y24.other (B' := b9) (j := 0) (by omega) (.int .u8 k)).other (B' := b9) (j := 1) (by omega) (.slice (some ⟨g2, 0, none⟩) (0 + 1) cap2)
                  have hB25 := (hB24.setCell (p := ⟨b9, 0, none⟩) (by show w1.heap.size ≤ b9; omega) (.int .u8 k)).setCell (p := ⟨b9, 1, none⟩) (by show w1.heap.size ≤ b9; omega) (.slice (some ⟨g2, 0, none⟩) (0 + 1) cap2)
                  obtain ⟨a0, a1, _, _⟩ := y25.two
                  refine hKq.out _ _ ?_ (fun hHeld => ?_)
                  · (try dsimp only)
                    exact ⟨a0, a1⟩
                  clear hKq Kq a0 a1
                  (try simp only [Act.put, List.setIfInBounds_toArray, List.set_cons_zero, List.set_cons_succ])
                  refine wpAnyH_done (by kernel_rfl) ?_ _
                  refine NoPanic.normal ?_
                  go_wp2_with fail
                  go_meet
                  exact ⟨b9, some ⟨g2, 0, none⟩, cap2, rfl, y9f, NatRow.of_owns (by rw [natCells_append]; exact ownf), y25, hB25⟩
                exact AllReadyH.nil
              exact AllReadyH.nil
            exact AllReadyH.nil
          exact AllReadyH.nil
        refine rd9 (fun Kq hKq => ?_) ?_
        · go_simp
          obtain ⟨W26, hW26⟩ : ∃ W26, W1.alloc (.cells #[.int .u8 0, .slice none 0 0] 25) = W26 := ⟨_, rfl⟩
          obtain ⟨b9, hb9⟩ : ∃ b9, W1.heap.size = b9 := ⟨_, rfl⟩
          have hg26 : W26.heap.size = b9 + 1 := by rw [← hW26, ← hb9]; simp
          have y26 : BlockAt W26 w1.heap.size #[.int .u8 k, .slice none 0 0] 25 := by rw [← hW26]; exact y1.alloc _
          have hB26 : Below w1.heap.size w1 W26 := by rw [← hW26]; exact hB1.alloc hB1.size _
          have own26 : W26.ownsRow b0 3 1 (.slice (some ⟨b2, 0, none⟩) 0 0) 0 [] := by rw [← hW26]; exact World.ownsRow.alloc own1 _
          have n26 : BlockAt W26 b9 #[.int .u8 0, .slice none 0 0] 25 := by rw [← hW26]; exact BlockAt.new_at hb9
          have hk26 : b0 ≤ W26.heap.size := by omega
          have hb9g : b0 ≤ b9 := by omega
          have hne_b2_b9 : b2 ≠ b9 := by omega
          have hl26_b2 : b2 < W26.heap.size := by omega
          have hl26_b9 : b9 < W26.heap.size := by omega
          rw [hW26, hb9]
          clear hW26 hb9 hg26
          obtain ⟨a0, a1, _, _⟩ := y26.two
          refine hKq.out _ _ ?_ (fun hHeld => ?_)
          · (try dsimp only)
            exact ⟨a0, a1⟩
          clear hKq Kq a0 a1
          (try simp only [Act.put, List.setIfInBounds_toArray, List.set_cons_zero, List.set_cons_succ])
          refine wpAnyH_ready (rs := [5, 6]) (by kernel_rfl) (by simp) ?_
          refine rd5 (fun Kq hKq => ?_) ?_
          · refine step_append_nil rfl (.tmp 33) (.tmp 35) 23 rfl b0 3 i0 1 Tryd.underlying23 hi _ 0 [] rfl own26 rfl ?_
            obtain ⟨a0, a1, _, _⟩ := y26.two
            refine hKq.out _ _ ?_ (fun hHeld => ?_)
            · (try dsimp only)
              exact ⟨a0, a1⟩
            clear hKq Kq a0 a1
            (try simp only [Act.put, List.setIfInBounds_toArray, List.set_cons_zero, List.set_cons_succ])
            refine wpAnyH_ready (rs := [6]) (by kernel_rfl) (by simp) ?_
            refine rd6 (fun Kq hKq => ?_) ?_
            · go_simp
              obtain ⟨W28, hW28⟩ : ∃ W28, W26.alloc (.cells #[.int .i64 11] 3) = W28 := ⟨_, rfl⟩
              obtain ⟨b6, hb6⟩ : ∃ b6, W26.heap.size = b6 := ⟨_, rfl⟩
              have hg28 : W28.heap.size = b6 + 1 := by rw [← hW28, ← hb6]; simp
              have y28 : BlockAt W28 w1.heap.size #[.int .u8 k, .slice none 0 0] 25 := by rw [← hW28]; exact y26.alloc _
              have hB28 : Below w1.heap.size w1 W28 := by rw [← hW28]; exact hB26.alloc hB26.size _
              have own28 : W28.ownsRow b0 3 1 (.slice (some ⟨b2, 0, none⟩) 0 0) 0 [] := by rw [← hW28]; exact World.ownsRow.alloc own26 _
              have n28 : BlockAt W28 b9 #[.int .u8 0, .slice none 0 0] 25 := by rw [← hW28]; exact n26.alloc _
              have e28 : BlockAt W28 b6 #[.int .i64 11] 3 := by rw [← hW28]; exact BlockAt.new_at hb6
              have hk28 : b0 ≤ W28.heap.size := by omega
              have hb6g : b0 ≤ b6 := by omega
              have hne_b2_b6 : b2 ≠ b6 := by omega
              have hl28_b2 : b2 < W28.heap.size := by omega
              have hne_b9_b6 : b9 ≠ b6 := by omega
              have hl28_b9 : b9 < W28.heap.size := by omega
              have hl28_b6 : b6 < W28.heap.size := by omega
              rw [hW28, hb6]
              clear hW28 hb6 hg28
              obtain ⟨a0, a1, _, _⟩ := y28.two
              refine hKq.out _ _ ?_ (fun hHeld => ?_)
              · (try dsimp only)
                exact ⟨a0, a1⟩
              clear hKq Kq a0 a1
              (try simp only [Act.put, List.setIfInBounds_toArray, List.set_cons_zero, List.set_cons_succ])
              refine wpAnyH_ready (rs := [7]) (by kernel_rfl) (by simp) ?_
              refine rd7 (fun Kq hKq => ?_) ?_
              · refine step_append_lies _ rfl (.tmp 36) (.tmp 37) 23 rfl b0 3 i0 (.int .i64 0) 1 8 Tryd.underlying23 hi hi0 hi1 hi2 rfl (by decide) _ 0 _ rfl own28 ⟨b6, 0, none⟩ 1 1 (natCells [11]) rfl rfl (BlockAt.newCells e28 rfl) (natCells_one _) (by decide) (by unfold maxLen; omega) (by omega) (by omega) _ rfl ?_
                intro g2 cap2 W29 own29 hgr hat hlt
                have hgs := hgr.size
                have hcase : b2 = g2 ∨ g2 = W28.heap.size := by
                  rcases hat with h | h
                  · exact .inl (Option.some.inj h)
                  · exact .inr h
                have kp : ∀ id (cs : Array Value) t, BlockAt W28 id cs t → id ≠ b2 → BlockAt W29 id cs t := fun id cs t h hne => h.kept hgr (fun e => hne (Option.some.inj e))
                have y29 : BlockAt W29 w1.heap.size #[.int .u8 k, .slice none 0 0] 25 := kp _ _ _ y28 (by omega)
                have hB29 : Below w1.heap.size w1 W29 := Below.grown hB28 hgr (by omega) (fun j hj => by have := Option.some.inj (show some b2 = some j from hj); omega)
                have n29 : BlockAt W29 b9 #[.int .u8 0, .slice none 0 0] 25 := kp _ _ _ n28 (by omega)
                have hk29 : b0 ≤ W29.heap.size := by omega
                have hg2g : b0 ≤ g2 := by omega
                have hl29_b2 : b2 < W29.heap.size := by omega
                have hne_b9_g2 : b9 ≠ g2 := by omega
                have hl29_b9 : b9 < W29.heap.size := by omega
                have hne_b6_g2 : b6 ≠ g2 := by omega
                have hl29_b6 : b6 < W29.heap.size := by omega
                clear kp hcase hat hgr hgs
                have own29 : W29.ownsRow b0 3 1 (.slice (some ⟨g2, 0, none⟩) (0 + 1) cap2) (0 + 1) (natCells [] ++ natCells [11]) := own29
                obtain ⟨a0, a1, _, _⟩ := y29.two
                refine hKq.out _ _ ?_ (fun hHeld => ?_)
                · (try dsimp only)
                  exact ⟨a0, a1⟩
                clear hKq Kq a0 a1
                (try simp only [Act.put, List.setIfInBounds_toArray, List.set_cons_zero, List.set_cons_succ])
                refine rt8 (v := ?_) (by kernel_rfl) (by kernel_rfl) (by kernel_rfl) (fun _ _ _ h => h) (by rfl) hHeld ?_ ?_
                rotate_left
                · intro w' hSw
                  (try dsimp only at hSw)
                  go_simp <;> with_reducible rfl
                (try simp only [Act.put, List.setIfInBounds_toArray, List.set_cons_zero, List.set_cons_succ])
                refine wpAnyH_ready (rs := [10]) (by kernel_rfl) (by simp) ?_
                refine rd10 (fun Kq hKq => ?_) ?_
                · obtain ⟨q0, q1, q2, q3⟩ := n29.two
                  go_simp
                  have y9f := (n29.set20 (.int .u8 k)).set21 (.slice (some ⟨g2, 0, none⟩) (0 + 1) cap2)
                  have ownf := ownsRow_setCell_other (ownsRow_setCell_other own29 (a := ⟨b9, 0, none⟩) (by intro e; have e2 := Option.some.inj (show some g2 = some b9 from e); omega) (.int .u8 k)) (a := ⟨b9, 1, none⟩) (by intro e; have e2 := Option.some.inj (show some g2 = some b9 from e); omega) (.slice (some ⟨g2, 0, none⟩) (0 + 1) cap2)
                  have y30 := (y29.other (B' := b9) (j := 0) (by omega) (.int .u8 k)).other (B' := b9) (j := 1) (by omega) (.slice (some ⟨g2, 0, none⟩) (0 + 1) cap2)
                  have hB30 := (hB29.setCell (p := ⟨b9, 0, none⟩) (by show w1.heap.size ≤ b9; omega) (.int .u8 k)).setCell (p := ⟨b9, 1, none⟩) (by show w1.heap.size ≤ b9; omega) (.slice (some ⟨g2, 0, none⟩) (0 + 1) cap2)
                  obtain ⟨a0, a1, _, _⟩ := y30.two
                  refine hKq.out _ _ ?_ (fun hHeld => ?_)
                  · (try dsimp only)
                    exact ⟨a0, a1⟩
                  clear hKq Kq a0 a1
                  (try simp only [Act.put, List.setIfInBounds_toArray, List.set_cons_zero, List.set_cons_succ])
                  refine wpAnyH_done (by kernel_rfl) ?_ _
                  refine NoPanic.normal ?_
                  go_wp2_with fail
                  go_meet
                  exact ⟨b9, some ⟨g2, 0, none⟩, cap2, rfl, y9f, NatRow.of_owns (by rw [natCells_append]; exact ownf), y30, hB30⟩
                exact AllReadyH.nil
              exact AllReadyH.nil
            exact AllReadyH.nil
          refine rd6 (fun Kq hKq => ?_) ?_
          · go_simp
            obtain ⟨W31, hW31⟩ : ∃ W31, W26.alloc (.cells #[.int .i64 11] 3) = W31 := ⟨_, rfl⟩
            obtain ⟨b6, hb6⟩ : ∃ b6, W26.heap.size = b6 := ⟨_, rfl⟩
            have hg31 : W31.heap.size = b6 + 1 := by rw [← hW31, ← hb6]; simp
            have y31 : BlockAt W31 w1.heap.size #[.int .u8 k, .slice none 0 0] 25 := by rw [← hW31]; exact y26.alloc _
            have hB31 : Below w1.heap.size w1 W31 := by rw [← hW31]; exact hB26.alloc hB26.size _
            have own31 : W31.ownsRow b0 3 1 (.slice (some ⟨b2, 0, none⟩) 0 0) 0 [] := by rw [← hW31]; exact World.ownsRow.alloc own26 _
            have n31 : BlockAt W31 b9 #[.int .u8 0, .slice none 0 0] 25 := by rw [← hW31]; exact n26.alloc _
            have e31 : BlockAt W31 b6 #[.int .i64 11] 3 := by rw [← hW31]; exact BlockAt.new_at hb6
            have hk31 : b0 ≤ W31.heap.size := by omega
            have hb6g : b0 ≤ b6 := by omega
            have hne_b2_b6 : b2 ≠ b6 := by omega
            have hl31_b2 : b2 < W31.heap.size := by omega
            have hne_b9_b6 : b9 ≠ b6 := by omega
            have hl31_b9 : b9 < W31.heap.size := by omega
            have hl31_b6 : b6 < W31.heap.size := by omega
            rw [hW31, hb6]
            clear hW31 hb6 hg31
            obtain ⟨a0, a1, _, _⟩ := y31.two
            refine hKq.out _ _ ?_ (fun hHeld => ?_)
            · (try dsimp only)
              exact ⟨a0, a1⟩
            clear hKq Kq a0 a1
            (try simp only [Act.put, List.setIfInBounds_toArray, List.set_cons_zero, List.set_cons_succ])
            refine wpAnyH_ready (rs := [5]) (by kernel_rfl) (by simp) ?_
            refine rd5 (fun Kq hKq => ?_) ?_
            · refine step_append_nil rfl (.tmp 33) (.tmp 35) 23 rfl b0 3 i0 1 Tryd.underlying23 hi _ 0 [] rfl own31 rfl ?_
              obtain ⟨a0, a1, _, _⟩ := y31.two
              refine hKq.out _ _ ?_ (fun hHeld => ?_)
              · (try dsimp only)
                exact ⟨a0, a1⟩
              clear hKq Kq a0 a1
              (try simp only [Act.put, List.setIfInBounds_toArray, List.set_cons_zero, List.set_cons_succ])
              refine wpAnyH_ready (rs := [7]) (by kernel_rfl) (by simp) ?_
              refine rd7 (fun Kq hKq => ?_) ?_
              · refine step_append_lies _ rfl (.tmp 36) (.tmp 37) 23 rfl b0 3 i0 (.int .i64 0) 1 8 Tryd.underlying23 hi hi0 hi1 hi2 rfl (by decide) _ 0 _ rfl own31 ⟨b6, 0, none⟩ 1 1 (natCells [11]) rfl rfl (BlockAt.newCells e31 rfl) (natCells_one _) (by decide) (by unfold maxLen; omega) (by omega) (by omega) _ rfl ?_
                intro g2 cap2 W33 own33 hgr hat hlt
                have hgs := hgr.size
                have hcase : b2 = g2 ∨ g2 = W31.heap.size := by
                  rcases hat with h | h
                  · exact .inl (Option.some.inj h)
                  · exact .inr h
                have kp : ∀ id (cs : Array Value) t, BlockAt W31 id cs t → id ≠ b2 → BlockAt W33 id cs t := fun id cs t h hne => h.kept hgr (fun e => hne (Option.some.inj e))
                have y33 : BlockAt W33 w1.heap.size #[.int .u8 k, .slice none 0 0] 25 := kp _ _ _ y31 (by omega)
                have hB33 : Below w1.heap.size w1 W33 := Below.grown hB31 hgr (by omega) (fun j hj => by have := Option.some.inj (show some b2 = some j from hj); omega)
                have n33 : BlockAt W33 b9 #[.int .u8 0, .slice none 0 0] 25 := kp _ _ _ n31 (by omega)
                have hk33 : b0 ≤ W33.heap.size := by omega
                have hg2g : b0 ≤ g2 := by omega
                have hl33_b2 : b2 < W33.heap.size := by omega
                have hne_b9_g2 : b9 ≠ g2 := by omega
                have hl33_b9 : b9 < W33.heap.size := by omega
                have hne_b6_g2 : b6 ≠ g2 := by omega
                have hl33_b6 : b6 < W33.heap.size := by omega
                clear kp hcase hat hgr hgs
                have own33 : W33.ownsRow b0 3 1 (.slice (some ⟨g2, 0, none⟩) (0 + 1) cap2) (0 + 1) (natCells [] ++ natCells [11]) := own33
                obtain ⟨a0, a1, _, _⟩ := y33.two
                refine hKq.out _ _ ?_ (fun hHeld => ?_)
                · (try dsimp only)
                  exact ⟨a0, a1⟩
                clear hKq Kq a0 a1
                (try simp only [Act.put, List.setIfInBounds_toArray, List.set_cons_zero, List.set_cons_succ])
                refine rt8 (v := ?_) (by kernel_rfl) (by kernel_rfl) (by kernel_rfl) (fun _ _ _ h => h) (by rfl) hHeld ?_ ?_
                rotate_left
                · intro w' hSw
                  (try dsimp only at hSw)
                  go_simp <;> with_reducible rfl
                (try simp only [Act.put, List.setIfInBounds_toArray, List.set_cons_zero, List.set_cons_succ])
                refine wpAnyH_ready (rs := [10]) (by kernel_rfl) (by simp) ?_
                refine rd10 (fun Kq hKq => ?_) ?_
                · obtain ⟨q0, q1, q2, q3⟩ := n33.two
                  go_simp
                  have y9f := (n33.set20 (.int .u8 k)).set21 (.slice (some ⟨g2, 0, none⟩) (0 + 1) cap2)
                  have ownf := ownsRow_setCell_other (ownsRow_setCell_other own33 (a := ⟨b9, 0, none⟩) (by intro e; have e2 := Option.some.inj (show some g2 = some b9 from e); omega) (.int .u8 k)) (a := ⟨b9, 1, none⟩) (by intro e; have e2 := Option.some.inj (show some g2 = some b9 from e); omega) (.slice (some ⟨g2, 0, none⟩) (0 + 1) cap2)
                  have y34 := (y33.other (B' := b9) (j := 0) (by omega) (.int .u8 k)).other (B' := b9) (j := 1) (by omega) (.slice (some ⟨g2, 0, none⟩) (0 + 1) cap2)
                  have hB34 := (hB33.setCell (p := ⟨b9, 0, none⟩) (by show w1.heap.size ≤ b9; omega) (.int .u8 k)).setCell (p := ⟨b9, 1, none⟩) (by show w1.heap.size ≤ b9; omega) (.slice (some ⟨g2, 0, none⟩) (0 + 1) cap2)
                  obtain ⟨a0, a1, _, _⟩ := y34.two
                  refine hKq.out _ _ ?_ (fun hHeld => ?_)
                  · (try dsimp only)
                    exact ⟨a0, a1⟩
                  clear hKq Kq a0 a1
                  (try simp only [Act.put, List.setIfInBounds_toArray, List.set_cons_zero, List.set_cons_succ])
                  refine wpAnyH_done (by kernel_rfl) ?_ _
                  refine NoPanic.normal ?_
                  go_wp2_with fail
                  go_meet
                  exact ⟨b9, some ⟨g2, 0, none⟩, cap2, rfl, y9f, NatRow.of_owns (by rw [natCells_append]; exact ownf), y34, hB34⟩
                exact AllReadyH.nil
              exact AllReadyH.nil
            exact AllReadyH.nil
          exact AllReadyH.nil
        exact AllReadyH.nil
      refine rd6 (fun Kq hKq => ?_) ?_
      · go_simp
        obtain ⟨W35, hW35⟩ : ∃ W35, W0.alloc (.cells #[.int .i64 11] 3) = W35 := ⟨_, rfl⟩
        obtain ⟨b6, hb6⟩ : ∃ b6, W0.heap.size = b6 := ⟨_, rfl⟩
        have hg35 : W35.heap.size = b6 + 1 := by rw [← hW35, ← hb6]; simp
        have y35 : BlockAt W35 w1.heap.size #[.int .u8 k, .slice none 0 0] 25 := by rw [← hW35]; exact y0.alloc _
        have hB35 : Below w1.heap.size w1 W35 := by rw [← hW35]; exact hB0.alloc hB0.size _
        have e35 : BlockAt W35 b6 #[.int .i64 11] 3 := by rw [← hW35]; exact BlockAt.new_at hb6
        have hk35 : b0 ≤ W35.heap.size := by omega
        have hb6g : b0 ≤ b6 := by omega
        have hl35_b6 : b6 < W35.heap.size := by omega
        rw [hW35, hb6]
        clear hW35 hb6 hg35
        obtain ⟨a0, a1, _, _⟩ := y35.two
        refine hKq.out _ _ ?_ (fun hHeld => ?_)
        · (try dsimp only)
          exact ⟨a0, a1⟩
        clear hKq Kq a0 a1
        (try simp only [Act.put, List.setIfInBounds_toArray, List.set_cons_zero, List.set_cons_succ])
        refine wpAnyH_ready (rs := [2, 9]) (by kernel_rfl) (by simp) ?_
        refine rd2 (fun Kq hKq => ?_) ?_
        · go_simp
          obtain ⟨W36, hW36⟩ : ∃ W36, W35.alloc (.cells #[] 3) = W36 := ⟨_, rfl⟩
          obtain ⟨b2, hb2⟩ : ∃ b2, W35.heap.size = b2 := ⟨_, rfl⟩
          have hg36 : W36.heap.size = b2 + 1 := by rw [← hW36, ← hb2]; simp
          have y36 : BlockAt W36 w1.heap.size #[.int .u8 k, .slice none 0 0] 25 := by rw [← hW36]; exact y35.alloc _
          have hB36 : Below w1.heap.size w1 W36 := by rw [← hW36]; exact hB35.alloc hB35.size _
          have e36 : BlockAt W36 b6 #[.int .i64 11] 3 := by rw [← hW36]; exact e35.alloc _
          have own36 : W36.ownsRow b0 3 1 (.slice (some ⟨b2, 0, none⟩) 0 0) 0 [] := by rw [← hW36]; exact own_empty hb2 (by omega)
          have hk36 : b0 ≤ W36.heap.size := by omega
          have hb2g : b0 ≤ b2 := by omega
          have hne_b6_b2 : b6 ≠ b2 := by omega
          have hl36_b6 : b6 < W36.heap.size := by omega
          have hl36_b2 : b2 < W36.heap.size := by omega
          rw [hW36, hb2]
          clear hW36 hb2 hg36
          obtain ⟨a0, a1, _, _⟩ := y36.two
          refine hKq.out _ _ ?_ (fun hHeld => ?_)
          · (try dsimp only)
            exact ⟨a0, a1⟩
          clear hKq Kq a0 a1
          (try simp only [Act.put, List.setIfInBounds_toArray, List.set_cons_zero, List.set_cons_succ])
          refine wpAnyH_ready (rs := [5, 9]) (by kernel_rfl) (by simp) ?_
          refine rd5 (fun Kq hKq => ?_) ?_
          · refine step_append_nil rfl (.tmp 33) (.tmp 35) 23 rfl b0 3 i0 1 Tryd.underlying23 hi _ 0 [] rfl own36 rfl ?_
            obtain ⟨a0, a1, _, _⟩ := y36.two
            refine hKq.out _ _ ?_ (fun hHeld => ?_)
            · (try dsimp only)
              exact ⟨a0, a1⟩
            clear hKq Kq a0 a1
            (try simp only [Act.put, List.setIfInBounds_toArray, List.set_cons_zero, List.set_cons_succ])
            refine wpAnyH_ready (rs := [7, 9]) (by kernel_rfl) (by simp) ?_
            refine rd7 (fun Kq hKq => ?_) ?_
            · refine step_append_lies _ rfl (.tmp 36) (.tmp 37) 23 rfl b0 3 i0 (.int .i64 0) 1 8 Tryd.underlying23 hi hi0 hi1 hi2 rfl (by decide) _ 0 _ rfl own36 ⟨b6, 0, none⟩ 1 1 (natCells [11]) rfl rfl (BlockAt.newCells e36 rfl) (natCells_one _) (by decide) (by unfold maxLen; omega) (by omega) (by omega) _ rfl ?_
              intro g2 cap2 W38 own38 hgr hat hlt
              have hgs := hgr.size
              have hcase : b2 = g2 ∨ g2 = W36.heap.size := by
                rcases hat with h | h
                · exact .inl (Option.some.inj h)
                · exact .inr h
              have kp : ∀ id (cs : Array Value) t, BlockAt W36 id cs t → id ≠ b2 → BlockAt W38 id cs t := fun id cs t h hne => h.kept hgr (fun e => hne (Option.some.inj e))
              have y38 : BlockAt W38 w1.heap.size #[.int .u8 k, .slice none 0 0] 25 := kp _ _ _ y36 (by omega)
              have hB38 : Below w1.heap.size w1 W38 := Below.grown hB36 hgr (by omega) (fun j hj => by have := Option.some.inj (show some b2 = some j from hj); omega)
              have hk38 : b0 ≤ W38.heap.size := by omega
              have hg2g : b0 ≤ g2 := by omega
              have hne_b6_g2 : b6 ≠ g2 := by omega
              have hl38_b6 : b6 < W38.heap.size := by omega
              have hl38_b2 : b2 < W38.heap.size := by omega
              clear kp hcase hat hgr hgs
              have own38 : W38.ownsRow b0 3 1 (.slice (some ⟨g2, 0, none⟩) (0 + 1) cap2) (0 + 1) (natCells [] ++ natCells [11]) := own38
              obtain ⟨a0, a1, _, _⟩ := y38.two
              refine hKq.out _ _ ?_ (fun hHeld => ?_)
              · (try dsimp only)
                exact ⟨a0, a1⟩
              clear hKq Kq a0 a1
              (try simp only [Act.put, List.setIfInBounds_toArray, List.set_cons_zero, List.set_cons_succ])
              refine rt8 (v := ?_) (by kernel_rfl) (by kernel_rfl) (by kernel_rfl) (fun _ _ _ h => h) (by rfl) hHeld ?_ ?_
              rotate_left
              · intro w' hSw
                (try dsimp only at hSw)
                go_simp <;> with_reducible rfl
              (try simp only [Act.put, List.setIfInBounds_toArray, List.set_cons_zero, List.set_cons_succ])
              refine wpAnyH_ready (rs := [9]) (by kernel_rfl) (by simp) ?_
              refine rd9 (fun Kq hKq => ?_) ?_
              · go_simp
                obtain ⟨W39, hW39⟩ : ∃ W39, W38.alloc (.cells #[.int .u8 0, .slice none 0 0] 25) = W39 := ⟨_, rfl⟩
                obtain ⟨b9, hb9⟩ : ∃ b9, W38.heap.size = b9 := ⟨_, rfl⟩
                have hg39 : W39.heap.size = b9 + 1 := by rw [← hW39, ← hb9]; simp
                have y39 : BlockAt W39 w1.heap.size #[.int .u8 k, .slice none 0 0] 25 := by rw [← hW39]; exact y38.alloc _
                have hB39 : Below w1.heap.size w1 W39 := by rw [← hW39]; exact hB38.alloc hB38.size _
                have own39 : W39.ownsRow b0 3 1 (.slice (some ⟨g2, 0, none⟩) (0 + 1) cap2) (0 + 1) ((natCells []) ++ natCells [11]) := by rw [← hW39]; exact World.ownsRow.alloc own38 _
                have n39 : BlockAt W39 b9 #[.int .u8 0, .slice none 0 0] 25 := by rw [← hW39]; exact BlockAt.new_at hb9
                have hk39 : b0 ≤ W39.heap.size := by omega
                have hb9g : b0 ≤ b9 := by omega
                have hne_b6_b9 : b6 ≠ b9 := by omega
                have hl39_b6 : b6 < W39.heap.size := by omega
                have hne_g2_b9 : g2 ≠ b9 := by omega
                have hl39_g2 : g2 < W39.heap.size := by omega
                have hl39_b9 : b9 < W39.heap.size := by omega
                rw [hW39, hb9]
                clear hW39 hb9 hg39
                obtain ⟨a0, a1, _, _⟩ := y39.two
                refine hKq.out _ _ ?_ (fun hHeld => ?_)
                · (try dsimp only)
                  exact ⟨a0, a1⟩
                clear hKq Kq a0 a1
                (try simp only [Act.put, List.setIfInBounds_toArray, List.set_cons_zero, List.set_cons_succ])
                refine wpAnyH_ready (rs := [10]) (by kernel_rfl) (by simp) ?_
                refine rd10 (fun Kq hKq => ?_) ?_
                · obtain ⟨q0, q1, q2, q3⟩ := n39.two
                  go_simp
                  have y9f := (n39.set20 (.int .u8 k)).set21 (.slice (some ⟨g2, 0, none⟩) (0 + 1) cap2)
                  have ownf := ownsRow_setCell_other (ownsRow_setCell_other own39 (a := ⟨b9, 0, none⟩) (by intro e; have e2 := Option.some.inj (show some g2 = some b9 from e); omega) (.int .u8 k)) (a := ⟨b9, 1, none⟩) (by intro e; have e2 := Option.some.inj (show some g2 = some b9 from e); omega) (.slice (some ⟨g2, 0, none⟩) (0 + 1) cap2)
                  have y40 := (y39.other (B' := b9) (j := 0) (by omega) (.int .u8 k)).other (B' := b9) (j := 1) (by omega) (.slice (some ⟨g2, 0, none⟩) (0 + 1) cap2)
                  have hB40 := (hB39.setCell (p := ⟨b9, 0, none⟩) (by show w1.heap.size ≤ b9; omega) (.int .u8 k)).setCell (p := ⟨b9, 1, none⟩) (by show w1.heap.size ≤ b9; omega) (.slice (some ⟨g2, 0, none⟩) (0 + 1) cap2)
                  obtain ⟨a0, a1, _, _⟩ := y40.two
                  refine hKq.out _ _ ?_ (fun hHeld => ?_)
                  · (try dsimp only)
                    exact ⟨a0, a1⟩
                  clear hKq Kq a0 a1
                  (try simp only [Act.put, List.setIfInBounds_toArray, List.set_cons_zero, List.set_cons_succ])
                  refine wpAnyH_done (by kernel_rfl) ?_ _
                  refine NoPanic.normal ?_
                  go_wp2_with fail
                  go_meet
                  exact ⟨b9, some ⟨g2, 0, none⟩, cap2, rfl, y9f, NatRow.of_owns (by rw [natCells_append]; exact ownf), y40, hB40⟩
                exact AllReadyH.nil
              exact AllReadyH.nil
            refine rd9 (fun Kq hKq => ?_) ?_
            · go_simp
              obtain ⟨W41, hW41⟩ : ∃ W41, W36.alloc (.cells #[.int .u8 0, .slice none 0 0] 25) = W41 := ⟨_, rfl⟩
              obtain ⟨b9, hb9⟩ : ∃ b9, W36.heap.size = b9 := ⟨_, rfl⟩
              have hg41 : W41.heap.size = b9 + 1 := by rw [← hW41, ← hb9]; simp
              have y41 : BlockAt W41 w1.heap.size #[.int .u8 k, .slice none 0 0] 25 := by rw [← hW41]; exact y36.alloc _
              have hB41 : Below w1.heap.size w1 W41 := by rw [← hW41]; exact hB36.alloc hB36.size _
              have own41 : W41.ownsRow b0 3 1 (.slice (some ⟨b2, 0, none⟩) 0 0) 0 [] := by rw [← hW41]; exact World.ownsRow.alloc own36 _
              have e41 : BlockAt W41 b6 #[.int .i64 11] 3 := by rw [← hW41]; exact e36.alloc _
              have n41 : BlockAt W41 b9 #[.int .u8 0, .slice none 0 0] 25 := by rw [← hW41]; exact BlockAt.new_at hb9
              have hk41 : b0 ≤ W41.heap.size := by omega
              have hb9g : b0 ≤ b9 := by omega
              have hne_b6_b9 : b6 ≠ b9 := by omega
              have hl41_b6 : b6 < W41.heap.size := by omega
              have hne_b2_b9 : b2 ≠ b9 := by omega
              have hl41_b2 : b2 < W41.heap.size := by omega
              have hl41_b9 : b9 < W41.heap.size := by omega
              rw [hW41, hb9]
              clear hW41 hb9 hg41
              obtain ⟨a0, a1, _, _⟩ := y41.two
              refine hKq.out _ _ ?_ (fun hHeld => ?_)
              · (try dsimp only)
                exact ⟨a0, a1⟩
              clear hKq Kq a0 a1
              (try simp only [Act.put, List.setIfInBounds_toArray, List.set_cons_zero, List.set_cons_succ])
              refine wpAnyH_ready (rs := [7]) (by kernel_rfl) (by simp) ?_
              refine rd7 (fun Kq hKq => ?_) ?_
              · refine step_append_lies _ rfl (.tmp 36) (.tmp 37) 23 rfl b0 3 i0 (.int .i64 0) 1 8 Tryd.underlying23 hi hi0 hi1 hi2 rfl (by decide) _ 0 _ rfl own41 ⟨b6, 0, none⟩ 1 1 (natCells [11]) rfl rfl (BlockAt.newCells e41 rfl) (natCells_one _) (by decide) (by unfold maxLen; omega) (by omega) (by omega) _ rfl ?_
                intro g2 cap2 W42 own42 hgr hat hlt
                have hgs := hgr.size
                have hcase : b2 = g2 ∨ g2 = W41.heap.size := by
                  rcases hat with h | h
                  · exact .inl (Option.some.inj h)
                  · exact .inr h
                have kp : ∀ id (cs : Array Value) t, BlockAt W41 id cs t → id ≠ b2 → BlockAt W42 id cs t := fun id cs t h hne => h.kept hgr (fun e => hne (Option.some.inj e))
                have y42 : BlockAt W42 w1.heap.size #[.int .u8 k, .slice none 0 0] 25 := kp _ _ _ y41 (by omega)
                have hB42 : Below w1.heap.size w1 W42 := Below.grown hB41 hgr (by omega) (fun j hj => by have := Option.some.inj (show some b2 = some j from hj); omega)
                have n42 : BlockAt W42 b9 #[.int .u8 0, .slice none 0 0] 25 := kp _ _ _ n41 (by omega)
                have hk42 : b0 ≤ W42.heap.size := by omega
                have hg2g : b0 ≤ g2 := by omega
                have hne_b6_g2 : b6 ≠ g2 := by omega
                have hl42_b6 : b6 < W42.heap.size := by omega
                have hl42_b2 : b2 < W42.heap.size := by omega
                have hne_b9_g2 : b9 ≠ g2 := by omega
                have hl42_b9 : b9 < W42.heap.size := by omega
                clear kp hcase hat hgr hgs
                have own42 : W42.ownsRow b0 3 1 (.slice (some ⟨g2, 0, none⟩) (0 + 1) cap2) (0 + 1) (natCells [] ++ natCells [11]) := own42
                obtain ⟨a0, a1, _, _⟩ := y42.two
                refine hKq.out _ _ ?_ (fun hHeld => ?_)
                · (try dsimp only)
                  exact ⟨a0, a1⟩
                clear hKq Kq a0 a1
                (try simp only [Act.put, List.setIfInBounds_toArray, List.set_cons_zero, List.set_cons_succ])
                refine rt8 (v := ?_) (by kernel_rfl) (by kernel_rfl) (by kernel_rfl) (fun _ _ _ h => h) (by rfl) hHeld ?_ ?_
                rotate_left
                · intro w' hSw
                  (try dsimp only at hSw)
                  go_simp <;> with_reducible rfl
                (try simp only [Act.put, List.setIfInBounds_toArray, List.set_cons_zero, List.set_cons_succ])
                refine wpAnyH_ready (rs := [10]) (by kernel_rfl) (by simp) ?_
                refine rd10 (fun Kq hKq => ?_) ?_
                · obtain ⟨q0, q1, q2, q3⟩ := n42.two
                  go_simp
                  have y9f := (n42.set20 (.int .u8 k)).set21 (.slice (some ⟨g2, 0, none⟩) (0 + 1) cap2)
                  have ownf := ownsRow_setCell_other (ownsRow_setCell_other own42 (a := ⟨b9, 0, none⟩) (by intro e; have e2 := Option.some.inj (show some g2 = some b9 from e); omega) (.int .u8 k)) (a := ⟨b9, 1, none⟩) (by intro e; have e2 := Option.some.inj (show some g2 = some b9 from e); omega) (.slice (some ⟨g2, 0, none⟩) (0 + 1) cap2)
                  have y43 := (y42.other (B' := b9) (j := 0) (by omega) (.int .u8 k)).other (B' := b9) (j := 1) (by omega) (.slice (some ⟨g2, 0, none⟩) (0 + 1) cap2)
                  have hB43 := (hB42.setCell (p := ⟨b9, 0, none⟩) (by show w1.heap.size ≤ b9; omega) (.int .u8 k)).setCell (p := ⟨b9, 1, none⟩) (by show w1.heap.size ≤ b9; omega) (.slice (some ⟨g2, 0, none⟩) (0 + 1) cap2)
                  obtain ⟨a0, a1, _, _⟩ := y43.two
                  refine hKq.out _ _ ?_ (fun hHeld => ?_)
                  · (try dsimp only)
                    exact ⟨a0, a1⟩
                  clear hKq Kq a0 a1
                  (try simp only [Act.put, List.setIfInBounds_toArray, List.set_cons_zero, List.set_cons_succ])
                  refine wpAnyH_done (by kernel_rfl) ?_ _
                  refine NoPanic.normal ?_
                  go_wp2_with fail
                  go_meet
                  exact ⟨b9, some ⟨g2, 0, none⟩, cap2, rfl, y9f, NatRow.of_owns (by rw [natCells_append]; exact ownf), y43, hB43⟩
                exact AllReadyH.nil
              exact AllReadyH.nil
            exact AllReadyH.nil
          refine rd9 (fun Kq hKq => ?_) ?_
          · go_simp
            obtain ⟨W44, hW44⟩ : ∃ W44, W36.alloc (.cells #[.int .u8 0, .slice none 0 0] 25) = W44 := ⟨_, rfl⟩
            obtain ⟨b9, hb9⟩ : ∃ b9, W36.heap.size = b9 := ⟨_, rfl⟩
            have hg44 : W44.heap.size = b9 + 1 := by rw [← hW44, ← hb9]; simp
            have y44 : BlockAt W44 w1.heap.size #[.int .u8 k, .slice none 0 0] 25 := by rw [← hW44]; exact y36.alloc _
            have hB44 : Below w1.heap.size w1 W44 := by rw [← hW44]; exact hB36.alloc hB36.size _
            have own44 : W44.ownsRow b0 3 1 (.slice (some ⟨b2, 0, none⟩) 0 0) 0 [] := by rw [← hW44]; exact World.ownsRow.alloc own36 _
            have e44 : BlockAt W44 b6 #[.int .i64 11] 3 := by rw [← hW44]; exact e36.alloc _
            have n44 : BlockAt W44 b9 #[.int .u8 0, .slice none 0 0] 25 := by rw [← hW44]; exact BlockAt.new_at hb9
            have hk44 : b0 ≤ W44.heap.size := by omega
            have hb9g : b0 ≤ b9 := by omega
            have hne_b6_b9 : b6 ≠ b9 := by omega
            have hl44_b6 : b6 < W44.heap.size := by omega
            have hne_b2_b9 : b2 ≠ b9 := by omega
            have hl44_b2 : b2 < W44.heap.size := by omega
            have hl44_b9 : b9 < W44.heap.size := by omega
            rw [hW44, hb9]
            clear hW44 hb9 hg44
            obtain ⟨a0, a1, _, _⟩ := y44.two
            refine hKq.out _ _ ?_ (fun hHeld => ?_)
            · (try dsimp only)
              exact ⟨a0, a1⟩
            clear hKq Kq a0 a1
            (try simp only [Act.put, List.setIfInBounds_toArray, List.set_cons_zero, List.set_cons_succ])
            refine wpAnyH_ready (rs := [5]) (by kernel_rfl) (by simp) ?_
            refine rd5 (fun Kq hKq => ?_) ?_
            · refine step_append_nil rfl (.tmp 33) (.tmp 35) 23 rfl b0 3 i0 1 Tryd.underlying23 hi _ 0 [] rfl own44 rfl ?_
              obtain ⟨a0, a1, _, _⟩ := y44.two
              refine hKq.out _ _ ?_ (fun hHeld => ?_)
              · (try dsimp only)
                exact ⟨a0, a1⟩
              clear hKq Kq a0 a1
              (try simp only [Act.put, List.setIfInBounds_toArray, List.set_cons_zero, List.set_cons_succ])
              refine wpAnyH_ready (rs := [7]) (by kernel_rfl) (by simp) ?_
              refine rd7 (fun Kq hKq => ?_) ?_
              · refine step_append_lies _ rfl (.tmp 36) (.tmp 37) 23 rfl b0 3 i0 (.int .i64 0) 1 8 Tryd.underlying23 hi hi0 hi1 hi2 rfl (by decide) _ 0 _ rfl own44 ⟨b6, 0, none⟩ 1 1 (natCells [11]) rfl rfl (BlockAt.newCells e44 rfl) (natCells_one _) (by decide) (by unfold maxLen; omega) (by omega) (by omega) _ rfl ?_
                intro g2 cap2 W46 own46 hgr hat hlt
                have hgs := hgr.size
                have hcase : b2 = g2 ∨ g2 = W44.heap.size := by
                  rcases hat with h | h
                  · exact .inl (Option.some.inj h)
                  · exact .inr h
                have kp : ∀ id (cs : Array Value) t, BlockAt W44 id cs t → id ≠ b2 → BlockAt W46 id cs t := fun id cs t h hne => h.kept hgr (fun e => hne (Option.some.inj e))
                have y46 : BlockAt W46 w1.heap.size #[.int .u8 k, .slice none 0 0] 25 := kp _ _ _ y44 (by omega)
                have hB46 : Below w1.heap.size w1 W46 := Below.grown hB44 hgr (by omega) (fun j hj => by have := Option.some.inj (show some b2 = some j from hj); omega)
                have n46 : BlockAt W46 b9 #[.int .u8 0, .slice none 0 0] 25 := kp _ _ _ n44 (by omega)
                have hk46 : b0 ≤ W46.heap.size := by omega
                have hg2g : b0 ≤ g2 := by omega
                have hne_b6_g2 : b6 ≠ g2 := by omega
                have hl46_b6 : b6 < W46.heap.size := by omega
                have hl46_b2 : b2 < W46.heap.size := by omega
                have hne_b9_g2 : b9 ≠ g2 := by omega
                have hl46_b9 : b9 < W46.heap.size := by omega
                clear kp hcase hat hgr hgs
                have own46 : W46.ownsRow b0 3 1 (.slice (some ⟨g2, 0, none⟩) (0 + 1) cap2) (0 + 1) (natCells [] ++ natCells [11]) := own46
                obtain ⟨a0, a1, _, _⟩ := y46.two
                refine hKq.out _ _ ?_ (fun hHeld => ?_)
                · (try dsimp only)
                  exact ⟨a0, a1⟩
                clear hKq Kq a0 a1
                (try simp only [Act.put, List.setIfInBounds_toArray, List.set_cons_zero, List.set_cons_succ])
                refine rt8 (v := ?_) (by kernel_rfl) (by kernel_rfl) (by kernel_rfl) (fun _ _ _ h => h) (by rfl) hHeld ?_ ?_
                rotate_left
                · intro w' hSw
                  (try dsimp only at hSw)
                  go_simp <;> with_reducible rfl
                (try simp only [Act.put, List.setIfInBounds_toArray, List.set_cons_zero, List.set_cons_succ])
                refine wpAnyH_ready (rs := [10]) (by kernel_rfl) (by simp) ?_
                refine rd10 (fun Kq hKq => ?_) ?_
                · obtain ⟨q0, q1, q2, q3⟩ := n46.two
                  go_simp
                  have y9f := (n46.set20 (.int .u8 k)).set21 (.slice (some ⟨g2, 0, none⟩) (0 + 1) cap2)
                  have ownf := ownsRow_setCell_other (ownsRow_setCell_other own46 (a := ⟨b9, 0, none⟩) (by intro e; have e2 := Option.some.inj (show some g2 = some b9 from e); omega) (.int .u8 k)) (a := ⟨b9, 1, none⟩) (by intro e; have e2 := Option.some.inj (show some g2 = some b9 from e); omega) (.slice (some ⟨g2, 0, none⟩) (0 + 1) cap2)
                  have y47 := (y46.other (B' := b9) (j := 0) (by omega) (.int .u8 k)).other (B' := b9) (j := 1) (by omega) (.slice (some ⟨g2, 0, none⟩) (0 + 1) cap2)
                  have hB47 := (hB46.setCell (p := ⟨b9, 0, none⟩) (by show w1.heap.size ≤ b9; omega) (.int .u8 k)).setCell (p := ⟨b9, 1, none⟩) (by show w1.heap.size ≤ b9; omega) (.slice (some ⟨g2, 0, none⟩) (0 + 1) cap2)
                  obtain ⟨a0, a1, _, _⟩ := y47.two
                  refine hKq.out _ _ ?_ (fun hHeld => ?_)
                  · (try dsimp only)
                    exact ⟨a0, a1⟩
                  clear hKq Kq a0 a1
                  (try simp only [Act.put, List.setIfInBounds_toArray, List.set_cons_zero, List.set_cons_succ])
                  refine wpAnyH_done (by kernel_rfl) ?_ _
                  refine NoPanic.normal ?_
                  go_wp2_with fail
                  go_meet
                  exact ⟨b9, some ⟨g2, 0, none⟩, cap2, rfl, y9f, NatRow.of_owns (by rw [natCells_append]; exact ownf), y47, hB47⟩
                exact AllReadyH.nil
              exact AllReadyH.nil
            exact AllReadyH.nil
          exact AllReadyH.nil
        refine rd9 (fun Kq hKq => ?_) ?_
        · go_simp
          obtain ⟨W48, hW48⟩ : ∃ W48, W35.alloc (.cells #[.int .u8 0, .slice none 0 0] 25) = W48 := ⟨_, rfl⟩
          obtain ⟨b9, hb9⟩ : ∃ b9, W35.heap.size = b9 := ⟨_, rfl⟩
          have hg48 : W48.heap.size = b9 + 1 := by rw [← hW48, ← hb9]; simp
          have y48 : BlockAt W48 w1.heap.size #[.int .u8 k, .slice none 0 0] 25 := by rw [← hW48]; exact y35.alloc _
          have hB48 : Below w1.heap.size w1 W48 := by rw [← hW48]; exact hB35.alloc hB35.size _
          have e48 : BlockAt W48 b6 #[.int .i64 11] 3 := by rw [← hW48]; exact e35.alloc _
          have n48 : BlockAt W48 b9 #[.int .u8 0, .slice none 0 0] 25 := by rw [← hW48]; exact BlockAt.new_at hb9
          have hk48 : b0 ≤ W48.heap.size := by omega
          have hb9g : b0 ≤ b9 := by omega
          have hne_b6_b9 : b6 ≠ b9 := by omega
          have hl48_b6 : b6 < W48.heap.size := by omega
          have hl48_b9 : b9 < W48.heap.size := by omega
          rw [hW48, hb9]
          clear hW48 hb9 hg48
          obtain ⟨a0, a1, _, _⟩ := y48.two
          refine hKq.out _ _ ?_ (fun hHeld => ?_)
          · (try dsimp only)
            exact ⟨a0, a1⟩
          clear hKq Kq a0 a1
          (try simp only [Act.put, List.setIfInBounds_toArray, List.set_cons_zero, List.set_cons_succ])
          refine wpAnyH_ready (rs := [2]) (by kernel_rfl) (by simp) ?_
          refine rd2 (fun Kq hKq => ?_) ?_
          · go_simp
            obtain ⟨W49, hW49⟩ : ∃ W49, W48.alloc (.cells #[] 3) = W49 := ⟨_, rfl⟩
            obtain ⟨b2, hb2⟩ : ∃ b2, W48.heap.size = b2 := ⟨_, rfl⟩
            have hg49 : W49.heap.size = b2 + 1 := by rw [← hW49, ← hb2]; simp
            have y49 : BlockAt W49 w1.heap.size #[.int .u8 k, .slice none 0 0] 25 := by rw [← hW49]; exact y48.alloc _
            have hB49 : Below w1.heap.size w1 W49 := by rw [← hW49]; exact hB48.alloc hB48.size _
            have e49 : BlockAt W49 b6 #[.int .i64 11] 3 := by rw [← hW49]; exact e48.alloc _
            have n49 : BlockAt W49 b9 #[.int .u8 0, .slice none 0 0] 25 := by rw [← hW49]; exact n48.alloc _
            have own49 : W49.ownsRow b0 3 1 (.slice (some ⟨b2, 0, none⟩) 0 0) 0 [] := by rw [← hW49]; exact own_empty hb2 (by omega)
            have hk49 : b0 ≤ W49.heap.size := by omega
            have hb2g : b0 ≤ b2 := by omega
            have hne_b6_b2 : b6 ≠ b2 := by omega
            have hl49_b6 : b6 < W49.heap.size := by omega
            have hne_b9_b2 : b9 ≠ b2 := by omega
            have hl49_b9 : b9 < W49.heap.size := by omega
            have hl49_b2 : b2 < W49.heap.size := by omega
            rw [hW49, hb2]
            clear hW49 hb2 hg49
            obtain ⟨a0, a1, _, _⟩ := y49.two
            refine hKq.out _ _ ?_ (fun hHeld => ?_)
            · (try dsimp only)
              exact ⟨a0, a1⟩
            clear hKq Kq a0 a1
            (try simp only [Act.put, List.setIfInBounds_toArray, List.set_cons_zero, List.set_cons_succ])
            refine wpAnyH_ready (rs := [5]) (by kernel_rfl) (by simp) ?_
            refine rd5 (fun Kq hKq => ?_) ?_
            · refine step_append_nil rfl (.tmp 33) (.tmp 35) 23 rfl b0 3 i0 1 Tryd.underlying23 hi _ 0 [] rfl own49 rfl ?_
              obtain ⟨a0, a1, _, _⟩ := y49.two
              refine hKq.out _ _ ?_ (fun hHeld => ?_)
              · (try dsimp only)
                exact ⟨a0, a1⟩
              clear hKq Kq a0 a1
              (try simp only [Act.put, List.setIfInBounds_toArray, List.set_cons_zero, List.set_cons_succ])
              refine wpAnyH_ready (rs := [7]) (by kernel_rfl) (by simp) ?_
              refine rd7 (fun Kq hKq => ?_) ?_
              · refine step_append_lies _ rfl (.tmp 36) (.tmp 37) 23 rfl b0 3 i0 (.int .i64 0) 1 8 Tryd.underlying23 hi hi0 hi1 hi2 rfl (by decide) _ 0 _ rfl own49 ⟨b6, 0, none⟩ 1 1 (natCells [11]) rfl rfl (BlockAt.newCells e49 rfl) (natCells_one _) (by decide) (by unfold maxLen; omega) (by omega) (by omega) _ rfl ?_
                intro g2 cap2 W51 own51 hgr hat hlt
                have hgs := hgr.size
                have hcase : b2 = g2 ∨ g2 = W49.heap.size := by
                  rcases hat with h | h
                  · exact .inl (Option.some.inj h)
                  · exact .inr h
                have kp : ∀ id (cs : Array Value) t, BlockAt W49 id cs t → id ≠ b2 → BlockAt W51 id cs t := fun id cs t h hne => h.kept hgr (fun e => hne (Option.some.inj e))
                have y51 : BlockAt W51 w1.heap.size #[.int .u8 k, .slice none 0 0] 25 := kp _ _ _ y49 (by omega)
                have hB51 : Below w1.heap.size w1 W51 := Below.grown hB49 hgr (by omega) (fun j hj => by have := Option.some.inj (show some b2 = some j from hj); omega)
                have n51 : BlockAt W51 b9 #[.int .u8 0, .slice none 0 0] 25 := kp _ _ _ n49 (by omega)
                have hk51 : b0 ≤ W51.heap.size := by omega
                have hg2g : b0 ≤ g2 := by omega
                have hne_b6_g2 : b6 ≠ g2 := by omega
                have hl51_b6 : b6 < W51.heap.size := by omega
                have hne_b9_g2 : b9 ≠ g2 := by omega
                have hl51_b9 : b9 < W51.heap.size := by omega
                have hl51_b2 : b2 < W51.heap.size := by omega
                clear kp hcase hat hgr hgs
                have own51 : W51.ownsRow b0 3 1 (.slice (some ⟨g2, 0, none⟩) (0 + 1) cap2) (0 + 1) (natCells [] ++ natCells [11]) := own51
                obtain ⟨a0, a1, _, _⟩ := y51.two
                refine hKq.out _ _ ?_ (fun hHeld => ?_)
                · (try dsimp only)
                  exact ⟨a0, a1⟩
                clear hKq Kq a0 a1
                (try simp only [Act.put, List.setIfInBounds_toArray, List.set_cons_zero, List.set_cons_succ])
                refine rt8 (v := ?_) (by kernel_rfl) (by kernel_rfl) (by kernel_rfl) (fun _ _ _ h => h) (by rfl) hHeld ?_ ?_
                rotate_left
                · intro w' hSw
                  (try dsimp only at hSw)
                  go_simp <;> with_reducible rfl
                (try simp only [Act.put, List.setIfInBounds_toArray, List.set_cons_zero, List.set_cons_succ])
                refine wpAnyH_ready (rs := [10]) (by kernel_rfl) (by simp) ?_
                refine rd10 (fun Kq hKq => ?_) ?_
                · obtain ⟨q0, q1, q2, q3⟩ := n51.two
                  go_simp
                  have y9f := (n51.set20 (.int .u8 k)).set21 (.slice (some ⟨g2, 0, none⟩) (0 + 1) cap2)
                  have ownf := ownsRow_setCell_other (ownsRow_setCell_other own51 (a := ⟨b9, 0, none⟩) (by intro e; have e2 := Option.some.inj (show some g2 = some b9 from e); omega) (.int .u8 k)) (a := ⟨b9, 1, none⟩) (by intro e; have e2 := Option.some.inj (show some g2 = some b9 from e); omega) (.slice (some ⟨g2, 0, none⟩) (0 + 1) cap2)
                  have y52 := (y51.other (B' := b9) (j := 0) (by omega) (.int .u8 k)).other (B' := b9) (j := 1) (by omega) (.slice (some ⟨g2, 0, none⟩) (0 + 1) cap2)
                  have hB52 := (hB51.setCell (p := ⟨b9, 0, none⟩) (by show w1.heap.size ≤ b9; omega) (.int .u8 k)).setCell (p := ⟨b9, 1, none⟩) (by show w1.heap.size ≤ b9; omega) (.slice (some ⟨g2, 0, none⟩) (0 + 1) cap2)
                  obtain ⟨a0, a1, _, _⟩ := y52.two
                  refine hKq.out _ _ ?_ (fun hHeld => ?_)
                  · (try dsimp only)
                    exact ⟨a0, a1⟩
                  clear hKq Kq a0 a1
                  (try simp only [Act.put, List.setIfInBounds_toArray, List.set_cons_zero, List.set_cons_succ])
                  refine wpAnyH_done (by kernel_rfl) ?_ _
                  refine NoPanic.normal ?_
                  go_wp2_with fail
                  go_meet
                  exact ⟨b9, some ⟨g2, 0, none⟩, cap2, rfl, y9f, NatRow.of_owns (by rw [natCells_append]; exact ownf), y52, hB52⟩
                exact AllReadyH.nil
              exact AllReadyH.nil
            exact AllReadyH.nil
          exact AllReadyH.nil
        exact AllReadyH.nil
      refine rd9 (fun Kq hKq => ?_) ?_
      · go_simp
        obtain ⟨W53, hW53⟩ : ∃ W53, W0.alloc (.cells #[.int .u8 0, .slice none 0 0] 25) = W53 := ⟨_, rfl⟩
        obtain ⟨b9, hb9⟩ : ∃ b9, W0.heap.size = b9 := ⟨_, rfl⟩
        have hg53 : W53.heap.size = b9 + 1 := by rw [← hW53, ← hb9]; simp
        have y53 : BlockAt W53 w1.heap.size #[.int .u8 k, .slice none 0 0] 25 := by rw [← hW53]; exact y0.alloc _
        have hB53 : Below w1.heap.size w1 W53 := by rw [← hW53]; exact hB0.alloc hB0.size _
        have n53 : BlockAt W53 b9 #[.int .u8 0, .slice none 0 0] 25 := by rw [← hW53]; exact BlockAt.new_at hb9
        have hk53 : b0 ≤ W53.heap.size := by omega
        have hb9g : b0 ≤ b9 := by omega
        have hl53_b9 : b9 < W53.heap.size := by omega
        rw [hW53, hb9]
        clear hW53 hb9 hg53
        obtain ⟨a0, a1, _, _⟩ := y53.two
        refine hKq.out _ _ ?_ (fun hHeld => ?_)
        · (try dsimp only)
          exact ⟨a0, a1⟩
        clear hKq Kq a0 a1
        (try simp only [Act.put, List.setIfInBounds_toArray, List.set_cons_zero, List.set_cons_succ])
        refine wpAnyH_ready (rs := [2, 6]) (by kernel_rfl) (by simp) ?_
        refine rd2 (fun Kq hKq => ?_) ?_
        · go_simp
          obtain ⟨W54, hW54⟩ : ∃ W54, W53.alloc (.cells #[] 3) = W54 := ⟨_, rfl⟩
          obtain ⟨b2, hb2⟩ : ∃ b2, W53.heap.size = b2 := ⟨_, rfl⟩
          have hg54 : W54.heap.size = b2 + 1 := by rw [← hW54, ← hb2]; simp
          have y54 : BlockAt W54 w1.heap.size #[.int .u8 k, .slice none 0 0] 25 := by rw [← hW54]; exact y53.alloc _
          have hB54 : Below w1.heap.size w1 W54 := by rw [← hW54]; exact hB53.alloc hB53.size _
          have n54 : BlockAt W54 b9 #[.int .u8 0, .slice none 0 0] 25 := by rw [← hW54]; exact n53.alloc _
          have own54 : W54.ownsRow b0 3 1 (.slice (some ⟨b2, 0, none⟩) 0 0) 0 [] := by rw [← hW54]; exact own_empty hb2 (by omega)
          have hk54 : b0 ≤ W54.heap.size := by omega
          have hb2g : b0 ≤ b2 := by omega
          have hne_b9_b2 : b9 ≠ b2 := by omega
          have hl54_b9 : b9 < W54.heap.size := by omega
          have hl54_b2 : b2 < W54.heap.size := by omega
          rw [hW54, hb2]
          clear hW54 hb2 hg54
          obtain ⟨a0, a1, _, _⟩ := y54.two
          refine hKq.out _ _ ?_ (fun hHeld => ?_)
          · (try dsimp only)
            exact ⟨a0, a1⟩
          clear hKq Kq a0 a1
          (try simp only [Act.put, List.setIfInBounds_toArray, List.set_cons_zero, List.set_cons_succ])
          refine wpAnyH_ready (rs := [5, 6]) (by kernel_rfl) (by simp) ?_
          refine rd5 (fun Kq hKq => ?_) ?_
          · refine step_append_nil rfl (.tmp 33) (.tmp 35) 23 rfl b0 3 i0 1 Tryd.underlying23 hi _ 0 [] rfl own54 rfl ?_
            obtain ⟨a0, a1, _, _⟩ := y54.two
            refine hKq.out _ _ ?_ (fun hHeld => ?_)
            · (try dsimp only)
              exact ⟨a0, a1⟩
            clear hKq Kq a0 a1
            (try simp only [Act.put, List.setIfInBounds_toArray, List.set_cons_zero, List.set_cons_succ])
            refine wpAnyH_ready (rs := [6]) (by kernel_rfl) (by simp) ?_
            refine rd6 (fun Kq hKq => ?_) ?_
            · go_simp
              obtain ⟨W56, hW56⟩ : ∃ W56, W54.alloc (.cells #[.int .i64 11] 3) = W56 := ⟨_, rfl⟩
              obtain ⟨b6, hb6⟩ : ∃ b6, W54.heap.size = b6 := ⟨_, rfl⟩
              have hg56 : W56.heap.size = b6 + 1 := by rw [← hW56, ← hb6]; simp
              have y56 : BlockAt W56 w1.heap.size #[.int .u8 k, .slice none 0 0] 25 := by rw [← hW56]; exact y54.alloc _
              have hB56 : Below w1.heap.size w1 W56 := by rw [← hW56]; exact hB54.alloc hB54.size _
              have own56 : W56.ownsRow b0 3 1 (.slice (some ⟨b2, 0, none⟩) 0 0) 0 [] := by rw [← hW56]; exact World.ownsRow.alloc own54 _
              have n56 : BlockAt W56 b9 #[.int .u8 0, .slice none 0 0] 25 := by rw [← hW56]; exact n54.alloc _
              have e56 : BlockAt W56 b6 #[.int .i64 11] 3 := by rw [← hW56]; exact BlockAt.new_at hb6
              have hk56 : b0 ≤ W56.heap.size := by omega
              have hb6g : b0 ≤ b6 := by omega
              have hne_b9_b6 : b9 ≠ b6 := by omega
              have hl56_b9 : b9 < W56.heap.size := by omega
              have hne_b2_b6 : b2 ≠ b6 := by omega
              have hl56_b2 : b2 < W56.heap.size := by omega
              have hl56_b6 : b6 < W56.heap.size := by omega
              rw [hW56, hb6]
              clear hW56 hb6 hg56
              obtain ⟨a0, a1, _, _⟩ := y56.two
              refine hKq.out _ _ ?_ (fun hHeld => ?_)
              · (try dsimp only)
                exact ⟨a0, a1⟩
              clear hKq Kq a0 a1
              (try simp only [Act.put, List.setIfInBounds_toArray, List.set_cons_zero, List.set_cons_succ])
              refine wpAnyH_ready (rs := [7]) (by kernel_rfl) (by simp) ?_
              refine rd7 (fun Kq hKq => ?_) ?_
              · refine step_append_lies _ rfl (.tmp 36) (.tmp 37) 23 rfl b0 3 i0 (.int .i64 0) 1 8 Tryd.underlying23 hi hi0 hi1 hi2 rfl (by decide) _ 0 _ rfl own56 ⟨b6, 0, none⟩ 1 1 (natCells [11]) rfl rfl (BlockAt.newCells e56 rfl) (natCells_one _) (by decide) (by unfold maxLen; omega) (by omega) (by omega) _ rfl ?_
                intro g2 cap2 W57 own57 hgr hat hlt
                have hgs := hgr.size
                have hcase : b2 = g2 ∨ g2 = W56.heap.size := by
                  rcases hat with h | h
                  · exact .inl (Option.some.inj h)
                  · exact .inr h
                have kp : ∀ id (cs : Array Value) t, BlockAt W56 id cs t → id ≠ b2 → BlockAt W57 id cs t := fun id cs t h hne => h.kept hgr (fun e => hne (Option.some.inj e))
                have y57 : BlockAt W57 w1.heap.size #[.int .u8 k, .slice none 0 0] 25 := kp _ _ _ y56 (by omega)
                have hB57 : Below w1.heap.size w1 W57 := Below.grown hB56 hgr (by omega) (fun j hj => by have := Option.some.inj (show some b2 = some j from hj); omega)
                have n57 : BlockAt W57 b9 #[.int .u8 0, .slice none 0 0] 25 := kp _ _ _ n56 (by omega)
                have hk57 : b0 ≤ W57.heap.size := by omega
                have hg2g : b0 ≤ g2 := by omega
                have hne_b9_g2 : b9 ≠ g2 := by omega
                have hl57_b9 : b9 < W57.heap.size := by omega
                have hl57_b2 : b2 < W57.heap.size := by omega
                have hne_b6_g2 : b6 ≠ g2 := by omega
                have hl57_b6 : b6 < W57.heap.size := by omega
                clear kp hcase hat hgr hgs
                have own57 : W57.ownsRow b0 3 1 (.slice (some ⟨g2, 0, none⟩) (0 + 1) cap2) (0 + 1) (natCells [] ++ natCells [11]) := own57
                obtain ⟨a0, a1, _, _⟩ := y57.two
                refine hKq.out _ _ ?_ (fun hHeld => ?_)
                · (try dsimp only)
                  exact ⟨a0, a1⟩
                clear hKq Kq a0 a1
                (try simp only [Act.put, List.setIfInBounds_toArray, List.set_cons_zero, List.set_cons_succ])
                refine rt8 (v := ?_) (by kernel_rfl) (by kernel_rfl) (by kernel_rfl) (fun _ _ _ h => h) (by rfl) hHeld ?_ ?_
                rotate_left
                · intro w' hSw
                  (try dsimp only at hSw)
                  go_simp <;> with_reducible rfl
                (try simp only [Act.put, List.setIfInBounds_toArray, List.set_cons_zero, List.set_cons_succ])
                refine wpAnyH_ready (rs := [10]) (by kernel_rfl) (by simp) ?_
                refine rd10 (fun Kq hKq => ?_) ?_
                · obtain ⟨q0, q1, q2, q3⟩ := n57.two
                  go_simp
                  have y9f := (n57.set20 (.int .u8 k)).set21 (.slice (some ⟨g2, 0, none⟩) (0 + 1) cap2)
                  have ownf := ownsRow_setCell_other (ownsRow_setCell_other own57 (a := ⟨b9, 0, none⟩) (by intro e; have e2 := Option.some.inj (show some g2 = some b9 from e); omega) (.int .u8 k)) (a := ⟨b9, 1, none⟩) (by intro e; have e2 := Option.some.inj (show some g2 = some b9 from e); omega) (.slice (some ⟨g2, 0, none⟩) (0 + 1) cap2)
                  have y58 := (y57.other (B' := b9) (j := 0) (by omega) (.int .u8 k)).other (B' := b9) (j := 1) (by omega) (.slice (some ⟨g2, 0, none⟩) (0 + 1) cap2)
                  have hB58 := (hB57.setCell (p := ⟨b9, 0, none⟩) (by show w1.heap.size ≤ b9; omega) (.int .u8 k)).setCell (p := ⟨b9, 1, none⟩) (by show w1.heap.size ≤ b9; omega) (.slice (some ⟨g2, 0, none⟩) (0 + 1) cap2)
                  obtain ⟨a0, a1, _, _⟩ := y58.two
                  refine hKq.out _ _ ?_ (fun hHeld => ?_)
                  · (try dsimp only)
                    exact ⟨a0, a1⟩
                  clear hKq Kq a0 a1
                  (try simp only [Act.put, List.setIfInBounds_toArray, List.set_cons_zero, List.set_cons_succ])
                  refine wpAnyH_done (by kernel_rfl) ?_ _
                  refine NoPanic.normal ?_
                  go_wp2_with fail
                  go_meet
                  exact ⟨b9, some ⟨g2, 0, none⟩, cap2, rfl, y9f, NatRow.of_owns (by rw [natCells_append]; exact ownf), y58, hB58⟩
                exact AllReadyH.nil
              exact AllReadyH.nil
            exact AllReadyH.nil
          refine rd6 (fun Kq hKq => ?_) ?_
          · go_simp
            obtain ⟨W59, hW59⟩ : ∃ W59, W54.alloc (.cells #[.int .i64 11] 3) = W59 := ⟨_, rfl⟩
            obtain ⟨b6, hb6⟩ : ∃ b6, W54.heap.size = b6 := ⟨_, rfl⟩
            have hg59 : W59.heap.size = b6 + 1 := by rw [← hW59, ← hb6]; simp
            have y59 : BlockAt W59 w1.heap.size #[.int .u8 k, .slice none 0 0] 25 := by rw [← hW59]; exact y54.alloc _
            have hB59 : Below w1.heap.size w1 W59 := by rw [← hW59]; exact hB54.alloc hB54.size _
            have own59 : W59.ownsRow b0 3 1 (.slice (some ⟨b2, 0, none⟩) 0 0) 0 [] := by rw [← hW59]; exact World.ownsRow.alloc own54 _
            have n59 : BlockAt W59 b9 #[.int .u8 0, .slice none 0 0] 25 := by rw [← hW59]; exact n54.alloc _
            have e59 : BlockAt W59 b6 #[.int .i64 11] 3 := by rw [← hW59]; exact BlockAt.new_at hb6
            have hk59 : b0 ≤ W59.heap.size := by omega
            have hb6g : b0 ≤ b6 := by omega
            have hne_b9_b6 : b9 ≠ b6 := by omega
            have hl59_b9 : b9 < W59.heap.size := by omega
            have hne_b2_b6 : b2 ≠ b6 := by omega
            have hl59_b2 : b2 < W59.heap.size := by omega
            have hl59_b6 : b6 < W59.heap.size := by omega
            rw [hW59, hb6]
            clear hW59 hb6 hg59
            obtain ⟨a0, a1, _, _⟩ := y59.two
            refine hKq.out _ _ ?_ (fun hHeld => ?_)
            · (try dsimp only)
              exact ⟨a0, a1⟩
            clear hKq Kq a0 a1
            (try simp only [Act.put, List.setIfInBounds_toArray, List.set_cons_zero, List.set_cons_succ])
            refine wpAnyH_ready (rs := [5]) (by kernel_rfl) (by simp) ?_
            refine rd5 (fun Kq hKq => ?_) ?_
            · refine step_append_nil rfl (.tmp 33) (.tmp 35) 23 rfl b0 3 i0 1 Tryd.underlying23 hi _ 0 [] rfl own59 rfl ?_
              obtain ⟨a0, a1, _, _⟩ := y59.two
              refine hKq.out _ _ ?_ (fun hHeld => ?_)
              · (try dsimp only)
                exact ⟨a0, a1⟩
              clear hKq Kq a0 a1
              (try simp only [Act.put, List.setIfInBounds_toArray, List.set_cons_zero, List.set_cons_succ])
              refine wpAnyH_ready (rs := [7]) (by kernel_rfl) (by simp) ?_
              refine rd7 (fun Kq hKq => ?_) ?_
              · refine step_append_lies _ rfl (.tmp 36) (.tmp 37) 23 rfl b0 3 i0 (.int .i64 0) 1 8 Tryd.underlying23 hi hi0 hi1 hi2 rfl (by decide) _ 0 _ rfl own59 ⟨b6, 0, none⟩ 1 1 (natCells [11]) rfl rfl (BlockAt.newCells e59 rfl) (natCells_one _) (by decide) (by unfold maxLen; omega) (by omega) (by omega) _ rfl ?_
                intro g2 cap2 W61 own61 hgr hat hlt
                have hgs := hgr.size
                have hcase : b2 = g2 ∨ g2 = W59.heap.size := by
                  rcases hat with h | h
                  · exact .inl (Option.some.inj h)
                  · exact .inr h
                have kp : ∀ id (cs : Array Value) t, BlockAt W59 id cs t → id ≠ b2 → BlockAt W61 id cs t := fun id cs t h hne => h.kept hgr (fun e => hne (Option.some.inj e))
                have y61 : BlockAt W61 w1.heap.size #[.int .u8 k, .slice none 0 0] 25 := kp _ _ _ y59 (by omega)
                have hB61 : Below w1.heap.size w1 W61 := Below.grown hB59 hgr (by omega) (fun j hj => by have := Option.some.inj (show some b2 = some j from hj); omega)
                have n61 : BlockAt W61 b9 #[.int .u8 0, .slice none 0 0] 25 := kp _ _ _ n59 (by omega)
                have hk61 : b0 ≤ W61.heap.size := by omega
                have hg2g : b0 ≤ g2 := by omega
                have hne_b9_g2 : b9 ≠ g2 := by omega
                have hl61_b9 : b9 < W61.heap.size := by omega
                have hl61_b2 : b2 < W61.heap.size := by omega
                have hne_b6_g2 : b6 ≠ g2 := by omega
                have hl61_b6 : b6 < W61.heap.size := by omega
                clear kp hcase hat hgr hgs
                have own61 : W61.ownsRow b0 3 1 (.slice (some ⟨g2, 0, none⟩) (0 + 1) cap2) (0 + 1) (natCells [] ++ natCells [11]) := own61
                obtain ⟨a0, a1, _, _⟩ := y61.two
                refine hKq.out _ _ ?_ (fun hHeld => ?_)
                · (try dsimp only)
                  exact ⟨a0, a1⟩
                clear hKq Kq a0 a1
                (try simp only [Act.put, List.setIfInBounds_toArray, List.set_cons_zero, List.set_cons_succ])
                refine rt8 (v := ?_) (by kernel_rfl) (by kernel_rfl) (by kernel_rfl) (fun _ _ _ h => h) (by rfl) hHeld ?_ ?_
                rotate_left
                · intro w' hSw
                  (try dsimp only at hSw)
                  go_simp <;> with_reducible rfl
                (try simp only [Act.put, List.setIfInBounds_toArray, List.set_cons_zero, List.set_cons_succ])
                refine wpAnyH_ready (rs := [10]) (by kernel_rfl) (by simp) ?_
                refine rd10 (fun Kq hKq => ?_) ?_
                · obtain ⟨q0, q1, q2, q3⟩ := n61.two
                  go_simp
                  have y9f := (n61.set20 (.int .u8 k)).set21 (.slice (some ⟨g2, 0, none⟩) (0 + 1) cap2)
                  have ownf := ownsRow_setCell_other (ownsRow_setCell_other own61 (a := ⟨b9, 0, none⟩) (by intro e; have e2 := Option.some.inj (show some g2 = some b9 from e); omega) (.int .u8 k)) (a := ⟨b9, 1, none⟩) (by intro e; have e2 := Option.some.inj (show some g2 = some b9 from e); omega) (.slice (some ⟨g2, 0, none⟩) (0 + 1) cap2)
                  have y62 := (y61.other (B' := b9) (j := 0) (by omega) (.int .u8 k)).other (B' := b9) (j := 1) (by omega) (.slice (some ⟨g2, 0, none⟩) (0 + 1) cap2)
                  have hB62 := (hB61.setCell (p := ⟨b9, 0, none⟩) (by show w1.heap.size ≤ b9; omega) (.int .u8 k)).setCell (p := ⟨b9, 1, none⟩) (by show w1.heap.size ≤ b9; omega) (.slice (some ⟨g2, 0, none⟩) (0 + 1) cap2)
                  obtain ⟨a0, a1, _, _⟩ := y62.two
                  refine hKq.out _ _ ?_ (fun hHeld => ?_)
                  · (try dsimp only)
                    exact ⟨a0, a1⟩
                  clear hKq Kq a0 a1
                  (try simp only [Act.put, List.setIfInBounds_toArray, List.set_cons_zero, List.set_cons_succ])
                  refine wpAnyH_done (by kernel_rfl) ?_ _
                  refine NoPanic.normal ?_
                  go_wp2_with fail
                  go_meet
                  exact ⟨b9, some ⟨g2, 0, none⟩, cap2, rfl, y9f, NatRow.of_owns (by rw [natCells_append]; exact ownf), y62, hB62⟩
                exact AllReadyH.nil
              exact AllReadyH.nil
            exact AllReadyH.nil
          exact AllReadyH.nil
        refine rd6 (fun Kq hKq => ?_) ?_
        · go_simp
          obtain ⟨W63, hW63⟩ : ∃ W63, W53.alloc (.cells #[.int .i64 11] 3) = W63 := ⟨_, rfl⟩
          obtain ⟨b6, hb6⟩ : ∃ b6, W53.heap.size = b6 := ⟨_, rfl⟩
          have hg63 : W63.heap.size = b6 + 1 := by rw [← hW63, ← hb6]; simp
          have y63 : BlockAt W63 w1.heap.size #[.int .u8 k, .slice none 0 0] 25 := by rw [← hW63]; exact y53.alloc _
          have hB63 : Below w1.heap.size w1 W63 := by rw [← hW63]; exact hB53.alloc hB53.size _
          have n63 : BlockAt W63 b9 #[.int .u8 0, .slice none 0 0] 25 := by rw [← hW63]; exact n53.alloc _
          have e63 : BlockAt W63 b6 #[.int .i64 11] 3 := by rw [← hW63]; exact BlockAt.new_at hb6
          have hk63 : b0 ≤ W63.heap.size := by omega
          have hb6g : b0 ≤ b6 := by omega
          have hne_b9_b6 : b9 ≠ b6 := by omega
          have hl63_b9 : b9 < W63.heap.size := by omega
          have hl63_b6 : b6 < W63.heap.size := by omega
          rw [hW63, hb6]
          clear hW63 hb6 hg63
          obtain ⟨a0, a1, _, _⟩ := y63.two
          refine hKq.out _ _ ?_ (fun hHeld => ?_)
          · (try dsimp only)
            exact ⟨a0, a1⟩
          clear hKq Kq a0 a1
          (try simp only [Act.put, List.setIfInBounds_toArray, List.set_cons_zero, List.set_cons_succ])
          refine wpAnyH_ready (rs := [2]) (by kernel_rfl) (by simp) ?_
          refine rd2 (fun Kq hKq => ?_) ?_
          · go_simp
            obtain ⟨W64, hW64⟩ : ∃ W64, W63.alloc (.cells #[] 3) = W64 := ⟨_, rfl⟩
            obtain ⟨b2, hb2⟩ : ∃ b2, W63.heap.size = b2 := ⟨_, rfl⟩
            have hg64 : W64.heap.size = b2 + 1 := by rw [← hW64, ← hb2]; simp
            have y64 : BlockAt W64 w1.heap.size #[.int .u8 k, .slice none 0 0] 25 := by rw [← hW64]; exact y63.alloc _
            have hB64 : Below w1.heap.size w1 W64 := by rw [← hW64]; exact hB63.alloc hB63.size _
            have e64 : BlockAt W64 b6 #[.int .i64 11] 3 := by rw [← hW64]; exact e63.alloc _
            have n64 : BlockAt W64 b9 #[.int .u8 0, .slice none 0 0] 25 := by rw [← hW64]; exact n63.alloc _
            have own64 : W64.ownsRow b0 3 1 (.slice (some ⟨b2, 0, none⟩) 0 0) 0 [] := by rw [← hW64]; exact own_empty hb2 (by omega)
            have hk64 : b0 ≤ W64.heap.size := by omega
            have hb2g : b0 ≤ b2 := by omega
            have hne_b9_b2 : b9 ≠ b2 := by omega
            have hl64_b9 : b9 < W64.heap.size := by omega
            have hne_b6_b2 : b6 ≠ b2 := by omega
            have hl64_b6 : b6 < W64.heap.size := by omega
            have hl64_b2 : b2 < W64.heap.size := by omega
            rw [hW64, hb2]
            clear hW64 hb2 hg64
            obtain ⟨a0, a1, _, _⟩ := y64.two
            refine hKq.out _ _ ?_ (fun hHeld => ?_)
            · (try dsimp only)
              exact ⟨a0, a1⟩
            clear hKq Kq a0 a1
            (try simp only [Act.put, List.setIfInBounds_toArray, List.set_cons_zero, List.set_cons_succ])
            refine wpAnyH_ready (rs := [5]) (by kernel_rfl) (by simp) ?_
            refine rd5 (fun Kq hKq => ?_) ?_
            · refine step_append_nil rfl (.tmp 33) (.tmp 35) 23 rfl b0 3 i0 1 Tryd.underlying23 hi _ 0 [] rfl own64 rfl ?_
              obtain ⟨a0, a1, _, _⟩ := y64.two
              refine hKq.out _ _ ?_ (fun hHeld => ?_)
              · (try dsimp only)
                exact ⟨a0, a1⟩
              clear hKq Kq a0 a1
              (try simp only [Act.put, List.setIfInBounds_toArray, List.set_cons_zero, List.set_cons_succ])
              refine wpAnyH_ready (rs := [7]) (by kernel_rfl) (by simp) ?_
              refine rd7 (fun Kq hKq => ?_) ?_
              · refine step_append_lies _ rfl (.tmp 36) (.tmp 37) 23 rfl b0 3 i0 (.int .i64 0) 1 8 Tryd.underlying23 hi hi0 hi1 hi2 rfl (by decide) _ 0 _ rfl own64 ⟨b6, 0, none⟩ 1 1 (natCells [11]) rfl rfl (BlockAt.newCells e64 rfl) (natCells_one _) (by decide) (by unfold maxLen; omega) (by omega) (by omega) _ rfl ?_
                intro g2 cap2 W66 own66 hgr hat hlt
                have hgs := hgr.size
                have hcase : b2 = g2 ∨ g2 = W64.heap.size := by
                  rcases hat with h | h
                  · exact .inl (Option.some.inj h)
                  · exact .inr h
                have kp : ∀ id (cs : Array Value) t, BlockAt W64 id cs t → id ≠ b2 → BlockAt W66 id cs t := fun id cs t h hne => h.kept hgr (fun e => hne (Option.some.inj e))
                have y66 : BlockAt W66 w1.heap.size #[.int .u8 k, .slice none 0 0] 25 := kp _ _ _ y64 (by omega)
                have hB66 : Below w1.heap.size w1 W66 := Below.grown hB64 hgr (by omega) (fun j hj => by have := Option.some.inj (show some b2 = some j from hj); omega)
                have n66 : BlockAt W66 b9 #[.int .u8 0, .slice none 0 0] 25 := kp _ _ _ n64 (by omega)
                have hk66 : b0 ≤ W66.heap.size := by omega
                have hg2g : b0 ≤ g2 := by omega
                have hne_b9_g2 : b9 ≠ g2 := by omega
                have hl66_b9 : b9 < W66.heap.size := by omega
                have hne_b6_g2 : b6 ≠ g2 := by omega
                have hl66_b6 : b6 < W66.heap.size := by omega
                have hl66_b2 : b2 < W66.heap.size := by omega
                clear kp hcase hat hgr hgs
                have own66 : W66.ownsRow b0 3 1 (.slice (some ⟨g2, 0, none⟩) (0 + 1) cap2) (0 + 1) (natCells [] ++ natCells [11]) := own66
                obtain ⟨a0, a1, _, _⟩ := y66.two
                refine hKq.out _ _ ?_ (fun hHeld => ?_)
                · (try dsimp only)
                  exact ⟨a0, a1⟩
                clear hKq Kq a0 a1
                (try simp only [Act.put, List.setIfInBounds_toArray, List.set_cons_zero, List.set_cons_succ])
                refine rt8 (v := ?_) (by kernel_rfl) (by kernel_rfl) (by kernel_rfl) (fun _ _ _ h => h) (by rfl) hHeld ?_ ?_
                rotate_left
                · intro w' hSw
                  (try dsimp only at hSw)
                  go_simp <;> with_reducible rfl
                (try simp only [Act.put, List.setIfInBounds_toArray, List.set_cons_zero, List.set_cons_succ])
                refine wpAnyH_ready (rs := [10]) (by kernel_rfl) (by simp) ?_
                refine rd10 (fun Kq hKq => ?_) ?_
                · obtain ⟨q0, q1, q2, q3⟩ := n66.two
                  go_simp
                  have y9f := (n66.set20 (.int .u8 k)).set21 (.slice (some ⟨g2, 0, none⟩) (0 + 1) cap2)
                  have ownf := ownsRow_setCell_other (ownsRow_setCell_other own66 (a := ⟨b9, 0, none⟩) (by intro e; have e2 := Option.some.inj (show some g2 = some b9 from e); omega) (.int .u8 k)) (a := ⟨b9, 1, none⟩) (by intro e; have e2 := Option.some.inj (show some g2 = some b9 from e); omega) (.slice (some ⟨g2, 0, none⟩) (0 + 1) cap2)
                  have y67 := (y66.other (B' := b9) (j := 0) (by omega) (.int .u8 k)).other (B' := b9) (j := 1) (by omega) (.slice (some ⟨g2, 0, none⟩) (0 + 1) cap2)
                  have hB67 := (hB66.setCell (p := ⟨b9, 0, none⟩) (by show w1.heap.size ≤ b9; omega) (.int .u8 k)).setCell (p := ⟨b9, 1, none⟩) (by show w1.heap.size ≤ b9; omega) (.slice (some ⟨g2, 0, none⟩) (0 + 1) cap2)
                  obtain ⟨a0, a1, _, _⟩ := y67.two
                  refine hKq.out _ _ ?_ (fun hHeld => ?_)
                  · (try dsimp only)
                    exact ⟨a0, a1⟩
                  clear hKq Kq a0 a1
                  (try simp only [Act.put, List.setIfInBounds_toArray, List.set_cons_zero, List.set_cons_succ])
                  refine wpAnyH_done (by kernel_rfl) ?_ _
                  refine NoPanic.normal ?_
                  go_wp2_with fail
                  go_meet
                  exact ⟨b9, some ⟨g2, 0, none⟩, cap2, rfl, y9f, NatRow.of_owns (by rw [natCells_append]; exact ownf), y67, hB67⟩
                exact AllReadyH.nil
              exact AllReadyH.nil
            exact AllReadyH.nil
          exact AllReadyH.nil
        exact AllReadyH.nil
      exact AllReadyH.nil
    · cases hq
      have hwpos : 0 < ws.length := List.length_pos_iff.2 hwne
      have hsr : SrcAt w2 g ws := ⟨Nat.lt_of_lt_of_le hgl hY2.size, fun j u hu => by
        rw [addr_add, Nat.zero_add]
        have hj : ∃ x, ws[j]? = some x ∧ u = .int .i64 (x : Int) := by
          unfold natCells at hu
          rw [List.getElem?_map] at hu
          obtain ⟨x, hx, rfl⟩ := Option.map_eq_some_iff.1 hu
          exact ⟨x, hx, rfl⟩
        obtain ⟨x, hx, rfl⟩ := hj
        exact (hY2.cell (p := ⟨g, j, none⟩) hgl).trans (hcs j x hx)⟩
      clear hcs
      refine wp_region_noPanic ?_
      refine wp_region_held_drew (S := (fun w' => w'.cell? ⟨w1.heap.size, 0, none⟩ = some (.int .u8 k) ∧ w'.cell? ⟨w1.heap.size, 1, none⟩ = some (.slice (some ⟨g, 0, none⟩) ws.length cc))) (by kernel_rfl) ?_ (fun hHeld => ?_)
      · (try dsimp only)
        go_keep
      refine rt0 (v := ?_) (by kernel_rfl) (by kernel_rfl) (by kernel_rfl) (fun _ _ _ h => h) (by rfl) hHeld ?_ ?_
      rotate_left
      · intro w' hSw
        (try dsimp only at hSw)
        go_simp <;> with_reducible rfl
      (try simp only [Act.put, List.setIfInBounds_toArray, List.set_cons_zero, List.set_cons_succ])
      refine rt1 (v := ?_) (by kernel_rfl) (by kernel_rfl) (by kernel_rfl) (fun _ _ _ h => h) (by rfl) hHeld ?_ ?_
      rotate_left
      · intro w' hSw
        (try dsimp only at hSw)
        go_simp <;> with_reducible rfl
      (try simp only [Act.put, List.setIfInBounds_toArray, List.set_cons_zero, List.set_cons_succ])
      refine rt3 (v := ?_) (by kernel_rfl) (by kernel_rfl) (by kernel_rfl) (fun _ _ _ h => h) (by rfl) hHeld ?_ ?_
      rotate_left
      · intro w' hSw
        (try dsimp only at hSw)
        go_simp <;> with_reducible rfl
      (try simp only [Act.put, List.setIfInBounds_toArray, List.set_cons_zero, List.set_cons_succ])
      refine rt4 (v := ?_) (by kernel_rfl) (by kernel_rfl) (by kernel_rfl) (fun _ _ _ h => h) (by rfl) hHeld ?_ ?_
      rotate_left
      · intro w' hSw
        (try dsimp only at hSw)
        go_simp <;> with_reducible rfl
      (try simp only [Act.put, List.setIfInBounds_toArray, List.set_cons_zero, List.set_cons_succ])
      have y0 : BlockAt w2.drew w1.heap.size #[.int .u8 k, .slice (some ⟨g, 0, none⟩) ws.length cc] 25 := x2
      have hB0 : Below w1.heap.size w1 w2.drew := hY2.drew
      have hz0 : w1.heap.size < w2.drew.heap.size := v0
      have sr0 : SrcAt w2.drew g ws := hsr
      obtain ⟨W0, hW0⟩ : ∃ W0, w2.drew = W0 := ⟨_, rfl⟩
      rw [hW0] at y0 hB0 hz0 hHeld sr0 ⊢
      obtain ⟨b0, hb0⟩ : ∃ b0, W0.heap.size = b0 := ⟨_, rfl⟩
      have hge : b0 ≤ W0.heap.size := by omega
      have hzb : w1.heap.size < b0 := by omega
      clear hb0 hW0 x2 hY2 v0 p0 p1 hsr
      refine wpAnyH_ready (rs := [2, 6, 9]) (by kernel_rfl) (by simp) ?_
      refine rd2 (fun Kq hKq => ?_) ?_
      · go_simp
        obtain ⟨W1, hW1⟩ : ∃ W1, W0.alloc (.cells #[] 3) = W1 := ⟨_, rfl⟩
        obtain ⟨b2, hb2⟩ : ∃ b2, W0.heap.size = b2 := ⟨_, rfl⟩
        have hg1 : W1.heap.size = b2 + 1 := by rw [← hW1, ← hb2]; simp
        have y1 : BlockAt W1 w1.heap.size #[.int .u8 k, .slice (some ⟨g, 0, none⟩) ws.length cc] 25 := by rw [← hW1]; exact y0.alloc _
        have hB1 : Below w1.heap.size w1 W1 := by rw [← hW1]; exact hB0.alloc hB0.size _
        have sr1 : SrcAt W1 g ws := by rw [← hW1]; exact sr0.alloc _
        have own1 : W1.ownsRow b0 3 1 (.slice (some ⟨b2, 0, none⟩) 0 0) 0 [] := by rw [← hW1]; exact own_empty hb2 (by omega)
        have hk1 : b0 ≤ W1.heap.size := by omega
        have hb2g : b0 ≤ b2 := by omega
        have hl1_b2 : b2 < W1.heap.size := by omega
        rw [hW1, hb2]
        clear hW1 hb2 hg1
        obtain ⟨a0, a1, _, _⟩ := y1.two
        refine hKq.out _ _ ?_ (fun hHeld => ?_)
        · (try dsimp only)
          exact ⟨a0, a1⟩
        clear hKq Kq a0 a1
        (try simp only [Act.put, List.setIfInBounds_toArray, List.set_cons_zero, List.set_cons_succ])
        refine wpAnyH_ready (rs := [5, 6, 9]) (by kernel_rfl) (by simp) ?_
        refine rd5 (fun Kq hKq => ?_) ?_
        · refine step_append_lies _ rfl (.tmp 33) (.tmp 35) 23 rfl b0 3 i0 (.int .i64 0) 1 8 Tryd.underlying23 hi hi0 hi1 hi2 rfl (by decide) _ 0 [] rfl own1 ⟨g, 0, none⟩ ws.length cc (natCells ws) rfl (by simp [natCells]) sr1.get (natCells_one _) hwpos (by unfold maxLen; omega) (by omega) (by omega) _ rfl ?_
          intro g1 cap1 W2 own2 hgr hat hlt
          simp only [Nat.zero_add, List.nil_append] at own2
          rw [Nat.zero_add]
          have hgs := hgr.size
          have hcase : b2 = g1 ∨ g1 = W1.heap.size := by
            rcases hat with h | h
            · exact .inl (Option.some.inj h)
            · exact .inr h
          have kp : ∀ id (cs : Array Value) t, BlockAt W1 id cs t → id ≠ b2 → BlockAt W2 id cs t := fun id cs t h hne => h.kept hgr (fun e => hne (Option.some.inj e))
          have y2 : BlockAt W2 w1.heap.size #[.int .u8 k, .slice (some ⟨g, 0, none⟩) ws.length cc] 25 := kp _ _ _ y1 (by omega)
          have hB2 : Below w1.heap.size w1 W2 := Below.grown hB1 hgr (by omega) (fun j hj => by have := Option.some.inj (show some b2 = some j from hj); omega)
          have hk2 : b0 ≤ W2.heap.size := by omega
          have hg1g : b0 ≤ g1 := by omega
          have hl2_b2 : b2 < W2.heap.size := by omega
          clear kp hcase hat hgr hgs
          obtain ⟨a0, a1, _, _⟩ := y2.two
          refine hKq.out _ _ ?_ (fun hHeld => ?_)
          · (try dsimp only)
            exact ⟨a0, a1⟩
          clear hKq Kq a0 a1
          (try simp only [Act.put, List.setIfInBounds_toArray, List.set_cons_zero, List.set_cons_succ])
          refine wpAnyH_ready (rs := [6, 9]) (by kernel_rfl) (by simp) ?_
          refine rd6 (fun Kq hKq => ?_) ?_
          · go_simp
            obtain ⟨W3, hW3⟩ : ∃ W3, W2.alloc (.cells #[.int .i64 11] 3) = W3 := ⟨_, rfl⟩
            obtain ⟨b6, hb6⟩ : ∃ b6, W2.heap.size = b6 := ⟨_, rfl⟩
            have hg3 : W3.heap.size = b6 + 1 := by rw [← hW3, ← hb6]; simp
            have y3 : BlockAt W3 w1.heap.size #[.int .u8 k, .slice (some ⟨g, 0, none⟩) ws.length cc] 25 := by rw [← hW3]; exact y2.alloc _
            have hB3 : Below w1.heap.size w1 W3 := by rw [← hW3]; exact hB2.alloc hB2.size _
            have own3 : W3.ownsRow b0 3 1 (.slice (some ⟨g1, 0, none⟩) ws.length cap1) ws.length (natCells ws) := by rw [← hW3]; exact World.ownsRow.alloc own2 _
            have e3 : BlockAt W3 b6 #[.int .i64 11] 3 := by rw [← hW3]; exact BlockAt.new_at hb6
            have hk3 : b0 ≤ W3.heap.size := by omega
            have hb6g : b0 ≤ b6 := by omega
            have hne_g1_b6 : g1 ≠ b6 := by omega
            have hl3_g1 : g1 < W3.heap.size := by omega
            have hl3_b6 : b6 < W3.heap.size := by omega
            rw [hW3, hb6]
            clear hW3 hb6 hg3
            obtain ⟨a0, a1, _, _⟩ := y3.two
            refine hKq.out _ _ ?_ (fun hHeld => ?_)
            · (try dsimp only)
              exact ⟨a0, a1⟩
            clear hKq Kq a0 a1
            (try simp only [Act.put, List.setIfInBounds_toArray, List.set_cons_zero, List.set_cons_succ])
            refine wpAnyH_ready (rs := [7, 9]) (by kernel_rfl) (by simp) ?_
            refine rd7 (fun Kq hKq => ?_) ?_
            · refine step_append_lies _ rfl (.tmp 36) (.tmp 37) 23 rfl b0 3 i0 (.int .i64 0) 1 8 Tryd.underlying23 hi hi0 hi1 hi2 rfl (by decide) _ ws.length _ rfl own3 ⟨b6, 0, none⟩ 1 1 (natCells [11]) rfl rfl (BlockAt.newCells e3 rfl) (natCells_one _) (by decide) (by unfold maxLen; omega) (by omega) (by omega) _ rfl ?_
              intro g2 cap2 W4 own4 hgr hat hlt
              have hgs := hgr.size
              have hcase : g1 = g2 ∨ g2 = W3.heap.size := by
                rcases hat with h | h
                · exact .inl (Option.some.inj h)
                · exact .inr h
              have kp : ∀ id (cs : Array Value) t, BlockAt W3 id cs t → id ≠ g1 → BlockAt W4 id cs t := fun id cs t h hne => h.kept hgr (fun e => hne (Option.some.inj e))
              have y4 : BlockAt W4 w1.heap.size #[.int .u8 k, .slice (some ⟨g, 0, none⟩) ws.length cc] 25 := kp _ _ _ y3 (by omega)
              have hB4 : Below w1.heap.size w1 W4 := Below.grown hB3 hgr (by omega) (fun j hj => by have := Option.some.inj (show some g1 = some j from hj); omega)
              have hk4 : b0 ≤ W4.heap.size := by omega
              have hg2g : b0 ≤ g2 := by omega
              have hl4_g1 : g1 < W4.heap.size := by omega
              have hne_b6_g2 : b6 ≠ g2 := by omega
              have hl4_b6 : b6 < W4.heap.size := by omega
              clear kp hcase hat hgr hgs
              obtain ⟨a0, a1, _, _⟩ := y4.two
              refine hKq.out _ _ ?_ (fun hHeld => ?_)
              · (try dsimp only)
                exact ⟨a0, a1⟩
              clear hKq Kq a0 a1
              (try simp only [Act.put, List.setIfInBounds_toArray, List.set_cons_zero, List.set_cons_succ])
              refine rt8 (v := ?_) (by kernel_rfl) (by kernel_rfl) (by kernel_rfl) (fun _ _ _ h => h) (by rfl) hHeld ?_ ?_
              rotate_left
              · intro w' hSw
                (try dsimp only at hSw)
                go_simp <;> with_reducible rfl
              (try simp only [Act.put, List.setIfInBounds_toArray, List.set_cons_zero, List.set_cons_succ])
              refine wpAnyH_ready (rs := [9]) (by kernel_rfl) (by simp) ?_
              refine rd9 (fun Kq hKq => ?_) ?_
              · go_simp
                obtain ⟨W5, hW5⟩ : ∃ W5, W4.alloc (.cells #[.int .u8 0, .slice none 0 0] 25) = W5 := ⟨_, rfl⟩
                obtain ⟨b9, hb9⟩ : ∃ b9, W4.heap.size = b9 := ⟨_, rfl⟩
                have hg5 : W5.heap.size = b9 + 1 := by rw [← hW5, ← hb9]; simp
                have y5 : BlockAt W5 w1.heap.size #[.int .u8 k, .slice (some ⟨g, 0, none⟩) ws.length cc] 25 := by rw [← hW5]; exact y4.alloc _
                have hB5 : Below w1.heap.size w1 W5 := by rw [← hW5]; exact hB4.alloc hB4.size _
                have own5 : W5.ownsRow b0 3 1 (.slice (some ⟨g2, 0, none⟩) (ws.length + 1) cap2) (ws.length + 1) ((natCells ws) ++ natCells [11]) := by rw [← hW5]; exact World.ownsRow.alloc own4 _
                have n5 : BlockAt W5 b9 #[.int .u8 0, .slice none 0 0] 25 := by rw [← hW5]; exact BlockAt.new_at hb9
                have hk5 : b0 ≤ W5.heap.size := by omega
                have hb9g : b0 ≤ b9 := by omega
                have hne_b6_b9 : b6 ≠ b9 := by omega
                have hl5_b6 : b6 < W5.heap.size := by omega
                have hne_g2_b9 : g2 ≠ b9 := by omega
                have hl5_g2 : g2 < W5.heap.size := by omega
                have hl5_b9 : b9 < W5.heap.size := by omega
                rw [hW5, hb9]
                clear hW5 hb9 hg5
                obtain ⟨a0, a1, _, _⟩ := y5.two
                refine hKq.out _ _ ?_ (fun hHeld => ?_)
                · (try dsimp only)
                  exact ⟨a0, a1⟩
                clear hKq Kq a0 a1
                (try simp only [Act.put, List.setIfInBounds_toArray, List.set_cons_zero, List.set_cons_succ])
                refine wpAnyH_ready (rs := [10]) (by kernel_rfl) (by simp) ?_
                refine rd10 (fun Kq hKq => ?_) ?_
                · obtain ⟨q0, q1, q2, q3⟩ := n5.two
                  go_simp
                  have y9f := (n5.set20 (.int .u8 k)).set21 (.slice (some ⟨g2, 0, none⟩) (ws.length + 1) cap2)
                  have ownf := ownsRow_setCell_other (ownsRow_setCell_other own5 (a := ⟨b9, 0, none⟩) (by intro e; have e2 := Option.some.inj (show some g2 = some b9 from e); omega) (.int .u8 k)) (a := ⟨b9, 1, none⟩) (by intro e; have e2 := Option.some.inj (show some g2 = some b9 from e); omega) (.slice (some ⟨g2, 0, none⟩) (ws.length + 1) cap2)
                  have y6 := (y5.other (B' := b9) (j := 0) (by omega) (.int .u8 k)).other (B' := b9) (j := 1) (by omega) (.slice (some ⟨g2, 0, none⟩) (ws.length + 1) cap2)
                  have hB6 := (hB5.setCell (p := ⟨b9, 0, none⟩) (by show w1.heap.size ≤ b9; omega) (.int .u8 k)).setCell (p := ⟨b9, 1, none⟩) (by show w1.heap.size ≤ b9; omega) (.slice (some ⟨g2, 0, none⟩) (ws.length + 1) cap2)
                  obtain ⟨a0, a1, _, _⟩ := y6.two
                  refine hKq.out _ _ ?_ (fun hHeld => ?_)
                  · (try dsimp only)
                    exact ⟨a0, a1⟩
                  clear hKq Kq a0 a1
                  (try simp only [Act.put, List.setIfInBounds_toArray, List.set_cons_zero, List.set_cons_succ])
                  refine wpAnyH_done (by kernel_rfl) ?_ _
                  refine NoPanic.normal ?_
                  go_wp2_with fail
                  go_meet
                  exact ⟨b9, some ⟨g2, 0, none⟩, cap2, rfl, y9f, NatRow.of_owns (by rw [natCells_append]; exact ownf), y6, hB6⟩
                exact AllReadyH.nil
              exact AllReadyH.nil
            refine rd9 (fun Kq hKq => ?_) ?_
            · go_simp
              obtain ⟨W7, hW7⟩ : ∃ W7, W3.alloc (.cells #[.int .u8 0, .slice none 0 0] 25) = W7 := ⟨_, rfl⟩
              obtain ⟨b9, hb9⟩ : ∃ b9, W3.heap.size = b9 := ⟨_, rfl⟩
              have hg7 : W7.heap.size = b9 + 1 := by rw [← hW7, ← hb9]; simp
              have y7 : BlockAt W7 w1.heap.size #[.int .u8 k, .slice (some ⟨g, 0, none⟩) ws.length cc] 25 := by rw [← hW7]; exact y3.alloc _
              have hB7 : Below w1.heap.size w1 W7 := by rw [← hW7]; exact hB3.alloc hB3.size _
              have own7 : W7.ownsRow b0 3 1 (.slice (some ⟨g1, 0, none⟩) ws.length cap1) ws.length (natCells ws) := by rw [← hW7]; exact World.ownsRow.alloc own3 _
              have e7 : BlockAt W7 b6 #[.int .i64 11] 3 := by rw [← hW7]; exact e3.alloc _
              have n7 : BlockAt W7 b9 #[.int .u8 0, .slice none 0 0] 25 := by rw [← hW7]; exact BlockAt.new_at hb9
              have hk7 : b0 ≤ W7.heap.size := by omega
              have hb9g : b0 ≤ b9 := by omega
              have hne_g1_b9 : g1 ≠ b9 := by omega
              have hl7_g1 : g1 < W7.heap.size := by omega
              have hne_b6_b9 : b6 ≠ b9 := by omega
              have hl7_b6 : b6 < W7.heap.size := by omega
              have hl7_b9 : b9 < W7.heap.size := by omega
              rw [hW7, hb9]
              clear hW7 hb9 hg7
              obtain ⟨a0, a1, _, _⟩ := y7.two
              refine hKq.out _ _ ?_ (fun hHeld => ?_)
              · (try dsimp only)
                exact ⟨a0, a1⟩
              clear hKq Kq a0 a1
              (try simp only [Act.put, List.setIfInBounds_toArray, List.set_cons_zero, List.set_cons_succ])
              refine wpAnyH_ready (rs := [7]) (by kernel_rfl) (by simp) ?_
              refine rd7 (fun Kq hKq => ?_) ?_
              · refine step_append_lies _ rfl (.tmp 36) (.tmp 37) 23 rfl b0 3 i0 (.int .i64 0) 1 8 Tryd.underlying23 hi hi0 hi1 hi2 rfl (by decide) _ ws.length _ rfl own7 ⟨b6, 0, none⟩ 1 1 (natCells [11]) rfl rfl (BlockAt.newCells e7 rfl) (natCells_one _) (by decide) (by unfold maxLen; omega) (by omega) (by omega) _ rfl ?_
                intro g2 cap2 W8 own8 hgr hat hlt
                have hgs := hgr.size
                have hcase : g1 = g2 ∨ g2 = W7.heap.size := by
                  rcases hat with h | h
                  · exact .inl (Option.some.inj h)
                  · exact .inr h
                have kp : ∀ id (cs : Array Value) t, BlockAt W7 id cs t → id ≠ g1 → BlockAt W8 id cs t := fun id cs t h hne => h.kept hgr (fun e => hne (Option.some.inj e))
                have y8 : BlockAt W8 w1.heap.size #[.int .u8 k, .slice (some ⟨g, 0, none⟩) ws.length cc] 25 := kp _ _ _ y7 (by omega)
                have hB8 : Below w1.heap.size w1 W8 := Below.grown hB7 hgr (by omega) (fun j hj => by have := Option.some.inj (show some g1 = some j from hj); omega)
                have n8 : BlockAt W8 b9 #[.int .u8 0, .slice none 0 0] 25 := kp _ _ _ n7 (by omega)
                have hk8 : b0 ≤ W8.heap.size := by omega
                have hg2g : b0 ≤ g2 := by omega
                have hl8_g1 : g1 < W8.heap.size := by omega
                have hne_b6_g2 : b6 ≠ g2 := by omega
                have hl8_b6 : b6 < W8.heap.size := by omega
                have hne_b9_g2 : b9 ≠ g2 := by omega
                have hl8_b9 : b9 < W8.heap.size := by omega
                clear kp hcase hat hgr hgs
                obtain ⟨a0, a1, _, _⟩ := y8.two
                refine hKq.out _ _ ?_ (fun hHeld => ?_)
                · (try dsimp only)
                  exact ⟨a0, a1⟩
                clear hKq Kq a0 a1
                (try simp only [Act.put, List.setIfInBounds_toArray, List.set_cons_zero, List.set_cons_succ])
                refine rt8 (v := ?_) (by kernel_rfl) (by kernel_rfl) (by kernel_rfl) (fun _ _ _ h => h) (by rfl) hHeld ?_ ?_
                rotate_left
                · intro w' hSw
                  (try dsimp only at hSw)
                  go_simp <;> with_reducible rfl
                (try simp only [Act.put, List.setIfInBounds_toArray, List.set_cons_zero, List.set_cons_succ])
                refine wpAnyH_ready (rs := [10]) (by kernel_rfl) (by simp) ?_
                refine rd10 (fun Kq hKq => ?_) ?_
                · obtain ⟨q0, q1, q2, q3⟩ := n8.two
                  go_simp
                  have y9f := (n8.set20 (.int .u8 k)).set21 (.slice (some ⟨g2, 0, none⟩) (ws.length + 1) cap2)
                  have ownf := ownsRow_setCell_other (ownsRow_setCell_other own8 (a := ⟨b9, 0, none⟩) (by intro e; have e2 := Option.some.inj (show some g2 = some b9 from e); omega) (.int .u8 k)) (a := ⟨b9, 1, none⟩) (by intro e; have e2 := Option.some.inj (show some g2 = some b9 from e); omega) (.slice (some ⟨g2, 0, none⟩) (ws.length + 1) cap2)
                  have y9 := (y8.other (B' := b9) (j := 0) (by omega) (.int .u8 k)).other (B' := b9) (j := 1) (by omega) (.slice (some ⟨g2, 0, none⟩) (ws.length + 1) cap2)
                  have hB9 := (hB8.setCell (p := ⟨b9, 0, none⟩) (by show w1.heap.size ≤ b9; omega) (.int .u8 k)).setCell (p := ⟨b9, 1, none⟩) (by show w1.heap.size ≤ b9; omega) (.slice (some ⟨g2, 0, none⟩) (ws.length + 1) cap2)
                  obtain ⟨a0, a1, _, _⟩ := y9.two
                  refine hKq.out _ _ ?_ (fun hHeld => ?_)
                  · (try dsimp only)
                    exact ⟨a0, a1⟩
                  clear hKq Kq a0 a1
                  (try simp only [Act.put, List.setIfInBounds_toArray, List.set_cons_zero, List.set_cons_succ])
                  refine wpAnyH_done (by kernel_rfl) ?_ _
                  refine NoPanic.normal ?_
                  go_wp2_with fail
                  go_meet
                  exact ⟨b9, some ⟨g2, 0, none⟩, cap2, rfl, y9f, NatRow.of_owns (by rw [natCells_append]; exact ownf), y9, hB9⟩
                exact AllReadyH.nil
              exact AllReadyH.nil
            exact AllReadyH.nil
          refine rd9 (fun Kq hKq => ?_) ?_
          · go_simp
            obtain ⟨W10, hW10⟩ : ∃ W10, W2.alloc (.cells #[.int .u8 0, .slice none 0 0] 25) = W10 := ⟨_, rfl⟩
            obtain ⟨b9, hb9⟩ : ∃ b9, W2.heap.size = b9 := ⟨_, rfl⟩
            have hg10 : W10.heap.size = b9 + 1 := by rw [← hW10, ← hb9]; simp
            have y10 : BlockAt W10 w1.heap.size #[.int .u8 k, .slice (some ⟨g, 0, none⟩) ws.length cc] 25 := by rw [← hW10]; exact y2.alloc _
            have hB10 : Below w1.heap.size w1 W10 := by rw [← hW10]; exact hB2.alloc hB2.size _
            have own10 : W10.ownsRow b0 3 1 (.slice (some ⟨g1, 0, none⟩) ws.length cap1) ws.length (natCells ws) := by rw [← hW10]; exact World.ownsRow.alloc own2 _
            have n10 : BlockAt W10 b9 #[.int .u8 0, .slice none 0 0] 25 := by rw [← hW10]; exact BlockAt.new_at hb9
            have hk10 : b0 ≤ W10.heap.size := by omega
            have hb9g : b0 ≤ b9 := by omega
            have hne_g1_b9 : g1 ≠ b9 := by omega
            have hl10_g1 : g1 < W10.heap.size := by omega
            have hl10_b9 : b9 < W10.heap.size := by omega
            rw [hW10, hb9]
            clear hW10 hb9 hg10
            obtain ⟨a0, a1, _, _⟩ := y10.two
            refine hKq.out _ _ ?_ (fun hHeld => ?_)
            · (try dsimp only)
              exact ⟨a0, a1⟩
            clear hKq Kq a0 a1
            (try simp only [Act.put, List.setIfInBounds_toArray, List.set_cons_zero, List.set_cons_succ])
            refine wpAnyH_ready (rs := [6]) (by kernel_rfl) (by simp) ?_
            refine rd6 (fun Kq hKq => ?_) ?_
            · go_simp
              obtain ⟨W11, hW11⟩ : ∃ W11, W10.alloc (.cells #[.int .i64 11] 3) = W11 := ⟨_, rfl⟩
              obtain ⟨b6, hb6⟩ : ∃ b6, W10.heap.size = b6 := ⟨_, rfl⟩
              have hg11 : W11.heap.size = b6 + 1 := by rw [← hW11, ← hb6]; simp
              have y11 : BlockAt W11 w1.heap.size #[.int .u8 k, .slice (some ⟨g, 0, none⟩) ws.length cc] 25 := by rw [← hW11]; exact y10.alloc _
              have hB11 : Below w1.heap.size w1 W11 := by rw [← hW11]; exact hB10.alloc hB10.size _
              have own11 : W11.ownsRow b0 3 1 (.slice (some ⟨g1, 0, none⟩) ws.length cap1) ws.length (natCells ws) := by rw [← hW11]; exact World.ownsRow.alloc own10 _
              have n11 : BlockAt W11 b9 #[.int .u8 0, .slice none 0 0] 25 := by rw [← hW11]; exact n10.alloc _
              have e11 : BlockAt W11 b6 #[.int .i64 11] 3 := by rw [← hW11]; exact BlockAt.new_at hb6
              have hk11 : b0 ≤ W11.heap.size := by omega
              have hb6g : b0 ≤ b6 := by omega
              have hne_g1_b6 : g1 ≠ b6 := by omega
              have hl11_g1 : g1 < W11.heap.size := by omega
              have hne_b9_b6 : b9 ≠ b6 := by omega
              have hl11_b9 : b9 < W11.heap.size := by omega
              have hl11_b6 : b6 < W11.heap.size := by omega
              rw [hW11, hb6]
              clear hW11 hb6 hg11
              obtain ⟨a0, a1, _, _⟩ := y11.two
              refine hKq.out _ _ ?_ (fun hHeld => ?_)
              · (try dsimp only)
                exact ⟨a0, a1⟩
              clear hKq Kq a0 a1
              (try simp only [Act.put, List.setIfInBounds_toArray, List.set_cons_zero, List.set_cons_succ])
              refine wpAnyH_ready (rs := [7]) (by kernel_rfl) (by simp) ?_
              refine rd7 (fun Kq hKq => ?_) ?_
              · refine step_append_lies _ rfl (.tmp 36) (.tmp 37) 23 rfl b0 3 i0 (.int .i64 0) 1 8 Tryd.underlying23 hi hi0 hi1 hi2 rfl (by decide) _ ws.length _ rfl own11 ⟨b6, 0, none⟩ 1 1 (natCells [11]) rfl rfl (BlockAt.newCells e11 rfl) (natCells_one _) (by decide) (by unfold maxLen; omega) (by omega) (by omega) _ rfl ?_
                intro g2 cap2 W12 own12 hgr hat hlt
                have hgs := hgr.size
                have hcase : g1 = g2 ∨ g2 = W11.heap.size := by
                  rcases hat with h | h
                  · exact .inl (Option.some.inj h)
                  · exact .inr h
                have kp : ∀ id (cs : Array Value) t, BlockAt W11 id cs t → id ≠ g1 → BlockAt W12 id cs t := fun id cs t h hne => h.kept hgr (fun e => hne (Option.some.inj e))
                have y12 : BlockAt W12 w1.heap.size #[.int .u8 k, .slice (some ⟨g, 0, none⟩) ws.length cc] 25 := kp _ _ _ y11 (by omega)
                have hB12 : Below w1.heap.size w1 W12 := Below.grown hB11 hgr (by omega) (fun j hj => by have := Option.some.inj (show some g1 = some j from hj); omega)
                have n12 : BlockAt W12 b9 #[.int .u8 0, .slice none 0 0] 25 := kp _ _ _ n11 (by omega)
                have hk12 : b0 ≤ W12.heap.size := by omega
                have hg2g : b0 ≤ g2 := by omega
                have hl12_g1 : g1 < W12.heap.size := by omega
                have hne_b9_g2 : b9 ≠ g2 := by omega
                have hl12_b9 : b9 < W12.heap.size := by omega
                have hne_b6_g2 : b6 ≠ g2 := by omega
                have hl12_b6 : b6 < W12.heap.size := by omega
                clear kp hcase hat hgr hgs
                obtain ⟨a0, a1, _, _⟩ := y12.two
                refine hKq.out _ _ ?_ (fun hHeld => ?_)
                · (try dsimp only)
                  exact ⟨a0, a1⟩
                clear hKq Kq a0 a1
                (try simp only [Act.put, List.setIfInBounds_toArray, List.set_cons_zero, List.set_cons_succ])
                refine rt8 (v := ?_) (by kernel_rfl) (by kernel_rfl) (by kernel_rfl) (fun _ _ _ h => h) (by rfl) hHeld ?_ ?_
                rotate_left
                · intro w' hSw
                  (try dsimp only at hSw)
                  go_simp <;> with_reducible rfl
                (try simp only [Act.put, List.setIfInBounds_toArray, List.set_cons_zero, List.set_cons_succ])
                refine wpAnyH_ready (rs := [10]) (by kernel_rfl) (by simp) ?_
                refine rd10 (fun Kq hKq => ?_) ?_
                · obtain ⟨q0, q1, q2, q3⟩ := n12.two
                  go_simp
                  have y9f := (n12.set20 (.int .u8 k)).set21 (.slice (some ⟨g2, 0, none⟩) (ws.length + 1) cap2)
                  have ownf := ownsRow_setCell_other (ownsRow_setCell_other own12 (a := ⟨b9, 0, none⟩) (by intro e; have e2 := Option.some.inj (show some g2 = some b9 from e); omega) (.int .u8 k)) (a := ⟨b9, 1, none⟩) (by intro e; have e2 := Option.some.inj (show some g2 = some b9 from e); omega) (.slice (some ⟨g2, 0, none⟩) (ws.length + 1) cap2)
                  have y13 := (y12.other (B' := b9) (j := 0) (by omega) (.int .u8 k)).other (B' := b9) (j := 1) (by omega) (.slice (some ⟨g2, 0, none⟩) (ws.length + 1) cap2)
                  have hB13 := (hB12.setCell (p := ⟨b9, 0, none⟩) (by show w1.heap.size ≤ b9; omega) (.int .u8 k)).setCell (p := ⟨b9, 1, none⟩) (by show w1.heap.size ≤ b9; omega) (.slice (some ⟨g2, 0, none⟩) (ws.length + 1) cap2)
                  obtain ⟨a0, a1, _, _⟩ := y13.two
                  refine hKq.out _ _ ?_ (fun hHeld => ?_)
                  · (try dsimp only)
                    exact ⟨a0, a1⟩
                  clear hKq Kq a0 a1
                  (try simp only [Act.put, List.setIfInBounds_toArray, List.set_cons_zero, List.set_cons_succ])
                  refine wpAnyH_done (by kernel_rfl) ?_ _
                  refine NoPanic.normal ?_
                  go_wp2_with fail
                  go_meet
                  exact ⟨b9, some ⟨g2, 0, none⟩, cap2, rfl, y9f, NatRow.of_owns (by rw [natCells_append]; exact ownf), y13, hB13⟩
                exact AllReadyH.nil
              exact AllReadyH.nil
            exact AllReadyH.nil
          exact AllReadyH.nil
        refine rd6 (fun Kq hKq => ?_) ?_
        · go_simp
          obtain ⟨W14, hW14⟩ : ∃ W14, W1.alloc (.cells #[.int .i64 11] 3) = W14 := ⟨_, rfl⟩
          obtain ⟨b6, hb6⟩ : ∃ b6, W1.heap.size = b6 := ⟨_, rfl⟩
          have hg14 : W14.heap.size = b6 + 1 := by rw [← hW14, ← hb6]; simp
          have y14 : BlockAt W14 w1.heap.size #[.int .u8 k, .slice (some ⟨g, 0, none⟩) ws.length cc] 25 := by rw [← hW14]; exact y1.alloc _
          have hB14 : Below w1.heap.size w1 W14 := by rw [← hW14]; exact hB1.alloc hB1.size _
          have sr14 : SrcAt W14 g ws := by rw [← hW14]; exact sr1.alloc _
          have own14 : W14.ownsRow b0 3 1 (.slice (some ⟨b2, 0, none⟩) 0 0) 0 [] := by rw [← hW14]; exact World.ownsRow.alloc own1 _
          have e14 : BlockAt W14 b6 #[.int .i64 11] 3 := by rw [← hW14]; exact BlockAt.new_at hb6
          have hk14 : b0 ≤ W14.heap.size := by omega
          have hb6g : b0 ≤ b6 := by omega
          have hne_b2_b6 : b2 ≠ b6 := by omega
          have hl14_b2 : b2 < W14.heap.size := by omega
          have hl14_b6 : b6 < W14.heap.size := by omega
          rw [hW14, hb6]
          clear hW14 hb6 hg14
          obtain ⟨a0, a1, _, _⟩ := y14.two
          refine hKq.out _ _ ?_ (fun hHeld => ?_)
          · (try dsimp only)
            exact ⟨a0, a1⟩
          clear hKq Kq a0 a1
          (try simp only [Act.put, List.setIfInBounds_toArray, List.set_cons_zero, List.set_cons_succ])
          refine wpAnyH_ready (rs := [5, 9]) (by kernel_rfl) (by simp) ?_
          refine rd5 (fun Kq hKq => ?_) ?_
          · refine step_append_lies _ rfl (.tmp 33) (.tmp 35) 23 rfl b0 3 i0 (.int .i64 0) 1 8 Tryd.underlying23 hi hi0 hi1 hi2 rfl (by decide) _ 0 [] rfl own14 ⟨g, 0, none⟩ ws.length cc (natCells ws) rfl (by simp [natCells]) sr14.get (natCells_one _) hwpos (by unfold maxLen; omega) (by omega) (by omega) _ rfl ?_
            intro g1 cap1 W15 own15 hgr hat hlt
            simp only [Nat.zero_add, List.nil_append] at own15
            rw [Nat.zero_add]
            have hgs := hgr.size
            have hcase : b2 = g1 ∨ g1 = W14.heap.size := by
              rcases hat with h | h
              · exact .inl (Option.some.inj h)
              · exact .inr h
            have kp : ∀ id (cs : Array Value) t, BlockAt W14 id cs t → id ≠ b2 → BlockAt W15 id cs t := fun id cs t h hne => h.kept hgr (fun e => hne (Option.some.inj e))
            have y15 : BlockAt W15 w1.heap.size #[.int .u8 k, .slice (some ⟨g, 0, none⟩) ws.length cc] 25 := kp _ _ _ y14 (by omega)
            have hB15 : Below w1.heap.size w1 W15 := Below.grown hB14 hgr (by omega) (fun j hj => by have := Option.some.inj (show some b2 = some j from hj); omega)
            have e15 : BlockAt W15 b6 #[.int .i64 11] 3 := kp _ _ _ e14 (by omega)
            have hk15 : b0 ≤ W15.heap.size := by omega
            have hg1g : b0 ≤ g1 := by omega
            have hl15_b2 : b2 < W15.heap.size := by omega
            have hne_b6_g1 : b6 ≠ g1 := by omega
            have hl15_b6 : b6 < W15.heap.size := by omega
            clear kp hcase hat hgr hgs
            obtain ⟨a0, a1, _, _⟩ := y15.two
            refine hKq.out _ _ ?_ (fun hHeld => ?_)
            · (try dsimp only)
              exact ⟨a0, a1⟩
            clear hKq Kq a0 a1
            (try simp only [Act.put, List.setIfInBounds_toArray, List.set_cons_zero, List.set_cons_succ])
            refine wpAnyH_ready (rs := [7, 9]) (by kernel_rfl) (by simp) ?_
            refine rd7 (fun Kq hKq => ?_) ?_
            · refine step_append_lies _ rfl (.tmp 36) (.tmp 37) 23 rfl b0 3 i0 (.int .i64 0) 1 8 Tryd.underlying23 hi hi0 hi1 hi2 rfl (by decide) _ ws.length _ rfl own15 ⟨b6, 0, none⟩ 1 1 (natCells [11]) rfl rfl (BlockAt.newCells e15 rfl) (natCells_one _) (by decide) (by unfold maxLen; omega) (by omega) (by omega) _ rfl ?_
              intro g2 cap2 W16 own16 hgr hat hlt
              have hgs := hgr.size
              have hcase : g1 = g2 ∨ g2 = W15.heap.size := by
                rcases hat with h | h
                · exact .inl (Option.some.inj h)
                · exact .inr h
              have kp : ∀ id (cs : Array Value) t, BlockAt W15 id cs t → id ≠ g1 → BlockAt W16 id cs t := fun id cs t h hne => h.kept hgr (fun e => hne (Option.some.inj e))
              have y16 : BlockAt W16 w1.heap.size #[.int .u8 k, .slice (some ⟨g, 0, none⟩) ws.length cc] 25 := kp _ _ _ y15 (by omega)
              have hB16 : Below w1.heap.size w1 W16 := Below.grown hB15 hgr (by omega) (fun j hj => by have := Option.some.inj (show some g1 = some j from hj); omega)
              have hk16 : b0 ≤ W16.heap.size := by omega
              have hg2g : b0 ≤ g2 := by omega
              have hne_b6_g2 : b6 ≠ g2 := by omega
              have hl16_b6 : b6 < W16.heap.size := by omega
              have hl16_g1 : g1 < W16.heap.size := by omega
              clear kp hcase hat hgr hgs
              obtain ⟨a0, a1, _, _⟩ := y16.two
              refine hKq.out _ _ ?_ (fun hHeld => ?_)
              · (try dsimp only)
                exact ⟨a0, a1⟩
              clear hKq Kq a0 a1
              (try simp only [Act.put, List.setIfInBounds_toArray, List.set_cons_zero, List.set_cons_succ])
              refine rt8 (v := ?_) (by kernel_rfl) (by kernel_rfl) (by kernel_rfl) (fun _ _ _ h => h) (by rfl) hHeld ?_ ?_
              rotate_left
              · intro w' hSw
                (try dsimp only at hSw)
                go_simp <;> with_reducible rfl
              (try simp only [Act.put, List.setIfInBounds_toArray, List.set_cons_zero, List.set_cons_succ])
              refine wpAnyH_ready (rs := [9]) (by kernel_rfl) (by simp) ?_
              refine rd9 (fun Kq hKq => ?_) ?_
              · go_simp
                obtain ⟨W17, hW17⟩ : ∃ W17, W16.alloc (.cells #[.int .u8 0, .slice none 0 0] 25) = W17 := ⟨_, rfl⟩
                obtain ⟨b9, hb9⟩ : ∃ b9, W16.heap.size = b9 := ⟨_, rfl⟩
                have hg17 : W17.heap.size = b9 + 1 := by rw [← hW17, ← hb9]; simp
                have y17 : BlockAt W17 w1.heap.size #[.int .u8 k, .slice (some ⟨g, 0, none⟩) ws.length cc] 25 := by rw [← hW17]; exact y16.alloc _
                have hB17 : Below w1.heap.size w1 W17 := by rw [← hW17]; exact hB16.alloc hB16.size _
                have own17 : W17.ownsRow b0 3 1 (.slice (some ⟨g2, 0, none⟩) (ws.length + 1) cap2) (ws.length + 1) ((natCells ws) ++ natCells [11]) := by rw [← hW17]; exact World.ownsRow.alloc own16 _
                have n17 : BlockAt W17 b9 #[.int .u8 0, .slice none 0 0] 25 := by rw [← hW17]; exact BlockAt.new_at hb9
                have hk17 : b0 ≤ W17.heap.size := by omega
                have hb9g : b0 ≤ b9 := by omega
                have hne_b6_b9 : b6 ≠ b9 := by omega
                have hl17_b6 : b6 < W17.heap.size := by omega
                have hne_g2_b9 : g2 ≠ b9 := by omega
                have hl17_g2 : g2 < W17.heap.size := by omega
                have hl17_b9 : b9 < W17.heap.size := by omega
                rw [hW17, hb9]
                clear hW17 hb9 hg17
                obtain ⟨a0, a1, _, _⟩ := y17.two
                refine hKq.out _ _ ?_ (fun hHeld => ?_)
                · (try dsimp only)
                  exact ⟨a0, a1⟩
                clear hKq Kq a0 a1
                (try simp only [Act.put, List.setIfInBounds_toArray, List.set_cons_zero, List.set_cons_succ])
                refine wpAnyH_ready (rs := [10]) (by kernel_rfl) (by simp) ?_
                refine rd10 (fun Kq hKq => ?_) ?_
                · obtain ⟨q0, q1, q2, q3⟩ := n17.two
                  go_simp
                  have y9f := (n17.set20 (.int .u8 k)).set21 (.slice (some ⟨g2, 0, none⟩) (ws.length + 1) cap2)
                  have ownf := ownsRow_setCell_other (ownsRow_setCell_other own17 (a := ⟨b9, 0, none⟩) (by intro e; have e2 := Option.some.inj (show some g2 = some b9 from e); omega) (.int .u8 k)) (a := ⟨b9, 1, none⟩) (by intro e; have e2 := Option.some.inj (show some g2 = some b9 from e); omega) (.slice (some ⟨g2, 0, none⟩) (ws.length + 1) cap2)
                  have y18 := (y17.other (B' := b9) (j := 0) (by omega) (.int .u8 k)).other (B' := b9) (j := 1) (by omega) (.slice (some ⟨g2, 0, none⟩) (ws.length + 1) cap2)
                  have hB18 := (hB17.setCell (p := ⟨b9, 0, none⟩) (by show w1.heap.size ≤ b9; omega) (.int .u8 k)).setCell (p := ⟨b9, 1, none⟩) (by show w1.heap.size ≤ b9; omega) (.slice (some ⟨g2, 0, none⟩) (ws.length + 1) cap2)
                  obtain ⟨a0, a1, _, _⟩ := y18.two
                  refine hKq.out _ _ ?_ (fun hHeld => ?_)
                  · (try dsimp only)
                    exact ⟨a0, a1⟩
                  clear hKq Kq a0 a1
                  (try simp only [Act.put, List.setIfInBounds_toArray, List.set_cons_zero, List.set_cons_succ])
                  refine wpAnyH_done (by kernel_rfl) ?_ _
                  refine NoPanic.normal ?_
                  go_wp2_with fail
                  go_meet
                  exact ⟨b9, some ⟨g2, 0, none⟩, cap2, rfl, y9f, NatRow.of_owns (by rw [natCells_append]; exact ownf), y18, hB18⟩
                exact AllReadyH.nil
              exact AllReadyH.nil
            refine rd9 (fun Kq hKq => ?_) ?_
            · go_simp
              obtain ⟨W19, hW19⟩ : ∃ W19, W15.alloc (.cells #[.int .u8 0, .slice none 0 0] 25) = W19 := ⟨_, rfl⟩
              obtain ⟨b9, hb9⟩ : ∃ b9, W15.heap.size = b9 := ⟨_, rfl⟩
              have hg19 : W19.heap.size = b9 + 1 := by rw [← hW19, ← hb9]; simp
              have y19 : BlockAt W19 w1.heap.size #[.int .u8 k, .slice (some ⟨g, 0, none⟩) ws.length cc] 25 := by rw [← hW19]; exact y15.alloc _
              have hB19 : Below w1.heap.size w1 W19 := by rw [← hW19]; exact hB15.alloc hB15.size _
              have own19 : W19.ownsRow b0 3 1 (.slice (some ⟨g1, 0, none⟩) ws.length cap1) ws.length (natCells ws) := by rw [← hW19]; exact World.ownsRow.alloc own15 _
              have e19 : BlockAt W19 b6 #[.int .i64 11] 3 := by rw [← hW19]; exact e15.alloc _
              have n19 : BlockAt W19 b9 #[.int .u8 0, .slice none 0 0] 25 := by rw [← hW19]; exact BlockAt.new_at hb9
              have hk19 : b0 ≤ W19.heap.size := by omega
              have hb9g : b0 ≤ b9 := by omega
              have hne_b6_b9 : b6 ≠ b9 := by omega
              have hl19_b6 : b6 < W19.heap.size := by omega
              have hne_g1_b9 : g1 ≠ b9 := by omega
              have hl19_g1 : g1 < W19.heap.size := by omega
              have hl19_b9 : b9 < W19.heap.size := by omega
              rw [hW19, hb9]
              clear hW19 hb9 hg19
              obtain ⟨a0, a1, _, _⟩ := y19.two
              refine hKq.out _ _ ?_ (fun hHeld => ?_)
              · (try dsimp only)
                exact ⟨a0, a1⟩
              clear hKq Kq a0 a1
              (try simp only [Act.put, List.setIfInBounds_toArray, List.set_cons_zero, List.set_cons_succ])
              refine wpAnyH_ready (rs := [7]) (by kernel_rfl) (by simp) ?_
              refine rd7 (fun Kq hKq => ?_) ?_
              · refine step_append_lies _ rfl (.tmp 36) (.tmp 37) 23 rfl b0 3 i0 (.int .i64 0) 1 8 Tryd.underlying23 hi hi0 hi1 hi2 rfl (by decide) _ ws.length _ rfl own19 ⟨b6, 0, none⟩ 1 1 (natCells [11]) rfl rfl (BlockAt.newCells e19 rfl) (natCells_one _) (by decide) (by unfold maxLen; omega) (by omega) (by omega) _ rfl ?_
                intro g2 cap2 W20 own20 hgr hat hlt
                have hgs := hgr.size
                have hcase : g1 = g2 ∨ g2 = W19.heap.size := by
                  rcases hat with h | h
                  · exact .inl (Option.some.inj h)
                  · exact .inr h
                have kp : ∀ id (cs : Array Value) t, BlockAt W19 id cs t → id ≠ g1 → BlockAt W20 id cs t := fun id cs t h hne => h.kept hgr (fun e => hne (Option.some.inj e))
                have y20 : BlockAt W20 w1.heap.size #[.int .u8 k, .slice (some ⟨g, 0, none⟩) ws.length cc] 25 := kp _ _ _ y19 (by omega)
                have hB20 : Below w1.heap.size w1 W20 := Below.grown hB19 hgr (by omega) (fun j hj => by have := Option.some.inj (show some g1 = some j from hj); omega)
                have n20 : BlockAt W20 b9 #[.int .u8 0, .slice none 0 0] 25 := kp _ _ _ n19 (by omega)
                have hk20 : b0 ≤ W20.heap.size := by omega
                have hg2g : b0 ≤ g2 := by omega
                have hne_b6_g2 : b6 ≠ g2 := by omega
                have hl20_b6 : b6 < W20.heap.size := by omega
                have hl20_g1 : g1 < W20.heap.size := by omega
                have hne_b9_g2 : b9 ≠ g2 := by omega
                have hl20_b9 : b9 < W20.heap.size := by omega
                clear kp hcase hat hgr hgs
                obtain ⟨a0, a1, _, _⟩ := y20.two
                refine hKq.out _ _ ?_ (fun hHeld => ?_)
                · (try dsimp only)
                  exact ⟨a0, a1⟩
                clear hKq Kq a0 a1
                (try simp only [Act.put, List.setIfInBounds_toArray, List.set_cons_zero, List.set_cons_succ])
                refine rt8 (v := ?_) (by kernel_rfl) (by kernel_rfl) (by kernel_rfl) (fun _ _ _ h => h) (by rfl) hHeld ?_ ?_
                rotate_left
                · intro w' hSw
                  (try dsimp only at hSw)
                  go_simp <;> with_reducible rfl
                (try simp only [Act.put, List.setIfInBounds_toArray, List.set_cons_zero, List.set_cons_succ])
                refine wpAnyH_ready (rs := [10]) (by kernel_rfl) (by simp) ?_
                refine rd10 (fun Kq hKq => ?_) ?_
                · obtain ⟨q0, q1, q2, q3⟩ := n20.two
                  go_simp
                  have y9f := (n20.set20 (.int .u8 k)).set21 (.slice (some ⟨g2, 0, none⟩) (ws.length + 1) cap2)
                  have ownf := ownsRow_setCell_other (ownsRow_setCell_other own20 (a := ⟨b9, 0, none⟩) (by intro e; have e2 := Option.some.inj (show some g2 = some b9 from e); omega) (.int .u8 k)) (a := ⟨b9, 1, none⟩) (by intro e; have e2 := Option.some.inj (show some g2 = some b9 from e); omega) (.slice (some ⟨g2, 0, none⟩) (ws.length + 1) cap2)
                  have y21 := (y20.other (B' := b9) (j := 0) (by omega) (.int .u8 k)).other (B' := b9) (j := 1) (by omega) (.slice (some ⟨g2, 0, none⟩) (ws.length + 1) cap2)
                  have hB21 := (hB20.setCell (p := ⟨b9, 0, none⟩) (by show w1.heap.size ≤ b9; omega) (.int .u8 k)).setCell (p := ⟨b9, 1, none⟩) (by show w1.heap.size ≤ b9; omega) (.slice (some ⟨g2, 0, none⟩) (ws.length + 1) cap2)
                  obtain ⟨a0, a1, _, _⟩ := y21.two
                  refine hKq.out _ _ ?_ (fun hHeld => ?_)
                  · (try dsimp only)
                    exact ⟨a0, a1⟩
                  clear hKq Kq a0 a1
                  (try simp only [Act.put, List.setIfInBounds_toArray, List.set_cons_zero, List.set_cons_succ])
                  refine wpAnyH_done (by kernel_rfl) ?_ _
                  refine NoPanic.normal ?_
                  go_wp2_with fail
                  go_meet
                  exact ⟨b9, some ⟨g2, 0, none⟩, cap2, rfl, y9f, NatRow.of_owns (by rw [natCells_append]; exact ownf), y21, hB21⟩
                exact AllReadyH.nil
              exact AllReadyH.nil
            exact AllReadyH.nil
          refine rd9 (fun Kq hKq => ?_) ?_
          · go_simp
            obtain ⟨W22, hW22⟩ : ∃ W22, W14.alloc (.cells #[.int .u8 0, .slice none 0 0] 25) = W22 := ⟨_, rfl⟩
            obtain ⟨b9, hb9⟩ : ∃ b9, W14.heap.size = b9 := ⟨_, rfl⟩
            have hg22 : W22.heap.size = b9 + 1 := by rw [← hW22, ← hb9]; simp
            have y22 : BlockAt W22 w1.heap.size #[.int .u8 k, .slice (some ⟨g, 0, none⟩) ws.length cc] 25 := by rw [← hW22]; exact y14.alloc _
            have hB22 : Below w1.heap.size w1 W22 := by rw [← hW22]; exact hB14.alloc hB14.size _
            have sr22 : SrcAt W22 g ws := by rw [← hW22]; exact sr14.alloc _
            have own22 : W22.ownsRow b0 3 1 (.slice (some ⟨b2, 0, none⟩) 0 0) 0 [] := by rw [← hW22]; exact World.ownsRow.alloc own14 _
            have e22 : BlockAt W22 b6 #[.int .i64 11] 3 := by rw [← hW22]; exact e14.alloc _
            have n22 : BlockAt W22 b9 #[.int .u8 0, .slice none 0 0] 25 := by rw [← hW22]; exact BlockAt.new_at hb9
            have hk22 : b0 ≤ W22.heap.size := by omega
            have hb9g : b0 ≤ b9 := by omega
            have hne_b2_b9 : b2 ≠ b9 := by omega
            have hl22_b2 : b2 < W22.heap.size := by omega
            have hne_b6_b9 : b6 ≠ b9 := by omega
            have hl22_b6 : b6 < W22.heap.size := by omega
            have hl22_b9 : b9 < W22.heap.size := by omega
            rw [hW22, hb9]
            clear hW22 hb9 hg22
            obtain ⟨a0, a1, _, _⟩ := y22.two
            refine hKq.out _ _ ?_ (fun hHeld => ?_)
            · (try dsimp only)
              exact ⟨a0, a1⟩
            clear hKq Kq a0 a1
            (try simp only [Act.put, List.setIfInBounds_toArray, List.set_cons_zero, List.set_cons_succ])
            refine wpAnyH_ready (rs := [5]) (by kernel_rfl) (by simp) ?_
            refine rd5 (fun Kq hKq => ?_) ?_
            · refine step_append_lies _ rfl (.tmp 33) (.tmp 35) 23 rfl b0 3 i0 (.int .i64 0) 1 8 Tryd.underlying23 hi hi0 hi1 hi2 rfl (by decide) _ 0 [] rfl own22 ⟨g, 0, none⟩ ws.length cc (natCells ws) rfl (by simp [natCells]) sr22.get (natCells_one _) hwpos (by unfold maxLen; omega) (by omega) (by omega) _ rfl ?_
              intro g1 cap1 W23 own23 hgr hat hlt
              simp only [Nat.zero_add, List.nil_append] at own23
              rw [Nat.zero_add]
              have hgs := hgr.size
              have hcase : b2 = g1 ∨ g1 = W22.heap.size := by
                rcases hat with h | h
                · exact .inl (Option.some.inj h)
                · exact .inr h
              have kp : ∀ id (cs : Array Value) t, BlockAt W22 id cs t → id ≠ b2 → BlockAt W23 id cs t := fun id cs t h hne => h.kept hgr (fun e => hne (Option.some.inj e))
              have y23 : BlockAt W23 w1.heap.size #[.int .u8 k, .slice (some ⟨g, 0, none⟩) ws.length cc] 25 := kp _ _ _ y22 (by omega)
              have hB23 : Below w1.heap.size w1 W23 := Below.grown hB22 hgr (by omega) (fun j hj => by have := Option.some.inj (show some b2 = some j from hj); omega)
              have e23 : BlockAt W23 b6 #[.int .i64 11] 3 := kp _ _ _ e22 (by omega)
              have n23 : BlockAt W23 b9 #[.int .u8 0, .slice none 0 0] 25 := kp _ _ _ n22 (by omega)
              have hk23 : b0 ≤ W23.heap.size := by omega
              have hg1g : b0 ≤ g1 := by omega
              have hl23_b2 : b2 < W23.heap.size := by omega
              have hne_b6_g1 : b6 ≠ g1 := by omega
              have hl23_b6 : b6 < W23.heap.size := by omega
              have hne_b9_g1 : b9 ≠ g1 := by omega
              have hl23_b9 : b9 < W23.heap.size := by omega
              clear kp hcase hat hgr hgs
              obtain ⟨a0, a1, _, _⟩ := y23.two
              refine hKq.out _ _ ?_ (fun hHeld => ?_)
              · (try dsimp only)
                exact ⟨a0, a1⟩
              clear hKq Kq a0 a1
              (try simp only [Act.put, List.setIfInBounds_toArray, List.set_cons_zero, List.set_cons_succ])
              refine wpAnyH_ready (rs := [7]) (by kernel_rfl) (by simp) ?_
              refine rd7 (fun Kq hKq => ?_) ?_
              · refine step_append_lies _ rfl (.tmp 36) (.tmp 37) 23 rfl b0 3 i0 (.int .i64 0) 1 8 Tryd.underlying23 hi hi0 hi1 hi2 rfl (by decide) _ ws.length _ rfl own23 ⟨b6, 0, none⟩ 1 1 (natCells [11]) rfl rfl (BlockAt.newCells e23 rfl) (natCells_one _) (by decide) (by unfold maxLen; omega) (by omega) (by omega) _ rfl ?_
                intro g2 cap2 W24 own24 hgr hat hlt
                have hgs := hgr.size
                have hcase : g1 = g2 ∨ g2 = W23.heap.size := by
                  rcases hat with h | h
                  · exact .inl (Option.some.inj h)
                  · exact .inr h
                have kp : ∀ id (cs : Array Value) t, BlockAt W23 id cs t → id ≠ g1 → BlockAt W24 id cs t := fun id cs t h hne => h.kept hgr (fun e => hne (Option.some.inj e))
                have y24 : BlockAt W24 w1.heap.size #[.int .u8 k, .slice (some ⟨g, 0, none⟩) ws.length cc] 25 := kp _ _ _ y23 (by omega)
                have hB24 : Below w1.heap.size w1 W24 := Below.grown hB23 hgr (by omega) (fun j hj => by have := Option.some.inj (show some g1 = some j from hj); omega)
                have n24 : BlockAt W24 b9 #[.int .u8 0, .slice none 0 0] 25 := kp _ _ _ n23 (by omega)
                have hk24 : b0 ≤ W24.heap.size := by omega
                have hg2g : b0 ≤ g2 := by omega
                have hne_b6_g2 : b6 ≠ g2 := by omega
                have hl24_b6 : b6 < W24.heap.size := by omega
                have hne_b9_g2 : b9 ≠ g2 := by omega
                have hl24_b9 : b9 < W24.heap.size := by omega
                have hl24_g1 : g1 < W24.heap.size := by omega
                clear kp hcase hat hgr hgs
                obtain ⟨a0, a1, _, _⟩ := y24.two
                refine hKq.out _ _ ?_ (fun hHeld => ?_)
                · (try dsimp only)
                  exact ⟨a0, a1⟩
                clear hKq Kq a0 a1
                (try simp only [Act.put, List.setIfInBounds_toArray, List.set_cons_zero, List.set_cons_succ])
                refine rt8 (v := ?_) (by kernel_rfl) (by kernel_rfl) (by kernel_rfl) (fun _ _ _ h => h) (by rfl) hHeld ?_ ?_
                rotate_left
                · intro w' hSw
                  (try dsimp only at hSw)
                  go_simp <;> with_reducible rfl
                (try simp only [Act.put, List.setIfInBounds_toArray, List.set_cons_zero, List.set_cons_succ])
                refine wpAnyH_ready (rs := [10]) (by kernel_rfl) (by simp) ?_
                refine rd10 (fun Kq hKq => ?_) ?_
                · obtain ⟨q0, q1, q2, q3⟩ := n24.two
                  go_simp
                  have y9f := (n24.set20 (.int .u8 k)).set21 (.slice (some ⟨g2, 0, none⟩) (ws.length + 1) cap2)
                  have ownf := ownsRow_setCell_other (ownsRow_setCell_other own24 (a := ⟨b9, 0, none⟩) (by intro e; have e2 := Option.some.inj (show some g2 = some b9 from e); omega) (.int .u8 k)) (a := ⟨b9, 1, none⟩) (by intro e; have e2 := Option.some.inj (show some g2 = some b9 from e); omega) (.slice (some ⟨g2, 0, none⟩) (ws.length + 1) cap2)
                  have y25 := (y24.other (B' := b9) (j := 0) (by omega) (.int .u8 k)).other (B' := b9) (j := 1) (by omega) (.slice (some ⟨g2, 0, none⟩) (ws.length + 1) cap2)
                  have hB25 := (hB24.setCell (p := ⟨b9, 0, none⟩) (by show w1.heap.size ≤ b9; omega) (.int .u8 k)).setCell (p := ⟨b9, 1, none⟩) (by show w1.heap.size ≤ b9; omega) (.slice (some ⟨g2, 0, none⟩) (ws.length + 1) cap2)
                  obtain ⟨a0, a1, _, _⟩ := y25.two
                  refine hKq.out _ _ ?_ (fun hHeld => ?_)
                  · (try dsimp only)
                    exact ⟨a0, a1⟩
                  clear hKq Kq a0 a1
                  (try simp only [Act.put, List.setIfInBounds_toArray, List.set_cons_zero, List.set_cons_succ])
                  refine wpAnyH_done (by kernel_rfl) ?_ _
                  refine NoPanic.normal ?_
                  go_wp2_with fail
                  go_meet
                  exact ⟨b9, some ⟨g2, 0, none⟩, cap2, rfl, y9f, NatRow.of_owns (by rw [natCells_append]; exact ownf), y25, hB25⟩
                exact AllReadyH.nil
              exact AllReadyH.nil
            exact AllReadyH.nil
          exact AllReadyH.nil
        refine rd9 (fun Kq hKq => ?_) ?_
        · go_simp
          obtain ⟨W26, hW26⟩ : ∃ W26, W1.alloc (.cells #[.int .u8 0, .slice none 0 0] 25) = W26 := ⟨_, rfl⟩
          obtain ⟨b9, hb9⟩ : ∃ b9, W1.heap.size = b9 := ⟨_, rfl⟩
          have hg26 : W26.heap.size = b9 + 1 := by rw [← hW26, ← hb9]; simp
          have y26 : BlockAt W26 w1.heap.size #[.int .u8 k, .slice (some ⟨g, 0, none⟩) ws.length cc] 25 := by rw [← hW26]; exact y1.alloc _
          have hB26 : Below w1.heap.size w1 W26 := by rw [← hW26]; exact hB1.alloc hB1.size _
          have sr26 : SrcAt W26 g ws := by rw [← hW26]; exact sr1.alloc _
          have own26 : W26.ownsRow b0 3 1 (.slice (some ⟨b2, 0, none⟩) 0 0) 0 [] := by rw [← hW26]; exact World.ownsRow.alloc own1 _
          have n26 : BlockAt W26 b9 #[.int .u8 0, .slice none 0 0] 25 := by rw [← hW26]; exact BlockAt.new_at hb9
          have hk26 : b0 ≤ W26.heap.size := by omega
          have hb9g : b0 ≤ b9 := by omega
          have hne_b2_b9 : b2 ≠ b9 := by omega
          have hl26_b2 : b2 < W26.heap.size := by omega
          have hl26_b9 : b9 < W26.heap.size := by omega
          rw [hW26, hb9]
          clear hW26 hb9 hg26
          obtain ⟨a0, a1, _, _⟩ := y26.two
          refine hKq.out _ _ ?_ (fun hHeld => ?_)
          · (try dsimp only)
            exact ⟨a0, a1⟩
          clear hKq Kq a0 a1
          (try simp only [Act.put, List.setIfInBounds_toArray, List.set_cons_zero, List.set_cons_succ])
          refine wpAnyH_ready (rs := [5, 6]) (by kernel_rfl) (by simp) ?_
          refine rd5 (fun Kq hKq => ?_) ?_
          · refine step_append_lies _ rfl (.tmp 33) (.tmp 35) 23 rfl b0 3 i0 (.int .i64 0) 1 8 Tryd.underlying23 hi hi0 hi1 hi2 rfl (by decide) _ 0 [] rfl own26 ⟨g, 0, none⟩ ws.length cc (natCells ws) rfl (by simp [natCells]) sr26.get (natCells_one _) hwpos (by unfold maxLen; omega) (by omega) (by omega) _ rfl ?_
            intro g1 cap1 W27 own27 hgr hat hlt
            simp only [Nat.zero_add, List.nil_append] at own27
            rw [Nat.zero_add]
            have hgs := hgr.size
            have hcase : b2 = g1 ∨ g1 = W26.heap.size := by
              rcases hat with h | h
              · exact .inl (Option.some.inj h)
              · exact .inr h
            have kp : ∀ id (cs : Array Value) t, BlockAt W26 id cs t → id ≠ b2 → BlockAt W27 id cs t := fun id cs t h hne => h.kept hgr (fun e => hne (Option.some.inj e))
            have y27 : BlockAt W27 w1.heap.size #[.int .u8 k, .slice (some ⟨g, 0, none⟩) ws.length cc] 25 := kp _ _ _ y26 (by omega)
            have hB27 : Below w1.heap.size w1 W27 := Below.grown hB26 hgr (by omega) (fun j hj => by have := Option.some.inj (show some b2 = some j from hj); omega)
            have n27 : BlockAt W27 b9 #[.int .u8 0, .slice none 0 0] 25 := kp _ _ _ n26 (by omega)
            have hk27 : b0 ≤ W27.heap.size := by omega
            have hg1g : b0 ≤ g1 := by omega
            have hl27_b2 : b2 < W27.heap.size := by omega
            have hne_b9_g1 : b9 ≠ g1 := by omega
            have hl27_b9 : b9 < W27.heap.size := by omega
            clear kp hcase hat hgr hgs
            obtain ⟨a0, a1, _, _⟩ := y27.two
            refine hKq.out _ _ ?_ (fun hHeld => ?_)
            · (try dsimp only)
              exact ⟨a0, a1⟩
            clear hKq Kq a0 a1
            (try simp only [Act.put, List.setIfInBounds_toArray, List.set_cons_zero, List.set_cons_succ])
            refine wpAnyH_ready (rs := [6]) (by kernel_rfl) (by simp) ?_
            refine rd6 (fun Kq hKq => ?_) ?_
            · go_simp
              obtain ⟨W28, hW28⟩ : ∃ W28, W27.alloc (.cells #[.int .i64 11] 3) = W28 := ⟨_, rfl⟩
              obtain ⟨b6, hb6⟩ : ∃ b6, W27.heap.size = b6 := ⟨_, rfl⟩
              have hg28 : W28.heap.size = b6 + 1 := by rw [← hW28, ← hb6]; simp
              have y28 : BlockAt W28 w1.heap.size #[.int .u8 k, .slice (some ⟨g, 0, none⟩) ws.length cc] 25 := by rw [← hW28]; exact y27.alloc _
              have hB28 : Below w1.heap.size w1 W28 := by rw [← hW28]; exact hB27.alloc hB27.size _
              have own28 : W28.ownsRow b0 3 1 (.slice (some ⟨g1, 0, none⟩) ws.length cap1) ws.length (natCells ws) := by rw [← hW28]; exact World.ownsRow.alloc own27 _
              have n28 : BlockAt W28 b9 #[.int .u8 0, .slice none 0 0] 25 := by rw [← hW28]; exact n27.alloc _
              have e28 : BlockAt W28 b6 #[.int .i64 11] 3 := by rw [← hW28]; exact BlockAt.new_at hb6
              have hk28 : b0 ≤ W28.heap.size := by omega
              have hb6g : b0 ≤ b6 := by omega
              have hne_b9_b6 : b9 ≠ b6 := by omega
              have hl28_b9 : b9 < W28.heap.size := by omega
              have hne_g1_b6 : g1 ≠ b6 := by omega
              have hl28_g1 : g1 < W28.heap.size := by omega
              have hl28_b6 : b6 < W28.heap.size := by omega
              rw [hW28, hb6]
              clear hW28 hb6 hg28
              obtain ⟨a0, a1, _, _⟩ := y28.two
              refine hKq.out _ _ ?_ (fun hHeld => ?_)
              · (try dsimp only)
                exact ⟨a0, a1⟩
              clear hKq Kq a0 a1
              (try simp only [Act.put, List.setIfInBounds_toArray, List.set_cons_zero, List.set_cons_succ])
              refine wpAnyH_ready (rs := [7]) (by kernel_rfl) (by simp) ?_
              refine rd7 (fun Kq hKq => ?_) ?_
              · refine step_append_lies _ rfl (.tmp 36) (.tmp 37) 23 rfl b0 3 i0 (.int .i64 0) 1 8 Tryd.underlying23 hi hi0 hi1 hi2 rfl (by decide) _ ws.length _ rfl own28 ⟨b6, 0, none⟩ 1 1 (natCells [11]) rfl rfl (BlockAt.newCells e28 rfl) (natCells_one _) (by decide) (by unfold maxLen; omega) (by omega) (by omega) _ rfl ?_
                intro g2 cap2 W29 own29 hgr hat hlt
                have hgs := hgr.size
                have hcase : g1 = g2 ∨ g2 = W28.heap.size := by
                  rcases hat with h | h
                  · exact .inl (Option.some.inj h)
                  · exact .inr h
                have kp : ∀ id (cs : Array Value) t, BlockAt W28 id cs t → id ≠ g1 → BlockAt W29 id cs t := fun id cs t h hne => h.kept hgr (fun e => hne (Option.some.inj e))
                have y29 : BlockAt W29 w1.heap.size #[.int .u8 k, .slice (some ⟨g, 0, none⟩) ws.length cc] 25 := kp _ _ _ y28 (by omega)
                have hB29 : Below w1.heap.size w1 W29 := Below.grown hB28 hgr (by omega) (fun j hj => by have := Option.some.inj (show some g1 = some j from hj); omega)
                have n29 : BlockAt W29 b9 #[.int .u8 0, .slice none 0 0] 25 := kp _ _ _ n28 (by omega)
                have hk29 : b0 ≤ W29.heap.size := by omega
                have hg2g : b0 ≤ g2 := by omega
                have hne_b9_g2 : b9 ≠ g2 := by omega
                have hl29_b9 : b9 < W29.heap.size := by omega
                have hl29_g1 : g1 < W29.heap.size := by omega
                have hne_b6_g2 : b6 ≠ g2 := by omega
                have hl29_b6 : b6 < W29.heap.size := by omega
                clear kp hcase hat hgr hgs
                obtain ⟨a0, a1, _, _⟩ := y29.two
                refine hKq.out _ _ ?_ (fun hHeld => ?_)
                · (try dsimp only)
                  exact ⟨a0, a1⟩
                clear hKq Kq a0 a1
                (try simp only [Act.put, List.setIfInBounds_toArray, List.set_cons_zero, List.set_cons_succ])
                refine rt8 (v := ?_) (by kernel_rfl) (by kernel_rfl) (by kernel_rfl) (fun _ _ _ h => h) (by rfl) hHeld ?_ ?_
                rotate_left
                · intro w' hSw
                  (try dsimp only at hSw)
                  go_simp <;> with_reducible rfl
                (try simp only [Act.put, List.setIfInBounds_toArray, List.set_cons_zero, List.set_cons_succ])
                refine wpAnyH_ready (rs := [10]) (by kernel_rfl) (by simp) ?_
                refine rd10 (fun Kq hKq => ?_) ?_
                · obtain ⟨q0, q1, q2, q3⟩ := n29.two
                  go_simp
                  have y9f := (n29.set20 (.int .u8 k)).set21 (.slice (some ⟨g2, 0, none⟩) (ws.length + 1) cap2)
                  have ownf := ownsRow_setCell_other (ownsRow_setCell_other own29 (a := ⟨b9, 0, none⟩) (by intro e; have e2 := Option.some.inj (show some g2 = some b9 from e); omega) (.int .u8 k)) (a := ⟨b9, 1, none⟩) (by intro e; have e2 := Option.some.inj (show some g2 = some b9 from e); omega) (.slice (some ⟨g2, 0, none⟩) (ws.length + 1) cap2)
                  have y30 := (y29.other (B' := b9) (j := 0) (by omega) (.int .u8 k)).other (B' := b9) (j := 1) (by omega) (.slice (some ⟨g2, 0, none⟩) (ws.length + 1) cap2)
                  have hB30 := (hB29.setCell (p := ⟨b9, 0, none⟩) (by show w1.heap.size ≤ b9; omega) (.int .u8 k)).setCell (p := ⟨b9, 1, none⟩) (by show w1.heap.size ≤ b9; omega) (.slice (some ⟨g2, 0, none⟩) (ws.length + 1) cap2)
                  obtain ⟨a0, a1, _, _⟩ := y30.two
                  refine hKq.out _ _ ?_ (fun hHeld => ?_)
                  · (try dsimp only)
                    exact ⟨a0, a1⟩
                  clear hKq Kq a0 a1
                  (try simp only [Act.put, List.setIfInBounds_toArray, List.set_cons_zero, List.set_cons_succ])
                  refine wpAnyH_done (by kernel_rfl) ?_ _
                  refine NoPanic.normal ?_
                  go_wp2_with fail
                  go_meet
                  exact ⟨b9, some ⟨g2, 0, none⟩, cap2, rfl, y9f, NatRow.of_owns (by rw [natCells_append]; exact ownf), y30, hB30⟩
                exact AllReadyH.nil
              exact AllReadyH.nil
            exact AllReadyH.nil
          refine rd6 (fun Kq hKq => ?_) ?_
          · go_simp
            obtain ⟨W31, hW31⟩ : ∃ W31, W26.alloc (.cells #[.int .i64 11] 3) = W31 := ⟨_, rfl⟩
            obtain ⟨b6, hb6⟩ : ∃ b6, W26.heap.size = b6 := ⟨_, rfl⟩
            have hg31 : W31.heap.size = b6 + 1 := by rw [← hW31, ← hb6]; simp
            have y31 : BlockAt W31 w1.heap.size #[.int .u8 k, .slice (some ⟨g, 0, none⟩) ws.length cc] 25 := by rw [← hW31]; exact y26.alloc _
            have hB31 : Below w1.heap.size w1 W31 := by rw [← hW31]; exact hB26.alloc hB26.size _
            have sr31 : SrcAt W31 g ws := by rw [← hW31]; exact sr26.alloc _
            have own31 : W31.ownsRow b0 3 1 (.slice (some ⟨b2, 0, none⟩) 0 0) 0 [] := by rw [← hW31]; exact World.ownsRow.alloc own26 _
            have n31 : BlockAt W31 b9 #[.int .u8 0, .slice none 0 0] 25 := by rw [← hW31]; exact n26.alloc _
            have e31 : BlockAt W31 b6 #[.int .i64 11] 3 := by rw [← hW31]; exact BlockAt.new_at hb6
            have hk31 : b0 ≤ W31.heap.size := by omega
            have hb6g : b0 ≤ b6 := by omega
            have hne_b2_b6 : b2 ≠ b6 := by omega
            have hl31_b2 : b2 < W31.heap.size := by omega
            have hne_b9_b6 : b9 ≠ b6 := by omega
            have hl31_b9 : b9 < W31.heap.size := by omega
            have hl31_b6 : b6 < W31.heap.size := by omega
            rw [hW31, hb6]
            clear hW31 hb6 hg31
            obtain ⟨a0, a1, _, _⟩ := y31.two
            refine hKq.out _ _ ?_ (fun hHeld => ?_)
            · (try dsimp only)
              exact ⟨a0, a1⟩
            clear hKq Kq a0 a1
            (try simp only [Act.put, List.setIfInBounds_toArray, List.set_cons_zero, List.set_cons_succ])
            refine wpAnyH_ready (rs := [5]) (by kernel_rfl) (by simp) ?_
            refine rd5 (fun Kq hKq => ?_) ?_
            · refine step_append_lies _ rfl (.tmp 33) (.tmp 35) 23 rfl b0 3 i0 (.int .i64 0) 1 8 Tryd.underlying23 hi hi0 hi1 hi2 rfl (by decide) _ 0 [] rfl own31 ⟨g, 0, none⟩ ws.length cc (natCells ws) rfl (by simp [natCells]) sr31.get (natCells_one _) hwpos (by unfold maxLen; omega) (by omega) (by omega) _ rfl ?_
              intro g1 cap1 W32 own32 hgr hat hlt
              simp only [Nat.zero_add, List.nil_append] at own32
              rw [Nat.zero_add]
              have hgs := hgr.size
              have hcase : b2 = g1 ∨ g1 = W31.heap.size := by
                rcases hat with h | h
                · exact .inl (Option.some.inj h)
                · exact .inr h
              have kp : ∀ id (cs : Array Value) t, BlockAt W31 id cs t → id ≠ b2 → BlockAt W32 id cs t := fun id cs t h hne => h.kept hgr (fun e => hne (Option.some.inj e))
              have y32 : BlockAt W32 w1.heap.size #[.int .u8 k, .slice (some ⟨g, 0, none⟩) ws.length cc] 25 := kp _ _ _ y31 (by omega)
              have hB32 : Below w1.heap.size w1 W32 := Below.grown hB31 hgr (by omega) (fun j hj => by have := Option.some.inj (show some b2 = some j from hj); omega)
              have e32 : BlockAt W32 b6 #[.int .i64 11] 3 := kp _ _ _ e31 (by omega)
              have n32 : BlockAt W32 b9 #[.int .u8 0, .slice none 0 0] 25 := kp _ _ _ n31 (by omega)
              have hk32 : b0 ≤ W32.heap.size := by omega
              have hg1g : b0 ≤ g1 := by omega
              have hl32_b2 : b2 < W32.heap.size := by omega
              have hne_b9_g1 : b9 ≠ g1 := by omega
              have hl32_b9 : b9 < W32.heap.size := by omega
              have hne_b6_g1 : b6 ≠ g1 := by omega
              have hl32_b6 : b6 < W32.heap.size := by omega
              clear kp hcase hat hgr hgs
              obtain ⟨a0, a1, _, _⟩ := y32.two
              refine hKq.out _ _ ?_ (fun hHeld => ?_)
              · (try dsimp only)
                exact ⟨a0, a1⟩
              clear hKq Kq a0 a1
              (try simp only [Act.put, List.setIfInBounds_toArray, List.set_cons_zero, List.set_cons_succ])
              refine wpAnyH_ready (rs := [7]) (by kernel_rfl) (by simp) ?_
              refine rd7 (fun Kq hKq => ?_) ?_
              · refine step_append_lies _ rfl (.tmp 36) (.tmp 37) 23 rfl b0 3 i0 (.int .i64 0) 1 8 Tryd.underlying23 hi hi0 hi1 hi2 rfl (by decide) _ ws.length _ rfl own32 ⟨b6, 0, none⟩ 1 1 (natCells [11]) rfl rfl (BlockAt.newCells e32 rfl) (natCells_one _) (by decide) (by unfold maxLen; omega) (by omega) (by omega) _ rfl ?_
                intro g2 cap2 W33 own33 hgr hat hlt
                have hgs := hgr.size
                have hcase : g1 = g2 ∨ g2 = W32.heap.size := by
                  rcases hat with h | h
                  · exact .inl (Option.some.inj h)
                  · exact .inr h
                have kp : ∀ id (cs : Array Value) t, BlockAt W32 id cs t → id ≠ g1 → BlockAt W33 id cs t := fun id cs t h hne => h.kept hgr (fun e => hne (Option.some.inj e))
                have y33 : BlockAt W33 w1.heap.size #[.int .u8 k, .slice (some ⟨g, 0, none⟩) ws.length cc] 25 := kp _ _ _ y32 (by omega)
                have hB33 : Below w1.heap.size w1 W33 := Below.grown hB32 hgr (by omega) (fun j hj => by have := Option.some.inj (show some g1 = some j from hj); omega)
                have n33 : BlockAt W33 b9 #[.int .u8 0, .slice none 0 0] 25 := kp _ _ _ n32 (by omega)
                have hk33 : b0 ≤ W33.heap.size := by omega
                have hg2g : b0 ≤ g2 := by omega
                have hne_b9_g2 : b9 ≠ g2 := by omega
                have hl33_b9 : b9 < W33.heap.size := by omega
                have hne_b6_g2 : b6 ≠ g2 := by omega
                have hl33_b6 : b6 < W33.heap.size := by omega
                have hl33_g1 : g1 < W33.heap.size := by omega
                clear kp hcase hat hgr hgs
                obtain ⟨a0, a1, _, _⟩ := y33.two
                refine hKq.out _ _ ?_ (fun hHeld => ?_)
                · (try dsimp only)
                  exact ⟨a0, a1⟩
                clear hKq Kq a0 a1
                (try simp only [Act.put, List.setIfInBounds_toArray, List.set_cons_zero, List.set_cons_succ])
                refine rt8 (v := ?_) (by kernel_rfl) (by kernel_rfl) (by kernel_rfl) (fun _ _ _ h => h) (by rfl) hHeld ?_ ?_
                rotate_left
                · intro w' hSw
                  (try dsimp only at hSw)
                  go_simp <;> with_reducible rfl
                (try simp only [Act.put, List.setIfInBounds_toArray, List.set_cons_zero, List.set_cons_succ])
                refine wpAnyH_ready (rs := [10]) (by kernel_rfl) (by simp) ?_
                refine rd10 (fun Kq hKq => ?_) ?_
                · obtain ⟨q0, q1, q2, q3⟩ := n33.two
                  go_simp
                  have y9f := (n33.set20 (.int .u8 k)).set21 (.slice (some ⟨g2, 0, none⟩) (ws.length + 1) cap2)
                  have ownf := ownsRow_setCell_other (ownsRow_setCell_other own33 (a := ⟨b9, 0, none⟩) (by intro e; have e2 := Option.some.inj (show some g2 = some b9 from e); omega) (.int .u8 k)) (a := ⟨b9, 1, none⟩) (by intro e; have e2 := Option.some.inj (show some g2 = some b9 from e); omega) (.slice (some ⟨g2, 0, none⟩) (ws.length + 1) cap2)
                  have y34 := (y33.other (B' := b9) (j := 0) (by omega) (.int .u8 k)).other (B' := b9) (j := 1) (by omega) (.slice (some ⟨g2, 0, none⟩) (ws.length + 1) cap2)
                  have hB34 := (hB33.setCell (p := ⟨b9, 0, none⟩) (by show w1.heap.size ≤ b9; omega) (.int .u8 k)).setCell (p := ⟨b9, 1, none⟩) (by show w1.heap.size ≤ b9; omega) (.slice (some ⟨g2, 0, none⟩) (ws.length + 1) cap2)
                  obtain ⟨a0, a1, _, _⟩ := y34.two
                  refine hKq.out _ _ ?_ (fun hHeld => ?_)
                  · (try dsimp only)
                    exact ⟨a0, a1⟩
                  clear hKq Kq a0 a1
                  (try simp only [Act.put, List.setIfInBounds_toArray, List.set_cons_zero, List.set_cons_succ])
                  refine wpAnyH_done (by kernel_rfl) ?_ _
                  refine NoPanic.normal ?_
                  go_wp2_with fail
                  go_meet
                  exact ⟨b9, some ⟨g2, 0, none⟩, cap2, rfl, y9f, NatRow.of_owns (by rw [natCells_append]; exact ownf), y34, hB34⟩
                exact AllReadyH.nil
              exact AllReadyH.nil
            exact AllReadyH.nil
          exact AllReadyH.nil
        exact AllReadyH.nil
      refine rd6 (fun Kq hKq => ?_) ?_
      · go_simp
        obtain ⟨W35, hW35⟩ : ∃ W35, W0.alloc (.cells #[.int .i64 11] 3) = W35 := ⟨_, rfl⟩
        obtain ⟨b6, hb6⟩ : ∃ b6, W0.heap.size = b6 := ⟨_, rfl⟩
        have hg35 : W35.heap.size = b6 + 1 := by rw [← hW35, ← hb6]; simp
        have y35 : BlockAt W35 w1.heap.size #[.int .u8 k, .slice (some ⟨g, 0, none⟩) ws.length cc] 25 := by rw [← hW35]; exact y0.alloc _
        have hB35 : Below w1.heap.size w1 W35 := by rw [← hW35]; exact hB0.alloc hB0.size _
        have sr35 : SrcAt W35 g ws := by rw [← hW35]; exact sr0.alloc _
        have e35 : BlockAt W35 b6 #[.int .i64 11] 3 := by rw [← hW35]; exact BlockAt.new_at hb6
        have hk35 : b0 ≤ W35.heap.size := by omega
        have hb6g : b0 ≤ b6 := by omega
        have hl35_b6 : b6 < W35.heap.size := by omega
        rw [hW35, hb6]
        clear hW35 hb6 hg35
        obtain ⟨a0, a1, _, _⟩ := y35.two
        refine hKq.out _ _ ?_ (fun hHeld => ?_)
        · (try dsimp only)
          exact ⟨a0, a1⟩
        clear hKq Kq a0 a1
        (try simp only [Act.put, List.setIfInBounds_toArray, List.set_cons_zero, List.set_cons_succ])
        refine wpAnyH_ready (rs := [2, 9]) (by kernel_rfl) (by simp) ?_
        refine rd2 (fun Kq hKq => ?_) ?_
        · go_simp
          obtain ⟨W36, hW36⟩ : ∃ W36, W35.alloc (.cells #[] 3) = W36 := ⟨_, rfl⟩
          obtain ⟨b2, hb2⟩ : ∃ b2, W35.heap.size = b2 := ⟨_, rfl⟩
          have hg36 : W36.heap.size = b2 + 1 := by rw [← hW36, ← hb2]; simp
          have y36 : BlockAt W36 w1.heap.size #[.int .u8 k, .slice (some ⟨g, 0, none⟩) ws.length cc] 25 := by rw [← hW36]; exact y35.alloc _
          have hB36 : Below w1.heap.size w1 W36 := by rw [← hW36]; exact hB35.alloc hB35.size _
          have sr36 : SrcAt W36 g ws := by rw [← hW36]; exact sr35.alloc _
          have e36 : BlockAt W36 b6 #[.int .i64 11] 3 := by rw [← hW36]; exact e35.alloc _
          have own36 : W36.ownsRow b0 3 1 (.slice (some ⟨b2, 0, none⟩) 0 0) 0 [] := by rw [← hW36]; exact own_empty hb2 (by omega)
          have hk36 : b0 ≤ W36.heap.size := by omega
          have hb2g : b0 ≤ b2 := by omega
          have hne_b6_b2 : b6 ≠ b2 := by omega
          have hl36_b6 : b6 < W36.heap.size := by omega
          have hl36_b2 : b2 < W36.heap.size := by omega
          rw [hW36, hb2]
          clear hW36 hb2 hg36
          obtain ⟨a0, a1, _, _⟩ := y36.two
          refine hKq.out _ _ ?_ (fun hHeld => ?_)
          · (try dsimp only)
            exact ⟨a0, a1⟩
          clear hKq Kq a0 a1
          (try simp only [Act.put, List.setIfInBounds_toArray, List.set_cons_zero, List.set_cons_succ])
          refine wpAnyH_ready (rs := [5, 9]) (by kernel_rfl) (by simp) ?_
          refine rd5 (fun Kq hKq => ?_) ?_
          · refine step_append_lies _ rfl (.tmp 33) (.tmp 35) 23 rfl b0 3 i0 (.int .i64 0) 1 8 Tryd.underlying23 hi hi0 hi1 hi2 rfl (by decide) _ 0 [] rfl own36 ⟨g, 0, none⟩ ws.length cc (natCells ws) rfl (by simp [natCells]) sr36.get (natCells_one _) hwpos (by unfold maxLen; omega) (by omega) (by omega) _ rfl ?_
            intro g1 cap1 W37 own37 hgr hat hlt
            simp only [Nat.zero_add, List.nil_append] at own37
            rw [Nat.zero_add]
            have hgs := hgr.size
            have hcase : b2 = g1 ∨ g1 = W36.heap.size := by
              rcases hat with h | h
              · exact .inl (Option.some.inj h)
              · exact .inr h
            have kp : ∀ id (cs : Array Value) t, BlockAt W36 id cs t → id ≠ b2 → BlockAt W37 id cs t := fun id cs t h hne => h.kept hgr (fun e => hne (Option.some.inj e))
            have y37 : BlockAt W37 w1.heap.size #[.int .u8 k, .slice (some ⟨g, 0, none⟩) ws.length cc] 25 := kp _ _ _ y36 (by omega)
            have hB37 : Below w1.heap.size w1 W37 := Below.grown hB36 hgr (by omega) (fun j hj => by have := Option.some.inj (show some b2 = some j from hj); omega)
            have e37 : BlockAt W37 b6 #[.int .i64 11] 3 := kp _ _ _ e36 (by omega)
            have hk37 : b0 ≤ W37.heap.size := by omega
            have hg1g : b0 ≤ g1 := by omega
            have hne_b6_g1 : b6 ≠ g1 := by omega
            have hl37_b6 : b6 < W37.heap.size := by omega
            have hl37_b2 : b2 < W37.heap.size := by omega
            clear kp hcase hat hgr hgs
            obtain ⟨a0, a1, _, _⟩ := y37.two
            refine hKq.out _ _ ?_ (fun hHeld => ?_)
            · (try dsimp only)
              exact ⟨a0, a1⟩
            clear hKq Kq a0 a1
            (try simp only [Act.put, List.setIfInBounds_toArray, List.set_cons_zero, List.set_cons_succ])
            refine wpAnyH_ready (rs := [7, 9]) (by kernel_rfl) (by simp) ?_
            refine rd7 (fun Kq hKq => ?_) ?_
            · refine step_append_lies _ rfl (.tmp 36) (.tmp 37) 23 rfl b0 3 i0 (.int .i64 0) 1 8 Tryd.underlying23 hi hi0 hi1 hi2 rfl (by decide) _ ws.length _ rfl own37 ⟨b6, 0, none⟩ 1 1 (natCells [11]) rfl rfl (BlockAt.newCells e37 rfl) (natCells_one _) (by decide) (by unfold maxLen; omega) (by omega) (by omega) _ rfl ?_
              intro g2 cap2 W38 own38 hgr hat hlt
              have hgs := hgr.size
              have hcase : g1 = g2 ∨ g2 = W37.heap.size := by
                rcases hat with h | h
                · exact .inl (Option.some.inj h)
                · exact .inr h
              have kp : ∀ id (cs : Array Value) t, BlockAt W37 id cs t → id ≠ g1 → BlockAt W38 id cs t := fun id cs t h hne => h.kept hgr (fun e => hne (Option.some.inj e))
              have y38 : BlockAt W38 w1.heap.size #[.int .u8 k, .slice (some ⟨g, 0, none⟩) ws.length cc] 25 := kp _ _ _ y37 (by omega)
              have hB38 : Below w1.heap.size w1 W38 := Below.grown hB37 hgr (by omega) (fun j hj => by have := Option.some.inj (show some g1 = some j from hj); omega)
              have hk38 : b0 ≤ W38.heap.size := by omega
              have hg2g : b0 ≤ g2 := by omega
              have hne_b6_g2 : b6 ≠ g2 := by omega
              have hl38_b6 : b6 < W38.heap.size := by omega
              have hl38_g1 : g1 < W38.heap.size := by omega
              clear kp hcase hat hgr hgs
              obtain ⟨a0, a1, _, _⟩ := y38.two
              refine hKq.out _ _ ?_ (fun hHeld => ?_)
              · (try dsimp only)
                exact ⟨a0, a1⟩
              clear hKq Kq a0 a1
              (try simp only [Act.put, List.setIfInBounds_toArray, List.set_cons_zero, List.set_cons_succ])
              refine rt8 (v := ?_) (by kernel_rfl) (by kernel_rfl) (by kernel_rfl) (fun _ _ _ h => h) (by rfl) hHeld ?_ ?_
              rotate_left
              · intro w' hSw
                (try dsimp only at hSw)
                go_simp <;> with_reducible rfl
              (try simp only [Act.put, List.setIfInBounds_toArray, List.set_cons_zero, List.set_cons_succ])
              refine wpAnyH_ready (rs := [9]) (by kernel_rfl) (by simp) ?_
              refine rd9 (fun Kq hKq => ?_) ?_
              · go_simp
                obtain ⟨W39, hW39⟩ : ∃ W39, W38.alloc (.cells #[.int .u8 0, .slice none 0 0] 25) = W39 := ⟨_, rfl⟩
                obtain ⟨b9, hb9⟩ : ∃ b9, W38.heap.size = b9 := ⟨_, rfl⟩
                have hg39 : W39.heap.size = b9 + 1 := by rw [← hW39, ← hb9]; simp
                have y39 : BlockAt W39 w1.heap.size #[.int .u8 k, .slice (some ⟨g, 0, none⟩) ws.length cc] 25 := by rw [← hW39]; exact y38.alloc _
                have hB39 : Below w1.heap.size w1 W39 := by rw [← hW39]; exact hB38.alloc hB38.size _
                have own39 : W39.ownsRow b0 3 1 (.slice (some ⟨g2, 0, none⟩) (ws.length + 1) cap2) (ws.length + 1) ((natCells ws) ++ natCells [11]) := by rw [← hW39]; exact World.ownsRow.alloc own38 _
                have n39 : BlockAt W39 b9 #[.int .u8 0, .slice none 0 0] 25 := by rw [← hW39]; exact BlockAt.new_at hb9
                have hk39 : b0 ≤ W39.heap.size := by omega
                have hb9g : b0 ≤ b9 := by omega
                have hne_b6_b9 : b6 ≠ b9 := by omega
                have hl39_b6 : b6 < W39.heap.size := by omega
                have hne_g2_b9 : g2 ≠ b9 := by omega
                have hl39_g2 : g2 < W39.heap.size := by omega
                have hl39_b9 : b9 < W39.heap.size := by omega
                rw [hW39, hb9]
                clear hW39 hb9 hg39
                obtain ⟨a0, a1, _, _⟩ := y39.two
                refine hKq.out _ _ ?_ (fun hHeld => ?_)
                · (try dsimp only)
                  exact ⟨a0, a1⟩
                clear hKq Kq a0 a1
                (try simp only [Act.put, List.setIfInBounds_toArray, List.set_cons_zero, List.set_cons_succ])
                refine wpAnyH_ready (rs := [10]) (by kernel_rfl) (by simp) ?_
                refine rd10 (fun Kq hKq => ?_) ?_
                · obtain ⟨q0, q1, q2, q3⟩ := n39.two
                  go_simp
                  have y9f := (n39.set20 (.int .u8 k)).set21 (.slice (some ⟨g2, 0, none⟩) (ws.length + 1) cap2)
                  have ownf := ownsRow_setCell_other (ownsRow_setCell_other own39 (a := ⟨b9, 0, none⟩) (by intro e; have e2 := Option.some.inj (show some g2 = some b9 from e); omega) (.int .u8 k)) (a := ⟨b9, 1, none⟩) (by intro e; have e2 := Option.some.inj (show some g2 = some b9 from e); omega) (.slice (some ⟨g2, 0, none⟩) (ws.length + 1) cap2)
                  have y40 := (y39.other (B' := b9) (j := 0) (by omega) (.int .u8 k)).other (B' := b9) (j := 1) (by omega) (.slice (some ⟨g2, 0, none⟩) (ws.length + 1) cap2)
                  have hB40 := (hB39.setCell (p := ⟨b9, 0, none⟩) (by show w1.heap.size ≤ b9; omega) (.int .u8 k)).setCell (p := ⟨b9, 1, none⟩) (by show w1.heap.size ≤ b9; omega) (.slice (some ⟨g2, 0, none⟩) (ws.length + 1) cap2)
                  obtain ⟨a0, a1, _, _⟩ := y40.two
                  refine hKq.out _ _ ?_ (fun hHeld => ?_)
                  · (try dsimp only)
                    exact ⟨a0, a1⟩
                  clear hKq Kq a0 a1
                  (try simp only [Act.put, List.setIfInBounds_toArray, List.set_cons_zero, List.set_cons_succ])
                  refine wpAnyH_done (by kernel_rfl) ?_ _
                  refine NoPanic.normal ?_
                  go_wp2_with fail
                  go_meet
                  exact ⟨b9, some ⟨g2, 0, none⟩, cap2, rfl, y9f, NatRow.of_owns (by rw [natCells_append]; exact ownf), y40, hB40⟩
                exact AllReadyH.nil
              exact AllReadyH.nil
            refine rd9 (fun Kq hKq => ?_) ?_
            · go_simp
              obtain ⟨W41, hW41⟩ : ∃ W41, W37.alloc (.cells #[.int .u8 0, .slice none 0 0] 25) = W41 := ⟨_, rfl⟩
              obtain ⟨b9, hb9⟩ : ∃ b9, W37.heap.size = b9 := ⟨_, rfl⟩
              have hg41 : W41.heap.size = b9 + 1 := by rw [← hW41, ← hb9]; simp
              have y41 : BlockAt W41 w1.heap.size #[.int .u8 k, .slice (some ⟨g, 0, none⟩) ws.length cc] 25 := by rw [← hW41]; exact y37.alloc _
              have hB41 : Below w1.heap.size w1 W41 := by rw [← hW41]; exact hB37.alloc hB37.size _
              have own41 : W41.ownsRow b0 3 1 (.slice (some ⟨g1, 0, none⟩) ws.length cap1) ws.length (natCells ws) := by rw [← hW41]; exact World.ownsRow.alloc own37 _
              have e41 : BlockAt W41 b6 #[.int .i64 11] 3 := by rw [← hW41]; exact e37.alloc _
              have n41 : BlockAt W41 b9 #[.int .u8 0, .slice none 0 0] 25 := by rw [← hW41]; exact BlockAt.new_at hb9
              have hk41 : b0 ≤ W41.heap.size := by omega
              have hb9g : b0 ≤ b9 := by omega
              have hne_b6_b9 : b6 ≠ b9 := by omega
              have hl41_b6 : b6 < W41.heap.size := by omega
              have hne_g1_b9 : g1 ≠ b9 := by omega
              have hl41_g1 : g1 < W41.heap.size := by omega
              have hl41_b9 : b9 < W41.heap.size := by omega
              rw [hW41, hb9]
              clear hW41 hb9 hg41
              obtain ⟨a0, a1, _, _⟩ := y41.two
              refine hKq.out _ _ ?_ (fun hHeld => ?_)
              · (try dsimp only)
                exact ⟨a0, a1⟩
              clear hKq Kq a0 a1
              (try simp only [Act.put, List.setIfInBounds_toArray, List.set_cons_zero, List.set_cons_succ])
              refine wpAnyH_ready (rs := [7]) (by kernel_rfl) (by simp) ?_
              refine rd7 (fun Kq hKq => ?_) ?_
              · refine step_append_lies _ rfl (.tmp 36) (.tmp 37) 23 rfl b0 3 i0 (.int .i64 0) 1 8 Tryd.underlying23 hi hi0 hi1 hi2 rfl (by decide) _ ws.length _ rfl own41 ⟨b6, 0, none⟩ 1 1 (natCells [11]) rfl rfl (BlockAt.newCells e41 rfl) (natCells_one _) (by decide) (by unfold maxLen; omega) (by omega) (by omega) _ rfl ?_
                intro g2 cap2 W42 own42 hgr hat hlt
                have hgs := hgr.size
                have hcase : g1 = g2 ∨ g2 = W41.heap.size := by
                  rcases hat with h | h
                  · exact .inl (Option.some.inj h)
                  · exact .inr h
                have kp : ∀ id (cs : Array Value) t, BlockAt W41 id cs t → id ≠ g1 → BlockAt W42 id cs t := fun id cs t h hne => h.kept hgr (fun e => hne (Option.some.inj e))
                have y42 : BlockAt W42 w1.heap.size #[.int .u8 k, .slice (some ⟨g, 0, none⟩) ws.length cc] 25 := kp _ _ _ y41 (by omega)
                have hB42 : Below w1.heap.size w1 W42 := Below.grown hB41 hgr (by omega) (fun j hj => by have := Option.some.inj (show some g1 = some j from hj); omega)
                have n42 : BlockAt W42 b9 #[.int .u8 0, .slice none 0 0] 25 := kp _ _ _ n41 (by omega)
                have hk42 : b0 ≤ W42.heap.size := by omega
                have hg2g : b0 ≤ g2 := by omega
                have hne_b6_g2 : b6 ≠ g2 := by omega
                have hl42_b6 : b6 < W42.heap.size := by omega
                have hl42_g1 : g1 < W42.heap.size := by omega
                have hne_b9_g2 : b9 ≠ g2 := by omega
                have hl42_b9 : b9 < W42.heap.size := by omega
                clear kp hcase hat hgr hgs
                obtain ⟨a0, a1, _, _⟩ := y42.two
                refine hKq.out _ _ ?_ (fun hHeld => ?_)
                · (try dsimp only)
                  exact ⟨a0, a1⟩
                clear hKq Kq a0 a1
                (try simp only [Act.put, List.setIfInBounds_toArray, List.set_cons_zero, List.set_cons_succ])
                refine rt8 (v := ?_) (by kernel_rfl) (by kernel_rfl) (by kernel_rfl) (fun _ _ _ h => h) (by rfl) hHeld ?_ ?_
                rotate_left
                · intro w' hSw
                  (try dsimp only at hSw)
                  go_simp <;> with_reducible rfl
                (try simp only [Act.put, List.setIfInBounds_toArray, List.set_cons_zero, List.set_cons_succ])
                refine wpAnyH_ready (rs := [10]) (by kernel_rfl) (by simp) ?_
                refine rd10 (fun Kq hKq => ?_) ?_
                · obtain ⟨q0, q1, q2, q3⟩ := n42.two
                  go_simp
                  have y9f := (n42.set20 (.int .u8 k)).set21 (.slice (some ⟨g2, 0, none⟩) (ws.length + 1) cap2)
                  have ownf := ownsRow_setCell_other (ownsRow_setCell_other own42 (a := ⟨b9, 0, none⟩) (by intro e; have e2 := Option.some.inj (show some g2 = some b9 from e); omega) (.int .u8 k)) (a := ⟨b9, 1, none⟩) (by intro e; have e2 := Option.some.inj (show some g2 = some b9 from e); omega) (.slice (some ⟨g2, 0, none⟩) (ws.length + 1) cap2)
                  have y43 := (y42.other (B' := b9) (j := 0) (by omega) (.int .u8 k)).other (B' := b9) (j := 1) (by omega) (.slice (some ⟨g2, 0, none⟩) (ws.length + 1) cap2)
                  have hB43 := (hB42.setCell (p := ⟨b9, 0, none⟩) (by show w1.heap.size ≤ b9; omega) (.int .u8 k)).setCell (p := ⟨b9, 1, none⟩) (by show w1.heap.size ≤ b9; omega) (.slice (some ⟨g2, 0, none⟩) (ws.length + 1) cap2)
                  obtain ⟨a0, a1, _, _⟩ := y43.two
                  refine hKq.out _ _ ?_ (fun hHeld => ?_)
                  · (try dsimp only)
                    exact ⟨a0, a1⟩
                  clear hKq Kq a0 a1
                  (try simp only [Act.put, List.setIfInBounds_toArray, List.set_cons_zero, List.set_cons_succ])
                  refine wpAnyH_done (by kernel_rfl) ?_ _
                  refine NoPanic.normal ?_
                  go_wp2_with fail
                  go_meet
                  exact ⟨b9, some ⟨g2, 0, none⟩, cap2, rfl, y9f, NatRow.of_owns (by rw [natCells_append]; exact ownf), y43, hB43⟩
                exact AllReadyH.nil
              exact AllReadyH.nil
            exact AllReadyH.nil
          refine rd9 (fun Kq hKq => ?_) ?_
          · go_simp
            obtain ⟨W44, hW44⟩ : ∃ W44, W36.alloc (.cells #[.int .u8 0, .slice none 0 0] 25) = W44 := ⟨_, rfl⟩
            obtain ⟨b9, hb9⟩ : ∃ b9, W36.heap.size = b9 := ⟨_, rfl⟩
            have hg44 : W44.heap.size = b9 + 1 := by rw [← hW44, ← hb9]; simp
            have y44 : BlockAt W44 w1.heap.size #[.int .u8 k, .slice (some ⟨g, 0, none⟩) ws.length cc] 25 := by rw [← hW44]; exact y36.alloc _
            have hB44 : Below w1.heap.size w1 W44 := by rw [← hW44]; exact hB36.alloc hB36.size _
            have sr44 : SrcAt W44 g ws := by rw [← hW44]; exact sr36.alloc _
            have own44 : W44.ownsRow b0 3 1 (.slice (some ⟨b2, 0, none⟩) 0 0) 0 [] := by rw [← hW44]; exact World.ownsRow.alloc own36 _
            have e44 : BlockAt W44 b6 #[.int .i64 11] 3 := by rw [← hW44]; exact e36.alloc _
            have n44 : BlockAt W44 b9 #[.int .u8 0, .slice none 0 0] 25 := by rw [← hW44]; exact BlockAt.new_at hb9
            have hk44 : b0 ≤ W44.heap.size := by omega
            have hb9g : b0 ≤ b9 := by omega
            have hne_b6_b9 : b6 ≠ b9 := by omega
            have hl44_b6 : b6 < W44.heap.size := by omega
            have hne_b2_b9 : b2 ≠ b9 := by omega
            have hl44_b2 : b2 < W44.heap.size := by omega
            have hl44_b9 : b9 < W44.heap.size := by omega
            rw [hW44, hb9]
            clear hW44 hb9 hg44
            obtain ⟨a0, a1, _, _⟩ := y44.two
            refine hKq.out _ _ ?_ (fun hHeld => ?_)
            · (try dsimp only)
              exact ⟨a0, a1⟩
            clear hKq Kq a0 a1
            (try simp only [Act.put, List.setIfInBounds_toArray, List.set_cons_zero, List.set_cons_succ])
            refine wpAnyH_ready (rs := [5]) (by kernel_rfl) (by simp) ?_
            refine rd5 (fun Kq hKq => ?_) ?_
            · refine step_append_lies _ rfl (.tmp 33) (.tmp 35) 23 rfl b0 3 i0 (.int .i64 0) 1 8 Tryd.underlying23 hi hi0 hi1 hi2 rfl (by decide) _ 0 [] rfl own44 ⟨g, 0, none⟩ ws.length cc (natCells ws) rfl (by simp [natCells]) sr44.get (natCells_one _) hwpos (by unfold maxLen; omega) (by omega) (by omega) _ rfl ?_
              intro g1 cap1 W45 own45 hgr hat hlt
              simp only [Nat.zero_add, List.nil_append] at own45
              rw [Nat.zero_add]
              have hgs := hgr.size
              have hcase : b2 = g1 ∨ g1 = W44.heap.size := by
                rcases hat with h | h
                · exact .inl (Option.some.inj h)
                · exact .inr h
              have kp : ∀ id (cs : Array Value) t, BlockAt W44 id cs t → id ≠ b2 → BlockAt W45 id cs t := fun id cs t h hne => h.kept hgr (fun e => hne (Option.some.inj e))
              have y45 : BlockAt W45 w1.heap.size #[.int .u8 k, .slice (some ⟨g, 0, none⟩) ws.length cc] 25 := kp _ _ _ y44 (by omega)
              have hB45 : Below w1.heap.size w1 W45 := Below.grown hB44 hgr (by omega) (fun j hj => by have := Option.some.inj (show some b2 = some j from hj); omega)
              have e45 : BlockAt W45 b6 #[.int .i64 11] 3 := kp _ _ _ e44 (by omega)
              have n45 : BlockAt W45 b9 #[.int .u8 0, .slice none 0 0] 25 := kp _ _ _ n44 (by omega)
              have hk45 : b0 ≤ W45.heap.size := by omega
              have hg1g : b0 ≤ g1 := by omega
              have hne_b6_g1 : b6 ≠ g1 := by omega
              have hl45_b6 : b6 < W45.heap.size := by omega
              have hl45_b2 : b2 < W45.heap.size := by omega
              have hne_b9_g1 : b9 ≠ g1 := by omega
              have hl45_b9 : b9 < W45.heap.size := by omega
              clear kp hcase hat hgr hgs
              obtain ⟨a0, a1, _, _⟩ := y45.two
              refine hKq.out _ _ ?_ (fun hHeld => ?_)
              · (try dsimp only)
                exact ⟨a0, a1⟩
              clear hKq Kq a0 a1
              (try simp only [Act.put, List.setIfInBounds_toArray, List.set_cons_zero, List.set_cons_succ])
              refine wpAnyH_ready (rs := [7]) (by kernel_rfl) (by simp) ?_
              refine rd7 (fun Kq hKq => ?_) ?_
              · refine step_append_lies _ rfl (.tmp 36) (.tmp 37) 23 rfl b0 3 i0 (.int .i64 0) 1 8 Tryd.underlying23 hi hi0 hi1 hi2 rfl (by decide) _ ws.length _ rfl own45 ⟨b6, 0, none⟩ 1 1 (natCells [11]) rfl rfl (BlockAt.newCells e45 rfl) (natCells_one _) (by decide) (by unfold maxLen; omega) (by omega) (by omega) _ rfl ?_
                intro g2 cap2 W46 own46 hgr hat hlt
                have hgs := hgr.size
                have hcase : g1 = g2 ∨ g2 = W45.heap.size := by
                  rcases hat with h | h
                  · exact .inl (Option.some.inj h)
                  · exact .inr h
                have kp : ∀ id (cs : Array Value) t, BlockAt W45 id cs t → id ≠ g1 → BlockAt W46 id cs t := fun id cs t h hne => h.kept hgr (fun e => hne (Option.some.inj e))
                have y46 : BlockAt W46 w1.heap.size #[.int .u8 k, .slice (some ⟨g, 0, none⟩) ws.length cc] 25 := kp _ _ _ y45 (by omega)
                have hB46 : Below w1.heap.size w1 W46 := Below.grown hB45 hgr (by omega) (fun j hj => by have := Option.some.inj (show some g1 = some j from hj); omega)
                have n46 : BlockAt W46 b9 #[.int .u8 0, .slice none 0 0] 25 := kp _ _ _ n45 (by omega)
                have hk46 : b0 ≤ W46.heap.size := by omega
                have hg2g : b0 ≤ g2 := by omega
                have hne_b6_g2 : b6 ≠ g2 := by omega
                have hl46_b6 : b6 < W46.heap.size := by omega
                have hne_b9_g2 : b9 ≠ g2 := by omega
                have hl46_b9 : b9 < W46.heap.size := by omega
                have hl46_g1 : g1 < W46.heap.size := by omega
                clear kp hcase hat hgr hgs
                obtain ⟨a0, a1, _, _⟩ := y46.two
                refine hKq.out _ _ ?_ (fun hHeld => ?_)
                · (try dsimp only)
                  exact ⟨a0, a1⟩
                clear hKq Kq a0 a1
                (try simp only [Act.put, List.setIfInBounds_toArray, List.set_cons_zero, List.set_cons_succ])
                refine rt8 (v := ?_) (by kernel_rfl) (by kernel_rfl) (by kernel_rfl) (fun _ _ _ h => h) (by rfl) hHeld ?_ ?_
                rotate_left
                · intro w' hSw
                  (try dsimp only at hSw)
                  go_simp <;> with_reducible rfl
                (try simp only [Act.put, List.setIfInBounds_toArray, List.set_cons_zero, List.set_cons_succ])
                refine wpAnyH_ready (rs := [10]) (by kernel_rfl) (by simp) ?_
                refine rd10 (fun Kq hKq => ?_) ?_
                · obtain ⟨q0, q1, q2, q3⟩ := n46.two
                  go_simp
                  have y9f := (n46.set20 (.int .u8 k)).set21 (.slice (some ⟨g2, 0, none⟩) (ws.length + 1) cap2)
                  have ownf := ownsRow_setCell_other (ownsRow_setCell_other own46 (a := ⟨b9, 0, none⟩) (by intro e; have e2 := Option.some.inj (show some g2 = some b9 from e); omega) (.int .u8 k)) (a := ⟨b9, 1, none⟩) (by intro e; have e2 := Option.some.inj (show some g2 = some b9 from e); omega) (.slice (some ⟨g2, 0, none⟩) (ws.length + 1) cap2)
                  have y47 := (y46.other (B' := b9) (j := 0) (by omega) (.int .u8 k)).other (B' := b9) (j := 1) (by omega) (.slice (some ⟨g2, 0, none⟩) (ws.length + 1) cap2)
                  have hB47 := (hB46.setCell (p := ⟨b9, 0, none⟩) (by show w1.heap.size ≤ b9; omega) (.int .u8 k)).setCell (p := ⟨b9, 1, none⟩) (by show w1.heap.size ≤ b9; omega) (.slice (some ⟨g2, 0, none⟩) (ws.length + 1) cap2)
                  obtain ⟨a0, a1, _, _⟩ := y47.two
                  refine hKq.out _ _ ?_ (fun hHeld => ?_)
                  · (try dsimp only)
                    exact ⟨a0, a1⟩
                  clear hKq Kq a0 a1
                  (try simp only [Act.put, List.setIfInBounds_toArray, List.set_cons_zero, List.set_cons_succ])
                  refine wpAnyH_done (by kernel_rfl) ?_ _
                  refine NoPanic.normal ?_
                  go_wp2_with fail
                  go_meet
                  exact ⟨b9, some ⟨g2, 0, none⟩, cap2, rfl, y9f, NatRow.of_owns (by rw [natCells_append]; exact ownf), y47, hB47⟩
                exact AllReadyH.nil
              exact AllReadyH.nil
            exact AllReadyH.nil
          exact AllReadyH.nil
        refine rd9 (fun Kq hKq => ?_) ?_
        · go_simp
          obtain ⟨W48, hW48⟩ : ∃ W48, W35.alloc (.cells #[.int .u8 0, .slice none 0 0] 25) = W48 := ⟨_, rfl⟩
          obtain ⟨b9, hb9⟩ : ∃ b9, W35.heap.size = b9 := ⟨_, rfl⟩
          have hg48 : W48.heap.size = b9 + 1 := by rw [← hW48, ← hb9]; simp
          have y48 : BlockAt W48 w1.heap.size #[.int .u8 k, .slice (some ⟨g, 0, none⟩) ws.length cc] 25 := by rw [← hW48]; exact y35.alloc _
          have hB48 : Below w1.heap.size w1 W48 := by rw [← hW48]; exact hB35.alloc hB35.size _
          have sr48 : SrcAt W48 g ws := by rw [← hW48]; exact sr35.alloc _
          have e48 : BlockAt W48 b6 #[.int .i64 11] 3 := by rw [← hW48]; exact e35.alloc _
          have n48 : BlockAt W48 b9 #[.int .u8 0, .slice none 0 0] 25 := by rw [← hW48]; exact BlockAt.new_at hb9
          have hk48 : b0 ≤ W48.heap.size := by omega
          have hb9g : b0 ≤ b9 := by omega
          have hne_b6_b9 : b6 ≠ b9 := by omega
          have hl48_b6 : b6 < W48.heap.size := by omega
          have hl48_b9 : b9 < W48.heap.size := by omega
          rw [hW48, hb9]
          clear hW48 hb9 hg48
          obtain ⟨a0, a1, _, _⟩ := y48.two
          refine hKq.out _ _ ?_ (fun hHeld => ?_)
          · (try dsimp only)
            exact ⟨a0, a1⟩
          clear hKq Kq a0 a1
          (try simp only [Act.put, List.setIfInBounds_toArray, List.set_cons_zero, List.set_cons_succ])
          refine wpAnyH_ready (rs := [2]) (by kernel_rfl) (by simp) ?_
          refine rd2 (fun Kq hKq => ?_) ?_
          · go_simp
            obtain ⟨W49, hW49⟩ : ∃ W49, W48.alloc (.cells #[] 3) = W49 := ⟨_, rfl⟩
            obtain ⟨b2, hb2⟩ : ∃ b2, W48.heap.size = b2 := ⟨_, rfl⟩
            have hg49 : W49.heap.size = b2 + 1 := by rw [← hW49, ← hb2]; simp
            have y49 : BlockAt W49 w1.heap.size #[.int .u8 k, .slice (some ⟨g, 0, none⟩) ws.length cc] 25 := by rw [← hW49]; exact y48.alloc _
            have hB49 : Below w1.heap.size w1 W49 := by rw [← hW49]; exact hB48.alloc hB48.size _
            have sr49 : SrcAt W49 g ws := by rw [← hW49]; exact sr48.alloc _
            have e49 : BlockAt W49 b6 #[.int .i64 11] 3 := by rw [← hW49]; exact e48.alloc _
            have n49 : BlockAt W49 b9 #[.int .u8 0, .slice none 0 0] 25 := by rw [← hW49]; exact n48.alloc _
            have own49 : W49.ownsRow b0 3 1 (.slice (some ⟨b2, 0, none⟩) 0 0) 0 [] := by rw [← hW49]; exact own_empty hb2 (by omega)
            have hk49 : b0 ≤ W49.heap.size := by omega
            have hb2g : b0 ≤ b2 := by omega
            have hne_b6_b2 : b6 ≠ b2 := by omega
            have hl49_b6 : b6 < W49.heap.size := by omega
            have hne_b9_b2 : b9 ≠ b2 := by omega
            have hl49_b9 : b9 < W49.heap.size := by omega
            have hl49_b2 : b2 < W49.heap.size := by omega
            rw [hW49, hb2]
            clear hW49 hb2 hg49
            obtain ⟨a0, a1, _, _⟩ := y49.two
            refine hKq.out _ _ ?_ (fun hHeld => ?_)
            · (try dsimp only)
              exact ⟨a0, a1⟩
            clear hKq Kq a0 a1
            (try simp only [Act.put, List.setIfInBounds_toArray, List.set_cons_zero, List.set_cons_succ])
            refine wpAnyH_ready (rs := [5]) (by kernel_rfl) (by simp) ?_
            refine rd5 (fun Kq hKq => ?_) ?_
            · refine step_append_lies _ rfl (.tmp 33) (.tmp 35) 23 rfl b0 3 i0 (.int .i64 0) 1 8 Tryd.underlying23 hi hi0 hi1 hi2 rfl (by decide) _ 0 [] rfl own49 ⟨g, 0, none⟩ ws.length cc (natCells ws) rfl (by simp [natCells]) sr49.get (natCells_one _) hwpos (by unfold maxLen; omega) (by omega) (by omega) _ rfl ?_
              intro g1 cap1 W50 own50 hgr hat hlt
              simp only [Nat.zero_add, List.nil_append] at own50
              rw [Nat.zero_add]
              have hgs := hgr.size
              have hcase : b2 = g1 ∨ g1 = W49.heap.size := by
                rcases hat with h | h
                · exact .inl (Option.some.inj h)
                · exact .inr h
              have kp : ∀ id (cs : Array Value) t, BlockAt W49 id cs t → id ≠ b2 → BlockAt W50 id cs t := fun id cs t h hne => h.kept hgr (fun e => hne (Option.some.inj e))
              have y50 : BlockAt W50 w1.heap.size #[.int .u8 k, .slice (some ⟨g, 0, none⟩) ws.length cc] 25 := kp _ _ _ y49 (by omega)
              have hB50 : Below w1.heap.size w1 W50 := Below.grown hB49 hgr (by omega) (fun j hj => by have := Option.some.inj (show some b2 = some j from hj); omega)
              have e50 : BlockAt W50 b6 #[.int .i64 11] 3 := kp _ _ _ e49 (by omega)
              have n50 : BlockAt W50 b9 #[.int .u8 0, .slice none 0 0] 25 := kp _ _ _ n49 (by omega)
              have hk50 : b0 ≤ W50.heap.size := by omega
              have hg1g : b0 ≤ g1 := by omega
              have hne_b6_g1 : b6 ≠ g1 := by omega
              have hl50_b6 : b6 < W50.heap.size := by omega
              have hne_b9_g1 : b9 ≠ g1 := by omega
              have hl50_b9 : b9 < W50.heap.size := by omega
              have hl50_b2 : b2 < W50.heap.size := by omega
              clear kp hcase hat hgr hgs
              obtain ⟨a0, a1, _, _⟩ := y50.two
              refine hKq.out _ _ ?_ (fun hHeld => ?_)
              · (try dsimp only)
                exact ⟨a0, a1⟩
              clear hKq Kq a0 a1
              (try simp only [Act.put, List.setIfInBounds_toArray, List.set_cons_zero, List.set_cons_succ])
              refine wpAnyH_ready (rs := [7]) (by kernel_rfl) (by simp) ?_
              refine rd7 (fun Kq hKq => ?_) ?_
              · refine step_append_lies _ rfl (.tmp 36) (.tmp 37) 23 rfl b0 3 i0 (.int .i64 0) 1 8 Tryd.underlying23 hi hi0 hi1 hi2 rfl (by decide) _ ws.length _ rfl own50 ⟨b6, 0, none⟩ 1 1 (natCells [11]) rfl rfl (BlockAt.newCells e50 rfl) (natCells_one _) (by decide) (by unfold maxLen; omega) (by omega) (by omega) _ rfl ?_
                intro g2 cap2 W51 own51 hgr hat hlt
                have hgs := hgr.size
                have hcase : g1 = g2 ∨ g2 = W50.heap.size := by
                  rcases hat with h | h
                  · exact .inl (Option.some.inj h)
                  · exact .inr h
                have kp : ∀ id (cs : Array Value) t, BlockAt W50 id cs t → id ≠ g1 → BlockAt W51 id cs t := fun id cs t h hne => h.kept hgr (fun e => hne (Option.some.inj e))
                have y51 : BlockAt W51 w1.heap.size #[.int .u8 k, .slice (some ⟨g, 0, none⟩) ws.length cc] 25 := kp _ _ _ y50 (by omega)
                have hB51 : Below w1.heap.size w1 W51 := Below.grown hB50 hgr (by omega) (fun j hj => by have := Option.some.inj (show some g1 = some j from hj); omega)
                have n51 : BlockAt W51 b9 #[.int .u8 0, .slice none 0 0] 25 := kp _ _ _ n50 (by omega)
                have hk51 : b0 ≤ W51.heap.size := by omega
                have hg2g : b0 ≤ g2 := by omega
                have hne_b6_g2 : b6 ≠ g2 := by omega
                have hl51_b6 : b6 < W51.heap.size := by omega
                have hne_b9_g2 : b9 ≠ g2 := by omega
                have hl51_b9 : b9 < W51.heap.size := by omega
                have hl51_g1 : g1 < W51.heap.size := by omega
                clear kp hcase hat hgr hgs
                obtain ⟨a0, a1, _, _⟩ := y51.two
                refine hKq.out _ _ ?_ (fun hHeld => ?_)
                · (try dsimp only)
                  exact ⟨a0, a1⟩
                clear hKq Kq a0 a1
                (try simp only [Act.put, List.setIfInBounds_toArray, List.set_cons_zero, List.set_cons_succ])
                refine rt8 (v := ?_) (by kernel_rfl) (by kernel_rfl) (by kernel_rfl) (fun _ _ _ h => h) (by rfl) hHeld ?_ ?_
                rotate_left
                · intro w' hSw
                  (try dsimp only at hSw)
                  go_simp <;> with_reducible rfl
                (try simp only [Act.put, List.setIfInBounds_toArray, List.set_cons_zero, List.set_cons_succ])
                refine wpAnyH_ready (rs := [10]) (by kernel_rfl) (by simp) ?_
                refine rd10 (fun Kq hKq => ?_) ?_
                · obtain ⟨q0, q1, q2, q3⟩ := n51.two
                  go_simp
                  have y9f := (n51.set20 (.int .u8 k)).set21 (.slice (some ⟨g2, 0, none⟩) (ws.length + 1) cap2)
                  have ownf := ownsRow_setCell_other (ownsRow_setCell_other own51 (a := ⟨b9, 0, none⟩) (by intro e; have e2 := Option.some.inj (show some g2 = some b9 from e); omega) (.int .u8 k)) (a := ⟨b9, 1, none⟩) (by intro e; have e2 := Option.some.inj (show some g2 = some b9 from e); omega) (.slice (some ⟨g2, 0, none⟩) (ws.length + 1) cap2)
                  have y52 := (y51.other (B' := b9) (j := 0) (by omega) (.int .u8 k)).other (B' := b9) (j := 1) (by omega) (.slice (some ⟨g2, 0, none⟩) (ws.length + 1) cap2)
                  have hB52 := (hB51.setCell (p := ⟨b9, 0, none⟩) (by show w1.heap.size ≤ b9; omega) (.int .u8 k)).setCell (p := ⟨b9, 1, none⟩) (by show w1.heap.size ≤ b9; omega) (.slice (some ⟨g2, 0, none⟩) (ws.length + 1) cap2)
                  obtain ⟨a0, a1, _, _⟩ := y52.two
                  refine hKq.out _ _ ?_ (fun hHeld => ?_)
                  · (try dsimp only)
                    exact ⟨a0, a1⟩
                  clear hKq Kq a0 a1
                  (try simp only [Act.put, List.setIfInBounds_toArray, List.set_cons_zero, List.set_cons_succ])
                  refine wpAnyH_done (by kernel_rfl) ?_ _
                  refine NoPanic.normal ?_
                  go_wp2_with fail
                  go_meet
                  exact ⟨b9, some ⟨g2, 0, none⟩, cap2, rfl, y9f, NatRow.of_owns (by rw [natCells_append]; exact ownf), y52, hB52⟩
                exact AllReadyH.nil
              exact AllReadyH.nil
            exact AllReadyH.nil
          exact AllReadyH.nil
        exact AllReadyH.nil
      refine rd9 (fun Kq hKq => ?_) ?_
      · go_simp
        obtain ⟨W53, hW53⟩ : ∃ W53, W0.alloc (.cells #[.int .u8 0, .slice none 0 0] 25) = W53 := ⟨_, rfl⟩
        obtain ⟨b9, hb9⟩ : ∃ b9, W0.heap.size = b9 := ⟨_, rfl⟩
        have hg53 : W53.heap.size = b9 + 1 := by rw [← hW53, ← hb9]; simp
        have y53 : BlockAt W53 w1.heap.size #[.int .u8 k, .slice (some ⟨g, 0, none⟩) ws.length cc] 25 := by rw [← hW53]; exact y0.alloc _
        have hB53 : Below w1.heap.size w1 W53 := by rw [← hW53]; exact hB0.alloc hB0.size _
        have sr53 : SrcAt W53 g ws := by rw [← hW53]; exact sr0.alloc _
        have n53 : BlockAt W53 b9 #[.int .u8 0, .slice none 0 0] 25 := by rw [← hW53]; exact BlockAt.new_at hb9
        have hk53 : b0 ≤ W53.heap.size := by omega
        have hb9g : b0 ≤ b9 := by omega
        have hl53_b9 : b9 < W53.heap.size := by omega
        rw [hW53, hb9]
        clear hW53 hb9 hg53
        obtain ⟨a0, a1, _, _⟩ := y53.two
        refine hKq.out _ _ ?_ (fun hHeld => ?_)
        · (try dsimp only)
          exact ⟨a0, a1⟩
        clear hKq Kq a0 a1
        (try simp only [Act.put, List.setIfInBounds_toArray, List.set_cons_zero, List.set_cons_succ])
        refine wpAnyH_ready (rs := [2, 6]) (by kernel_rfl) (by simp) ?_
        refine rd2 (fun Kq hKq => ?_) ?_
        · go_simp
          obtain ⟨W54, hW54⟩ : ∃ W54, W53.alloc (.cells #[] 3) = W54 := ⟨_, rfl⟩
          obtain ⟨b2, hb2⟩ : ∃ b2, W53.heap.size = b2 := ⟨_, rfl⟩
          have hg54 : W54.heap.size = b2 + 1 := by rw [← hW54, ← hb2]; simp
          have y54 : BlockAt W54 w1.heap.size #[.int .u8 k, .slice (some ⟨g, 0, none⟩) ws.length cc] 25 := by rw [← hW54]; exact y53.alloc _
          have hB54 : Below w1.heap.size w1 W54 := by rw [← hW54]; exact hB53.alloc hB53.size _
          have sr54 : SrcAt W54 g ws := by rw [← hW54]; exact sr53.alloc _
          have n54 : BlockAt W54 b9 #[.int .u8 0, .slice none 0 0] 25 := by rw [← hW54]; exact n53.alloc _
          have own54 : W54.ownsRow b0 3 1 (.slice (some ⟨b2, 0, none⟩) 0 0) 0 [] := by rw [← hW54]; exact own_empty hb2 (by omega)
          have hk54 : b0 ≤ W54.heap.size := by omega
          have hb2g : b0 ≤ b2 := by omega
          have hne_b9_b2 : b9 ≠ b2 := by omega
          have hl54_b9 : b9 < W54.heap.size := by omega
          have hl54_b2 : b2 < W54.heap.size := by omega
          rw [hW54, hb2]
          clear hW54 hb2 hg54
          obtain ⟨a0, a1, _, _⟩ := y54.two
          refine hKq.out _ _ ?_ (fun hHeld => ?_)
          · (try dsimp only)
            exact ⟨a0, a1⟩
          clear hKq Kq a0 a1
          (try simp only [Act.put, List.setIfInBounds_toArray, List.set_cons_zero, List.set_cons_succ])
          refine wpAnyH_ready (rs := [5, 6]) (by kernel_rfl) (by simp) ?_
          refine rd5 (fun Kq hKq => ?_) ?_
          · refine step_append_lies _ rfl (.tmp 33) (.tmp 35) 23 rfl b0 3 i0 (.int .i64 0) 1 8 Tryd.underlying23 hi hi0 hi1 hi2 rfl (by decide) _ 0 [] rfl own54 ⟨g, 0, none⟩ ws.length cc (natCells ws) rfl (by simp [natCells]) sr54.get (natCells_one _) hwpos (by unfold maxLen; omega) (by omega) (by omega) _ rfl ?_
            intro g1 cap1 W55 own55 hgr hat hlt
            simp only [Nat.zero_add, List.nil_append] at own55
            rw [Nat.zero_add]
            have hgs := hgr.size
            have hcase : b2 = g1 ∨ g1 = W54.heap.size := by
              rcases hat with h | h
              · exact .inl (Option.some.inj h)
              · exact .inr h
            have kp : ∀ id (cs : Array Value) t, BlockAt W54 id cs t → id ≠ b2 → BlockAt W55 id cs t := fun id cs t h hne => h.kept hgr (fun e => hne (Option.some.inj e))
            have y55 : BlockAt W55 w1.heap.size #[.int .u8 k, .slice (some ⟨g, 0, none⟩) ws.length cc] 25 := kp _ _ _ y54 (by omega)
            have hB55 : Below w1.heap.size w1 W55 := Below.grown hB54 hgr (by omega) (fun j hj => by have := Option.some.inj (show some b2 = some j from hj); omega)
            have n55 : BlockAt W55 b9 #[.int .u8 0, .slice none 0 0] 25 := kp _ _ _ n54 (by omega)
            have hk55 : b0 ≤ W55.heap.size := by omega
            have hg1g : b0 ≤ g1 := by omega
            have hne_b9_g1 : b9 ≠ g1 := by omega
            have hl55_b9 : b9 < W55.heap.size := by omega
            have hl55_b2 : b2 < W55.heap.size := by omega
            clear kp hcase hat hgr hgs
            obtain ⟨a0, a1, _, _⟩ := y55.two
            refine hKq.out _ _ ?_ (fun hHeld => ?_)
            · (try dsimp only)
              exact ⟨a0, a1⟩
            clear hKq Kq a0 a1
            (try simp only [Act.put, List.setIfInBounds_toArray, List.set_cons_zero, List.set_cons_succ])
            refine wpAnyH_ready (rs := [6]) (by kernel_rfl) (by simp) ?_
            refine rd6 (fun Kq hKq => ?_) ?_
            · go_simp
              obtain ⟨W56, hW56⟩ : ∃ W56, W55.alloc (.cells #[.int .i64 11] 3) = W56 := ⟨_, rfl⟩
              obtain ⟨b6, hb6⟩ : ∃ b6, W55.heap.size = b6 := ⟨_, rfl⟩
              have hg56 : W56.heap.size = b6 + 1 := by rw [← hW56, ← hb6]; simp
              have y56 : BlockAt W56 w1.heap.size #[.int .u8 k, .slice (some ⟨g, 0, none⟩) ws.length cc] 25 := by rw [← hW56]; exact y55.alloc _
              have hB56 : Below w1.heap.size w1 W56 := by rw [← hW56]; exact hB55.alloc hB55.size _
              have own56 : W56.ownsRow b0 3 1 (.slice (some ⟨g1, 0, none⟩) ws.length cap1) ws.length (natCells ws) := by rw [← hW56]; exact World.ownsRow.alloc own55 _
              have n56 : BlockAt W56 b9 #[.int .u8 0, .slice none 0 0] 25 := by rw [← hW56]; exact n55.alloc _
              have e56 : BlockAt W56 b6 #[.int .i64 11] 3 := by rw [← hW56]; exact BlockAt.new_at hb6
              have hk56 : b0 ≤ W56.heap.size := by omega
              have hb6g : b0 ≤ b6 := by omega
              have hne_b9_b6 : b9 ≠ b6 := by omega
              have hl56_b9 : b9 < W56.heap.size := by omega
              have hne_g1_b6 : g1 ≠ b6 := by omega
              have hl56_g1 : g1 < W56.heap.size := by omega
              have hl56_b6 : b6 < W56.heap.size := by omega
              rw [hW56, hb6]
              clear hW56 hb6 hg56
              obtain ⟨a0, a1, _, _⟩ := y56.two
              refine hKq.out _ _ ?_ (fun hHeld => ?_)
              · (try dsimp only)
                exact ⟨a0, a1⟩
              clear hKq Kq a0 a1
              (try simp only [Act.put, List.setIfInBounds_toArray, List.set_cons_zero, List.set_cons_succ])
              refine wpAnyH_ready (rs := [7]) (by kernel_rfl) (by simp) ?_
              refine rd7 (fun Kq hKq => ?_) ?_
              · refine step_append_lies _ rfl (.tmp 36) (.tmp 37) 23 rfl b0 3 i0 (.int .i64 0) 1 8 Tryd.underlying23 hi hi0 hi1 hi2 rfl (by decide) _ ws.length _ rfl own56 ⟨b6, 0, none⟩ 1 1 (natCells [11]) rfl rfl (BlockAt.newCells e56 rfl) (natCells_one _) (by decide) (by unfold maxLen; omega) (by omega) (by omega) _ rfl ?_
                intro g2 cap2 W57 own57 hgr hat hlt
                have hgs := hgr.size
                have hcase : g1 = g2 ∨ g2 = W56.heap.size := by
                  rcases hat with h | h
                  · exact .inl (Option.some.inj h)
                  · exact .inr h
                have kp : ∀ id (cs : Array Value) t, BlockAt W56 id cs t → id ≠ g1 → BlockAt W57 id cs t := fun id cs t h hne => h.kept hgr (fun e => hne (Option.some.inj e))
                have y57 : BlockAt W57 w1.heap.size #[.int .u8 k, .slice (some ⟨g, 0, none⟩) ws.length cc] 25 := kp _ _ _ y56 (by omega)
                have hB57 : Below w1.heap.size w1 W57 := Below.grown hB56 hgr (by omega) (fun j hj => by have := Option.some.inj (show some g1 = some j from hj); omega)
                have n57 : BlockAt W57 b9 #[.int .u8 0, .slice none 0 0] 25 := kp _ _ _ n56 (by omega)
                have hk57 : b0 ≤ W57.heap.size := by omega
                have hg2g : b0 ≤ g2 := by omega
                have hne_b9_g2 : b9 ≠ g2 := by omega
                have hl57_b9 : b9 < W57.heap.size := by omega
                have hl57_g1 : g1 < W57.heap.size := by omega
                have hne_b6_g2 : b6 ≠ g2 := by omega
                have hl57_b6 : b6 < W57.heap.size := by omega
                clear kp hcase hat hgr hgs
                obtain ⟨a0, a1, _, _⟩ := y57.two
                refine hKq.out _ _ ?_ (fun hHeld => ?_)
                · (try dsimp only)
                  exact ⟨a0, a1⟩
                clear hKq Kq a0 a1
                (try simp only [Act.put, List.setIfInBounds_toArray, List.set_cons_zero, List.set_cons_succ])
                refine rt8 (v := ?_) (by kernel_rfl) (by kernel_rfl) (by kernel_rfl) (fun _ _ _ h => h) (by rfl) hHeld ?_ ?_
                rotate_left
                · intro w' hSw
                  (try dsimp only at hSw)
                  go_simp <;> with_reducible rfl
                (try simp only [Act.put, List.setIfInBounds_toArray, List.set_cons_zero, List.set_cons_succ])
                refine wpAnyH_ready (rs := [10]) (by kernel_rfl) (by simp) ?_
                refine rd10 (fun Kq hKq => ?_) ?_
                · obtain ⟨q0, q1, q2, q3⟩ := n57.two
                  go_simp
                  have y9f := (n57.set20 (.int .u8 k)).set21 (.slice (some ⟨g2, 0, none⟩) (ws.length + 1) cap2)
                  have ownf := ownsRow_setCell_other (ownsRow_setCell_other own57 (a := ⟨b9, 0, none⟩) (by intro e; have e2 := Option.some.inj (show some g2 = some b9 from e); omega) (.int .u8 k)) (a := ⟨b9, 1, none⟩) (by intro e; have e2 := Option.some.inj (show some g2 = some b9 from e); omega) (.slice (some ⟨g2, 0, none⟩) (ws.length + 1) cap2)
                  have y58 := (y57.other (B' := b9) (j := 0) (by omega) (.int .u8 k)).other (B' := b9) (j := 1) (by omega) (.slice (some ⟨g2, 0, none⟩) (ws.length + 1) cap2)
                  have hB58 := (hB57.setCell (p := ⟨b9, 0, none⟩) (by show w1.heap.size ≤ b9; omega) (.int .u8 k)).setCell (p := ⟨b9, 1, none⟩) (by show w1.heap.size ≤ b9; omega) (.slice (some ⟨g2, 0, none⟩) (ws.length + 1) cap2)
                  obtain ⟨a0, a1, _, _⟩ := y58.two
                  refine hKq.out _ _ ?_ (fun hHeld => ?_)
                  · (try dsimp only)
                    exact ⟨a0, a1⟩
                  clear hKq Kq a0 a1
                  (try simp only [Act.put, List.setIfInBounds_toArray, List.set_cons_zero, List.set_cons_succ])
                  refine wpAnyH_done (by kernel_rfl) ?_ _
                  refine NoPanic.normal ?_
                  go_wp2_with fail
                  go_meet
                  exact ⟨b9, some ⟨g2, 0, none⟩, cap2, rfl, y9f, NatRow.of_owns (by rw [natCells_append]; exact ownf), y58, hB58⟩
                exact AllReadyH.nil
              exact AllReadyH.nil
            exact AllReadyH.nil
          refine rd6 (fun Kq hKq => ?_) ?_
          · go_simp
            obtain ⟨W59, hW59⟩ : ∃ W59, W54.alloc (.cells #[.int .i64 11] 3) = W59 := ⟨_, rfl⟩
            obtain ⟨b6, hb6⟩ : ∃ b6, W54.heap.size = b6 := ⟨_, rfl⟩
            have hg59 : W59.heap.size = b6 + 1 := by rw [← hW59, ← hb6]; simp
            have y59 : BlockAt W59 w1.heap.size #[.int .u8 k, .slice (some ⟨g, 0, none⟩) ws.length cc] 25 := by rw [← hW59]; exact y54.alloc _
            have hB59 : Below w1.heap.size w1 W59 := by rw [← hW59]; exact hB54.alloc hB54.size _
            have sr59 : SrcAt W59 g ws := by rw [← hW59]; exact sr54.alloc _
            have own59 : W59.ownsRow b0 3 1 (.slice (some ⟨b2, 0, none⟩) 0 0) 0 [] := by rw [← hW59]; exact World.ownsRow.alloc own54 _
            have n59 : BlockAt W59 b9 #[.int .u8 0, .slice none 0 0] 25 := by rw [← hW59]; exact n54.alloc _
            have e59 : BlockAt W59 b6 #[.int .i64 11] 3 := by rw [← hW59]; exact BlockAt.new_at hb6
            have hk59 : b0 ≤ W59.heap.size := by omega
            have hb6g : b0 ≤ b6 := by omega
            have hne_b9_b6 : b9 ≠ b6 := by omega
            have hl59_b9 : b9 < W59.heap.size := by omega
            have hne_b2_b6 : b2 ≠ b6 := by omega
            have hl59_b2 : b2 < W59.heap.size := by omega
            have hl59_b6 : b6 < W59.heap.size := by omega
            rw [hW59, hb6]
            clear hW59 hb6 hg59
            obtain ⟨a0, a1, _, _⟩ := y59.two
            refine hKq.out _ _ ?_ (fun hHeld => ?_)
            · (try dsimp only)
              exact ⟨a0, a1⟩
            clear hKq Kq a0 a1
            (try simp only [Act.put, List.setIfInBounds_toArray, List.set_cons_zero, List.set_cons_succ])
            refine wpAnyH_ready (rs := [5]) (by kernel_rfl) (by simp) ?_
            refine rd5 (fun Kq hKq => ?_) ?_
            · refine step_append_lies _ rfl (.tmp 33) (.tmp 35) 23 rfl b0 3 i0 (.int .i64 0) 1 8 Tryd.underlying23 hi hi0 hi1 hi2 rfl (by decide) _ 0 [] rfl own59 ⟨g, 0, none⟩ ws.length cc (natCells ws) rfl (by simp [natCells]) sr59.get (natCells_one _) hwpos (by unfold maxLen; omega) (by omega) (by omega) _ rfl ?_
              intro g1 cap1 W60 own60 hgr hat hlt
              simp only [Nat.zero_add, List.nil_append] at own60
              rw [Nat.zero_add]
              have hgs := hgr.size
              have hcase : b2 = g1 ∨ g1 = W59.heap.size := by
                rcases hat with h | h
                · exact .inl (Option.some.inj h)
                · exact .inr h
              have kp : ∀ id (cs : Array Value) t, BlockAt W59 id cs t → id ≠ b2 → BlockAt W60 id cs t := fun id cs t h hne => h.kept hgr (fun e => hne (Option.some.inj e))
              have y60 : BlockAt W60 w1.heap.size #[.int .u8 k, .slice (some ⟨g, 0, none⟩) ws.length cc] 25 := kp _ _ _ y59 (by omega)
              have hB60 : Below w1.heap.size w1 W60 := Below.grown hB59 hgr (by omega) (fun j hj => by have := Option.some.inj (show some b2 = some j from hj); omega)
              have e60 : BlockAt W60 b6 #[.int .i64 11] 3 := kp _ _ _ e59 (by omega)
              have n60 : BlockAt W60 b9 #[.int .u8 0, .slice none 0 0] 25 := kp _ _ _ n59 (by omega)
              have hk60 : b0 ≤ W60.heap.size := by omega
              have hg1g : b0 ≤ g1 := by omega
              have hne_b9_g1 : b9 ≠ g1 := by omega
              have hl60_b9 : b9 < W60.heap.size := by omega
              have hl60_b2 : b2 < W60.heap.size := by omega
              have hne_b6_g1 : b6 ≠ g1 := by omega
              have hl60_b6 : b6 < W60.heap.size := by omega
              clear kp hcase hat hgr hgs
              obtain ⟨a0, a1, _, _⟩ := y60.two
              refine hKq.out _ _ ?_ (fun hHeld => ?_)
              · (try dsimp only)
                exact ⟨a0, a1⟩
              clear hKq Kq a0 a1
              (try simp only [Act.put, List.setIfInBounds_toArray, List.set_cons_zero, List.set_cons_succ])
              refine wpAnyH_ready (rs := [7]) (by kernel_rfl) (by simp) ?_
              refine rd7 (fun Kq hKq => ?_) ?_
              · refine step_append_lies _ rfl (.tmp 36) (.tmp 37) 23 rfl b0 3 i0 (.int .i64 0) 1 8 Tryd.underlying23 hi hi0 hi1 hi2 rfl (by decide) _ ws.length _ rfl own60 ⟨b6, 0, none⟩ 1 1 (natCells [11]) rfl rfl (BlockAt.newCells e60 rfl) (natCells_one _) (by decide) (by unfold maxLen; omega) (by omega) (by omega) _ rfl ?_
                intro g2 cap2 W61 own61 hgr hat hlt
                have hgs := hgr.size
                have hcase : g1 = g2 ∨ g2 = W60.heap.size := by
                  rcases hat with h | h
                  · exact .inl (Option.some.inj h)
                  · exact .inr h
                have kp : ∀ id (cs : Array Value) t, BlockAt W60 id cs t → id ≠ g1 → BlockAt W61 id cs t := fun id cs t h hne => h.kept hgr (fun e => hne (Option.some.inj e))
                have y61 : BlockAt W61 w1.heap.size #[.int .u8 k, .slice (some ⟨g, 0, none⟩) ws.length cc] 25 := kp _ _ _ y60 (by omega)
                have hB61 : Below w1.heap.size w1 W61 := Below.grown hB60 hgr (by omega) (fun j hj => by have := Option.some.inj (show some g1 = some j from hj); omega)
                have n61 : BlockAt W61 b9 #[.int .u8 0, .slice none 0 0] 25 := kp _ _ _ n60 (by omega)
                have hk61 : b0 ≤ W61.heap.size := by omega
                have hg2g : b0 ≤ g2 := by omega
                have hne_b9_g2 : b9 ≠ g2 := by omega
                have hl61_b9 : b9 < W61.heap.size := by omega
                have hne_b6_g2 : b6 ≠ g2 := by omega
                have hl61_b6 : b6 < W61.heap.size := by omega
                have hl61_g1 : g1 < W61.heap.size := by omega
                clear kp hcase hat hgr hgs
                obtain ⟨a0, a1, _, _⟩ := y61.two
                refine hKq.out _ _ ?_ (fun hHeld => ?_)
                · (try dsimp only)
                  exact ⟨a0, a1⟩
                clear hKq Kq a0 a1
                (try simp only [Act.put, List.setIfInBounds_toArray, List.set_cons_zero, List.set_cons_succ])
                refine rt8 (v := ?_) (by kernel_rfl) (by kernel_rfl) (by kernel_rfl) (fun _ _ _ h => h) (by rfl) hHeld ?_ ?_
                rotate_left
                · intro w' hSw
                  (try dsimp only at hSw)
                  go_simp <;> with_reducible rfl
                (try simp only [Act.put, List.setIfInBounds_toArray, List.set_cons_zero, List.set_cons_succ])
                refine wpAnyH_ready (rs := [10]) (by kernel_rfl) (by simp) ?_
                refine rd10 (fun Kq hKq => ?_) ?_
                · obtain ⟨q0, q1, q2, q3⟩ := n61.two
                  go_simp
                  have y9f := (n61.set20 (.int .u8 k)).set21 (.slice (some ⟨g2, 0, none⟩) (ws.length + 1) cap2)
                  have ownf := ownsRow_setCell_other (ownsRow_setCell_other own61 (a := ⟨b9, 0, none⟩) (by intro e; have e2 := Option.some.inj (show some g2 = some b9 from e); omega) (.int .u8 k)) (a := ⟨b9, 1, none⟩) (by intro e; have e2 := Option.some.inj (show some g2 = some b9 from e); omega) (.slice (some ⟨g2, 0, none⟩) (ws.length + 1) cap2)
                  have y62 := (y61.other (B' := b9) (j := 0) (by omega) (.int .u8 k)).other (B' := b9) (j := 1) (by omega) (.slice (some ⟨g2, 0, none⟩) (ws.length + 1) cap2)
                  have hB62 := (hB61.setCell (p := ⟨b9, 0, none⟩) (by show w1.heap.size ≤ b9; omega) (.int .u8 k)).setCell (p := ⟨b9, 1, none⟩) (by show w1.heap.size ≤ b9; omega) (.slice (some ⟨g2, 0, none⟩) (ws.length + 1) cap2)
                  obtain ⟨a0, a1, _, _⟩ := y62.two
                  refine hKq.out _ _ ?_ (fun hHeld => ?_)
                  · (try dsimp only)
                    exact ⟨a0, a1⟩
                  clear hKq Kq a0 a1
                  (try simp only [Act.put, List.setIfInBounds_toArray, List.set_cons_zero, List.set_cons_succ])
                  refine wpAnyH_done (by kernel_rfl) ?_ _
                  refine NoPanic.normal ?_
                  go_wp2_with fail
                  go_meet
                  exact ⟨b9, some ⟨g2, 0, none⟩, cap2, rfl, y9f, NatRow.of_owns (by rw [natCells_append]; exact ownf), y62, hB62⟩
                exact AllReadyH.nil
              exact AllReadyH.nil
            exact AllReadyH.nil
          exact AllReadyH.nil
        refine rd6 (fun Kq hKq => ?_) ?_
        · go_simp
          obtain ⟨W63, hW63⟩ : ∃ W63, W53.alloc (.cells #[.int .i64 11] 3) = W63 := ⟨_, rfl⟩
          obtain ⟨b6, hb6⟩ : ∃ b6, W53.heap.size = b6 := ⟨_, rfl⟩
          have hg63 : W63.heap.size = b6 + 1 := by rw [← hW63, ← hb6]; simp
          have y63 : BlockAt W63 w1.heap.size #[.int .u8 k, .slice (some ⟨g, 0, none⟩) ws.length cc] 25 := by rw [← hW63]; exact y53.alloc _
          have hB63 : Below w1.heap.size w1 W63 := by rw [← hW63]; exact hB53.alloc hB53.size _
          have sr63 : SrcAt W63 g ws := by rw [← hW63]; exact sr53.alloc _
          have n63 : BlockAt W63 b9 #[.int .u8 0, .slice none 0 0] 25 := by rw [← hW63]; exact n53.alloc _
          have e63 : BlockAt W63 b6 #[.int .i64 11] 3 := by rw [← hW63]; exact BlockAt.new_at hb6
          have hk63 : b0 ≤ W63.heap.size := by omega
          have hb6g : b0 ≤ b6 := by omega
          have hne_b9_b6 : b9 ≠ b6 := by omega
          have hl63_b9 : b9 < W63.heap.size := by omega
          have hl63_b6 : b6 < W63.heap.size := by omega
          rw [hW63, hb6]
          clear hW63 hb6 hg63
          obtain ⟨a0, a1, _, _⟩ := y63.two
          refine hKq.out _ _ ?_ (fun hHeld => ?_)
          · (try dsimp only)
            exact ⟨a0, a1⟩
          clear hKq Kq a0 a1
          (try simp only [Act.put, List.setIfInBounds_toArray, List.set_cons_zero, List.set_cons_succ])
          refine wpAnyH_ready (rs := [2]) (by kernel_rfl) (by simp) ?_
          refine rd2 (fun Kq hKq => ?_) ?_
          · go_simp
            obtain ⟨W64, hW64⟩ : ∃ W64, W63.alloc (.cells #[] 3) = W64 := ⟨_, rfl⟩
            obtain ⟨b2, hb2⟩ : ∃ b2, W63.heap.size = b2 := ⟨_, rfl⟩
            have hg64 : W64.heap.size = b2 + 1 := by rw [← hW64, ← hb2]; simp
            have y64 : BlockAt W64 w1.heap.size #[.int .u8 k, .slice (some ⟨g, 0, none⟩) ws.length cc] 25 := by rw [← hW64]; exact y63.alloc _
            have hB64 : Below w1.heap.size w1 W64 := by rw [← hW64]; exact hB63.alloc hB63.size _
            have sr64 : SrcAt W64 g ws := by rw [← hW64]; exact sr63.alloc _
            have e64 : BlockAt W64 b6 #[.int .i64 11] 3 := by rw [← hW64]; exact e63.alloc _
            have n64 : BlockAt W64 b9 #[.int .u8 0, .slice none 0 0] 25 := by rw [← hW64]; exact n63.alloc _
            have own64 : W64.ownsRow b0 3 1 (.slice (some ⟨b2, 0, none⟩) 0 0) 0 [] := by rw [← hW64]; exact own_empty hb2 (by omega)
            have hk64 : b0 ≤ W64.heap.size := by omega
            have hb2g : b0 ≤ b2 := by omega
            have hne_b9_b2 : b9 ≠ b2 := by omega
            have hl64_b9 : b9 < W64.heap.size := by omega
            have hne_b6_b2 : b6 ≠ b2 := by omega
            have hl64_b6 : b6 < W64.heap.size := by omega
            have hl64_b2 : b2 < W64.heap.size := by omega
            rw [hW64, hb2]
            clear hW64 hb2 hg64
            obtain ⟨a0, a1, _, _⟩ := y64.two
            refine hKq.out _ _ ?_ (fun hHeld => ?_)
            · (try dsimp only)
              exact ⟨a0, a1⟩
            clear hKq Kq a0 a1
            (try simp only [Act.put, List.setIfInBounds_toArray, List.set_cons_zero, List.set_cons_succ])
            refine wpAnyH_ready (rs := [5]) (by kernel_rfl) (by simp) ?_
            refine rd5 (fun Kq hKq => ?_) ?_
            · refine step_append_lies _ rfl (.tmp 33) (.tmp 35) 23 rfl b0 3 i0 (.int .i64 0) 1 8 Tryd.underlying23 hi hi0 hi1 hi2 rfl (by decide) _ 0 [] rfl own64 ⟨g, 0, none⟩ ws.length cc (natCells ws) rfl (by simp [natCells]) sr64.get (natCells_one _) hwpos (by unfold maxLen; omega) (by omega) (by omega) _ rfl ?_
              intro g1 cap1 W65 own65 hgr hat hlt
              simp only [Nat.zero_add, List.nil_append] at own65
              rw [Nat.zero_add]
              have hgs := hgr.size
              have hcase : b2 = g1 ∨ g1 = W64.heap.size := by
                rcases hat with h | h
                · exact .inl (Option.some.inj h)
                · exact .inr h
              have kp : ∀ id (cs : Array Value) t, BlockAt W64 id cs t → id ≠ b2 → BlockAt W65 id cs t := fun id cs t h hne => h.kept hgr (fun e => hne (Option.some.inj e))
              have y65 : BlockAt W65 w1.heap.size #[.int .u8 k, .slice (some ⟨g, 0, none⟩) ws.length cc] 25 := kp _ _ _ y64 (by omega)
              have hB65 : Below w1.heap.size w1 W65 := Below.grown hB64 hgr (by omega) (fun j hj => by have := Option.some.inj (show some b2 = some j from hj); omega)
              have e65 : BlockAt W65 b6 #[.int .i64 11] 3 := kp _ _ _ e64 (by omega)
              have n65 : BlockAt W65 b9 #[.int .u8 0, .slice none 0 0] 25 := kp _ _ _ n64 (by omega)
              have hk65 : b0 ≤ W65.heap.size := by omega
              have hg1g : b0 ≤ g1 := by omega
              have hne_b9_g1 : b9 ≠ g1 := by omega
              have hl65_b9 : b9 < W65.heap.size := by omega
              have hne_b6_g1 : b6 ≠ g1 := by omega
              have hl65_b6 : b6 < W65.heap.size := by omega
              have hl65_b2 : b2 < W65.heap.size := by omega
              clear kp hcase hat hgr hgs
              obtain ⟨a0, a1, _, _⟩ := y65.two
              refine hKq.out _ _ ?_ (fun hHeld => ?_)
              · (try dsimp only)
                exact ⟨a0, a1⟩
              clear hKq Kq a0 a1
              (try simp only [Act.put, List.setIfInBounds_toArray, List.set_cons_zero, List.set_cons_succ])
              refine wpAnyH_ready (rs := [7]) (by kernel_rfl) (by simp) ?_
              refine rd7 (fun Kq hKq => ?_) ?_
              · refine step_append_lies _ rfl (.tmp 36) (.tmp 37) 23 rfl b0 3 i0 (.int .i64 0) 1 8 Tryd.underlying23 hi hi0 hi1 hi2 rfl (by decide) _ ws.length _ rfl own65 ⟨b6, 0, none⟩ 1 1 (natCells [11]) rfl rfl (BlockAt.newCells e65 rfl) (natCells_one _) (by decide) (by unfold maxLen; omega) (by omega) (by omega) _ rfl ?_
                intro g2 cap2 W66 own66 hgr hat hlt
                have hgs := hgr.size
                have hcase : g1 = g2 ∨ g2 = W65.heap.size := by
                  rcases hat with h | h
                  · exact .inl (Option.some.inj h)
                  · exact .inr h
                have kp : ∀ id (cs : Array Value) t, BlockAt W65 id cs t → id ≠ g1 → BlockAt W66 id cs t := fun id cs t h hne => h.kept hgr (fun e => hne (Option.some.inj e))
                have y66 : BlockAt W66 w1.heap.size #[.int .u8 k, .slice (some ⟨g, 0, none⟩) ws.length cc] 25 := kp _ _ _ y65 (by omega)
                have hB66 : Below w1.heap.size w1 W66 := Below.grown hB65 hgr (by omega) (fun j hj => by have := Option.some.inj (show some g1 = some j from hj); omega)
                have n66 : BlockAt W66 b9 #[.int .u8 0, .slice none 0 0] 25 := kp _ _ _ n65 (by omega)
                have hk66 : b0 ≤ W66.heap.size := by omega
                have hg2g : b0 ≤ g2 := by omega
                have hne_b9_g2 : b9 ≠ g2 := by omega
                have hl66_b9 : b9 < W66.heap.size := by omega
                have hne_b6_g2 : b6 ≠ g2 := by omega
                have hl66_b6 : b6 < W66.heap.size := by omega
                have hl66_g1 : g1 < W66.heap.size := by omega
                clear kp hcase hat hgr hgs
                obtain ⟨a0, a1, _, _⟩ := y66.two
                refine hKq.out _ _ ?_ (fun hHeld => ?_)
                · (try dsimp only)
                  exact ⟨a0, a1⟩
                clear hKq Kq a0 a1
                (try simp only [Act.put, List.setIfInBounds_toArray, List.set_cons_zero, List.set_cons_succ])
                refine rt8 (v := ?_) (by kernel_rfl) (by kernel_rfl) (by kernel_rfl) (fun _ _ _ h => h) (by rfl) hHeld ?_ ?_
                rotate_left
                · intro w' hSw
                  (try dsimp only at hSw)
                  go_simp <;> with_reducible rfl
                (try simp only [Act.put, List.setIfInBounds_toArray, List.set_cons_zero, List.set_cons_succ])
                refine wpAnyH_ready (rs := [10]) (by kernel_rfl) (by simp) ?_
                refine rd10 (fun Kq hKq => ?_) ?_
                · obtain ⟨q0, q1, q2, q3⟩ := n66.two
                  go_simp
                  have y9f := (n66.set20 (.int .u8 k)).set21 (.slice (some ⟨g2, 0, none⟩) (ws.length + 1) cap2)
                  have ownf := ownsRow_setCell_other (ownsRow_setCell_other own66 (a := ⟨b9, 0, none⟩) (by intro e; have e2 := Option.some.inj (show some g2 = some b9 from e); omega) (.int .u8 k)) (a := ⟨b9, 1, none⟩) (by intro e; have e2 := Option.some.inj (show some g2 = some b9 from e); omega) (.slice (some ⟨g2, 0, none⟩) (ws.length + 1) cap2)
                  have y67 := (y66.other (B' := b9) (j := 0) (by omega) (.int .u8 k)).other (B' := b9) (j := 1) (by omega) (.slice (some ⟨g2, 0, none⟩) (ws.length + 1) cap2)
                  have hB67 := (hB66.setCell (p := ⟨b9, 0, none⟩) (by show w1.heap.size ≤ b9; omega) (.int .u8 k)).setCell (p := ⟨b9, 1, none⟩) (by show w1.heap.size ≤ b9; omega) (.slice (some ⟨g2, 0, none⟩) (ws.length + 1) cap2)
                  obtain ⟨a0, a1, _, _⟩ := y67.two
                  refine hKq.out _ _ ?_ (fun hHeld => ?_)
                  · (try dsimp only)
                    exact ⟨a0, a1⟩
                  clear hKq Kq a0 a1
                  (try simp only [Act.put, List.setIfInBounds_toArray, List.set_cons_zero, List.set_cons_succ])
                  refine wpAnyH_done (by kernel_rfl) ?_ _
                  refine NoPanic.normal ?_
                  go_wp2_with fail
                  go_meet
                  exact ⟨b9, some ⟨g2, 0, none⟩, cap2, rfl, y9f, NatRow.of_owns (by rw [natCells_append]; exact ownf), y67, hB67⟩
                exact AllReadyH.nil
              exact AllReadyH.nil
            exact AllReadyH.nil
          exact AllReadyH.nil
        exact AllReadyH.nil
      exact AllReadyH.nil
  case rest =>
    obtain ⟨w4, hw4⟩ : ∃ w4, w4 = wc := ⟨_, rfl⟩
    subst hw4
    obtain ⟨B, pb, cb, rfl, xb, xn, xs, hY4⟩ := hcut
    have hbr := Lib.hid (bad_right HOK.out)
    have hrt := Lib.hid (right_of HOK.out)
    have hsys : ∀ W' : World, Below w4.heap.size w4 W' → SysIn W' k (ints ws) (.slice q ws.length cc) ∧ SysIn W' k (ints ws ++ [11]) (.slice pb (ws.length + 1) cb) := fun W' h => by
      have ht4 : Tabs w4 := (HT.out.below (Nat.le_refl _) hb1).below (Nat.le_refl _) hY4
      refine ⟨⟨(HN.out.row.below (Nat.le_refl _) (hY4.trans (h.mono hY4.size))).int, ht4.below (Nat.le_refl _) h⟩, ⟨?_, ht4.below (Nat.le_refl _) h⟩⟩
      have h2 := (xn.below (Nat.le_refl _) h).int
      simpa [ints] using h2
    have HSY := Lib.hid hsys
    have HXB := Lib.hid xb
    have HXS := Lib.hid xs
    have hX4 := hb1.trans (hY4.mono hw1)
    have hX4s := hX4.size
    clear hsys xb xn xs x2 hY2 p0 p1 v0
    have hY := Below.refl w4.heap.size w4
    obtain ⟨p0, p1, _, _⟩ := (HXB.out.below hY).two
    obtain ⟨p2, p3, _, _⟩ := (HXS.out.below hY).two
    have v0 := (HXB.out.below hY).lt
    have v1 := (HXS.out.below hY).lt
    go_wp2_with fail
    refine (check_any k _ _ _ _ (HSY.out _ hY).2 (by decide)).mono ?_
    rintro e wa1 ⟨rfl, hb⟩
    rw [bad_check hbr.out]
    have hYn := hY.trans (hb.mono hY.size)
    clear hY hb p0 p1 p2 p3 v0 v1
    have hY := hYn
    clear hYn
    obtain ⟨p0, p1, _, _⟩ := (HXB.out.below hY).two
    obtain ⟨p2, p3, _, _⟩ := (HXS.out.below hY).two
    have v0 := (HXB.out.below hY).lt
    have v1 := (HXS.out.below hY).lt
    go_wp2_with fail
    refine (append_any k _ _ _ _ (HSY.out _ hY).2 (by decide)).mono ?_
    rintro e wa2 ⟨Sa, rfl, hSa, hb⟩
    rw [bad_check hbr.out]
    clear hSa
    have hYn := hY.trans (hb.mono hY.size)
    clear hY hb p0 p1 p2 p3 v0 v1
    have hY := hYn
    clear hYn
    obtain ⟨p0, p1, _, _⟩ := (HXB.out.below hY).two
    obtain ⟨p2, p3, _, _⟩ := (HXS.out.below hY).two
    have v0 := (HXB.out.below hY).lt
    have v1 := (HXS.out.below hY).lt
    go_wp2_with fail
    refine (test_any k _ _ _ _ (HSY.out _ hY).2 (by decide)).mono ?_
    rintro e wa3 ⟨rfl, hb⟩
    rw [bad_chk hbr.out]
    have hYn := hY.trans (hb.mono hY.size)
    clear hY hb p0 p1 p2 p3 v0 v1
    have hY := hYn
    clear hYn
    obtain ⟨p0, p1, _, _⟩ := (HXB.out.below hY).two
    obtain ⟨p2, p3, _, _⟩ := (HXS.out.below hY).two
    have v0 := (HXB.out.below hY).lt
    have v1 := (HXS.out.below hY).lt
    go_wp2_with fail
    refine (fill_any k _ _ _ _ (HSY.out _ hY).2 (by decide)).mono ?_
    rintro e wa4 ⟨qq, Sb, hqq, rfl, hSb, hb⟩
    rw [bad_fill hbr.out]
    clear hqq hSb
    have hYn := hY.trans (hb.mono hY.size)
    clear hY hb p0 p1 p2 p3 v0 v1
    have hY := hYn
    clear hYn
    obtain ⟨p0, p1, _, _⟩ := (HXB.out.below hY).two
    obtain ⟨p2, p3, _, _⟩ := (HXS.out.below hY).two
    have v0 := (HXB.out.below hY).lt
    have v1 := (HXS.out.below hY).lt
    go_wp2_with fail
    refine (misses_any k _ _ 0 _ (HSY.out _ hY).2).mono ?_
    rintro e wa5 ⟨hcase, hb⟩
    rw [bad_miss hbr.out] at hcase
    rcases hcase with ⟨h0, _⟩ | ⟨_, rfl⟩
    · cases h0
    have hYn := hY.trans (hb.mono hY.size)
    clear hY hb p0 p1 p2 p3 v0 v1
    have hY := hYn
    clear hYn
    obtain ⟨p0, p1, _, _⟩ := (HXB.out.below hY).two
    obtain ⟨p2, p3, _, _⟩ := (HXS.out.below hY).two
    have v0 := (HXB.out.below hY).lt
    have v1 := (HXS.out.below hY).lt
    go_wp2_with fail
    refine (right_any k _ _ _ (HSY.out _ hY).2.row).mono ?_
    rintro e wa6 ⟨rfl, hb⟩
    rw [hbr.out]
    have hYn := hY.trans (hb.mono hY.size)
    clear hY hb p0 p1 p2 p3 v0 v1
    have hY := hYn
    clear hYn
    obtain ⟨p0, p1, _, _⟩ := (HXB.out.below hY).two
    obtain ⟨p2, p3, _, _⟩ := (HXS.out.below hY).two
    have v0 := (HXB.out.below hY).lt
    have v1 := (HXS.out.below hY).lt
    go_wp2_with fail
    refine (right_any k _ _ _ (HSY.out _ hY).1.row).mono ?_
    rintro e wa7 ⟨rfl, hb⟩
    rw [hrt.out]
    have hYn := hY.trans (hb.mono hY.size)
    clear hY hb p0 p1 p2 p3 v0 v1
    have hY := hYn
    clear hYn
    obtain ⟨p0, p1, _, _⟩ := (HXB.out.below hY).two
    obtain ⟨p2, p3, _, _⟩ := (HXS.out.below hY).two
    have v0 := (HXB.out.below hY).lt
    have v1 := (HXS.out.below hY).lt
    go_wp2_with fail
    refine (check_any k _ _ _ _ (HSY.out _ hY).1 (by decide)).mono ?_
    rintro e wa8 ⟨rfl, hb⟩
    rw [long_check hrt.out (by decide)]
    have hYn := hY.trans (hb.mono hY.size)
    clear hY hb p0 p1 p2 p3 v0 v1
    have hY := hYn
    clear hYn
    obtain ⟨p0, p1, _, _⟩ := (HXB.out.below hY).two
    obtain ⟨p2, p3, _, _⟩ := (HXS.out.below hY).two
    have v0 := (HXB.out.below hY).lt
    have v1 := (HXS.out.below hY).lt
    go_upto_region 13 with fail
    go_region_held3 (fun w' => w'.cell? ⟨w1.heap.size, 0, none⟩ = some (.int .u8 k) ∧ w'.cell? ⟨w1.heap.size, 1, none⟩ = some (.slice q ws.length cc)) (go_keep)
      (first
        | (go_at_call 13; with_reducible refine (append_any k _ _ Sp _ (HSY.out _ hZ).1 (by rw [← tx_len Sp, hSp, List.length_set]; decide)).mono ?_; rintro e wb2 ⟨Sc, rfl, _, hb2'⟩; rw [long_check hrt.out (by rw [hSp, List.length_set]; decide)]; have y2 : BlockAt wb2 w1.heap.size #[.int .u8 k, .slice q ws.length cc] 25 := BlockAt.below (by first | exact y1 | exact y1.drew) hb2'; obtain ⟨a0, a1, _, _⟩ := y2.two; have u2 := y2.lt; have hZ2 : Below w4.heap.size w4 wb2 := (by first | exact below_next3 hZ hZ.size hb2' | exact below_next4 hZ hZ.size hb2'))
        | (go_at_call 16; refine (put_any ⟨#[48, 49, 50, 51, 52, 53, 54, 55, 56, 57, 48, 49, 50, 51, 52, 53, 54, 55, 56, 57, 48, 49, 50, 51, 52, 53, 54, 55, 56, 57, 48]⟩ 3 97 _ (by decide) (by decide) (by decide)).mono ?_; rintro e wb1 ⟨Sp, rfl, hSp, hb1'⟩; have y1 : BlockAt wb1 w1.heap.size #[.int .u8 k, .slice q ws.length cc] 25 := BlockAt.below (by first | exact HXS.out.below hY | exact (HXS.out.below hY).drew) hb1'; obtain ⟨a0, a1, _, _⟩ := y1.two; have u1 := y1.lt; have hZ : Below w4.heap.size w4 wb1 := (by first | exact below_next3 hY hY.size hb1' | exact below_next4 hY hY.size hb1')))
    clear hY p0 p1 p2 p3 v0 v1 y1 y2 hb1' hb2' a0 a1 hZ u1 u2
    have hY := hZ2
    clear hZ2
    obtain ⟨p0, p1, _, _⟩ := (HXB.out.below hY).two
    obtain ⟨p2, p3, _, _⟩ := (HXS.out.below hY).two
    have v0 := (HXB.out.below hY).lt
    have v1 := (HXS.out.below hY).lt
    go_wp2_with fail
    refine (test_any k _ _ _ _ (HSY.out _ hY).1 (by decide)).mono ?_
    rintro e wa9 ⟨rfl, hb⟩
    rw [long_chk hrt.out (by decide)]
    have hYn := hY.trans (hb.mono hY.size)
    clear hY hb p0 p1 p2 p3 v0 v1
    have hY := hYn
    clear hYn
    obtain ⟨p0, p1, _, _⟩ := (HXB.out.below hY).two
    obtain ⟨p2, p3, _, _⟩ := (HXS.out.below hY).two
    have v0 := (HXB.out.below hY).lt
    have v1 := (HXS.out.below hY).lt
    go_wp2_with fail
    refine (fill_any k _ _ _ _ (HSY.out _ hY).1 (by decide)).mono ?_
    rintro e wa10 ⟨qq, Sd, hqq, rfl, hSd, hb⟩
    rw [long_fill hrt.out qq (by decide)]
    clear hqq hSd
    have hYn := hY.trans (hb.mono hY.size)
    clear hY hb p0 p1 p2 p3 v0 v1
    have hY := hYn
    clear hYn
    obtain ⟨p0, p1, _, _⟩ := (HXB.out.below hY).two
    obtain ⟨p2, p3, _, _⟩ := (HXS.out.below hY).two
    have v0 := (HXB.out.below hY).lt
    have v1 := (HXS.out.below hY).lt
    go_wp2_with fail
    refine (misses_any k _ _ 0 _ (HSY.out _ hY).1).mono ?_
    rintro e wa11 ⟨hcase, hb⟩
    rw [few_miss hrt.out (.inl (by decide))] at hcase
    rcases hcase with ⟨h0, _⟩ | ⟨_, rfl⟩
    · cases h0
    have hYn := hY.trans (hb.mono hY.size)
    clear hY hb p0 p1 p2 p3 v0 v1
    have hY := hYn
    clear hYn
    obtain ⟨p0, p1, _, _⟩ := (HXB.out.below hY).two
    obtain ⟨p2, p3, _, _⟩ := (HXS.out.below hY).two
    have v0 := (HXB.out.below hY).lt
    have v1 := (HXS.out.below hY).lt
    go_wp2_with fail
    refine (misses_any k _ _ 31 _ (HSY.out _ hY).1).mono ?_
    rintro e wa12 ⟨hcase, hb⟩
    rw [few_miss hrt.out (.inr (by decide))] at hcase
    rcases hcase with ⟨h0, _⟩ | ⟨_, rfl⟩
    · cases h0
    have hYn := hY.trans (hb.mono hY.size)
    clear hY hb p0 p1 p2 p3 v0 v1
    have hY := hYn
    clear hYn
    obtain ⟨p0, p1, _, _⟩ := (HXB.out.below hY).two
    obtain ⟨p2, p3, _, _⟩ := (HXS.out.below hY).two
    have v0 := (HXB.out.below hY).lt
    have v1 := (HXS.out.below hY).lt
    go_wp2_with fail
    refine (check_any k _ _ ⟨#[]⟩ _ (HSY.out _ hY).1 (by decide)).mono ?_
    rintro e wa13 ⟨rfl, hb⟩
    rw [show tx ⟨#[]⟩ = [] from rfl, short_check hrt.out]
    have hYn := hY.trans (hb.mono hY.size)
    clear hY hb p0 p1 p2 p3 v0 v1
    have hY := hYn
    clear hYn
    obtain ⟨p0, p1, _, _⟩ := (HXB.out.below hY).two
    obtain ⟨p2, p3, _, _⟩ := (HXS.out.below hY).two
    have v0 := (HXB.out.below hY).lt
    have v1 := (HXS.out.below hY).lt
    go_wp2_with fail
    refine (test_any k _ _ ⟨#[53]⟩ _ (HSY.out _ hY).1 (by decide)).mono ?_
    rintro e wa14 ⟨rfl, hb⟩
    rw [short_chk hrt.out (by decide)]
    have hYn := hY.trans (hb.mono hY.size)
    clear hY hb p0 p1 p2 p3 v0 v1
    have hY := hYn
    clear hYn
    obtain ⟨p0, p1, _, _⟩ := (HXB.out.below hY).two
    obtain ⟨p2, p3, _, _⟩ := (HXS.out.below hY).two
    have v0 := (HXB.out.below hY).lt
    have v1 := (HXS.out.below hY).lt
    go_wp2_with fail
    refine (fill_any k _ _ S1 _ (HSY.out _ hY).1 (by omega)).mono ?_
    rintro e wa15 ⟨qq, Se, hqq, rfl, hSe, hb⟩
    rw [HS1.out] at hqq
    obtain rfl := hqq.unique (b := none) (fun j e => by have := HPD.out 63 (List.mem_of_getElem? e); omega)
    rw [HS1.out, none_fill hrt.out (by omega) HPD.out]
    clear hqq hSe
    have hYn := hY.trans (hb.mono hY.size)
    clear hY hb p0 p1 p2 p3 v0 v1
    have hY := hYn
    clear hYn
    obtain ⟨p0, p1, _, _⟩ := (HXB.out.below hY).two
    obtain ⟨p2, p3, _, _⟩ := (HXS.out.below hY).two
    have v0 := (HXB.out.below hY).lt
    have v1 := (HXS.out.below hY).lt
    go_wp2_with fail
    refine (fill_any k _ _ ⟨#[63, 63]⟩ _ (HSY.out _ hY).1 (by decide)).mono ?_
    rintro e wa16 ⟨qq, Sf, hqq, rfl, hSf, hb⟩
    obtain rfl := hqq.unique (b := some 0) ⟨rfl, fun j hj => by omega⟩
    rw [show tx ⟨#[63, 63]⟩ = [63, 63] from rfl, two_fill hrt.out]
    clear hqq hSf
    have hYn := hY.trans (hb.mono hY.size)
    clear hY hb p0 p1 p2 p3 v0 v1
    have hY := hYn
    clear hYn
    obtain ⟨p0, p1, _, _⟩ := (HXB.out.below hY).two
    obtain ⟨p2, p3, _, _⟩ := (HXS.out.below hY).two
    have v0 := (HXB.out.below hY).lt
    have v1 := (HXS.out.below hY).lt
    go_wp2_with fail
    refine (fill_any k _ _ ⟨#[63]⟩ _ (HSY.out _ hY).1 (by decide)).mono ?_
    rintro e wa17 ⟨qq, Sg, hqq, rfl, hSg, hb⟩
    obtain rfl := hqq.unique (b := some 0) ⟨rfl, fun j hj => by omega⟩
    rw [show tx ⟨#[63]⟩ = [63] from rfl, one_fill hrt.out]
    clear hqq hSg
    have hYn := hY.trans (hb.mono hY.size)
    clear hY hb p0 p1 p2 p3 v0 v1
    have hY := hYn
    clear hYn
    obtain ⟨m, hm⟩ : ∃ m : Nat, (t.length : Int) - 1 = (m : Int) := ⟨t.length - 1, by omega⟩
    have hm2 : m = t.length - 1 := by omega
    have hmw : IntKind.i64.wrap (m : Int) = (m : Int) := by rw [IntKind.wrap_i64]; omega
    obtain ⟨E1, hE1⟩ : ∃ E1, (if 48 ≤ yc ∧ yc ≤ 57 then 0 else 161) = E1 := ⟨_, rfl⟩
    have HE1 := Lib.hid hE1
    clear hE1
    have HM2 := Lib.hid hm2
    clear hm2
    obtain ⟨p0, p1, _, _⟩ := (HXB.out.below hY).two
    obtain ⟨p2, p3, _, _⟩ := (HXS.out.below hY).two
    have v0 := (HXB.out.below hY).lt
    have v1 := (HXS.out.below hY).lt
    go_upto_region 27 with fail
    go_region_held3 (fun w' => w'.cell? ⟨w1.heap.size, 0, none⟩ = some (.int .u8 k) ∧ w'.cell? ⟨w1.heap.size, 1, none⟩ = some (.slice q ws.length cc)) (go_keep)
      (first
        | (go_at_call 19; with_reducible refine (check_any k _ _ Sp _ (HSY.out _ hZ).1 (by rw [← tx_len Sp, hSp, List.length_set, tx_len]; omega)).mono ?_; rintro e wb2 ⟨rfl, hb2'⟩; rw [hSp, HS1.out, HM2.out, byte_check hrt.out hpl1 hpl2 HPD.out, HE1.out]; have y2 : BlockAt wb2 w1.heap.size #[.int .u8 k, .slice q ws.length cc] 25 := BlockAt.below (by first | exact y1 | exact y1.drew) hb2'; obtain ⟨a0, a1, _, _⟩ := y2.two; have u2 := y2.lt; have hZ2 : Below w4.heap.size w4 wb2 := (by first | exact below_next3 hZ hZ.size hb2' | exact below_next4 hZ hZ.size hb2'))
        | (go_at_call 16; with_reducible refine (put_any S1 m yc _ (by omega) hyc (by omega)).mono ?_; rintro e wb1 ⟨Sp, rfl, hSp, hb1'⟩; have y1 : BlockAt wb1 w1.heap.size #[.int .u8 k, .slice q ws.length cc] 25 := BlockAt.below (by first | exact HXS.out.below hY | exact (HXS.out.below hY).drew) hb1'; obtain ⟨a0, a1, _, _⟩ := y1.two; have u1 := y1.lt; have hZ : Below w4.heap.size w4 wb1 := (by first | exact below_next3 hY hY.size hb1' | exact below_next4 hY hY.size hb1')))
    clear hY p0 p1 p2 p3 v0 v1 y1 y2 hb1' hb2' a0 a1 hZ u1 u2
    have hY := hZ2
    clear hZ2 hSp
    obtain ⟨p0, p1, _, _⟩ := (HXB.out.below hY).two
    obtain ⟨p2, p3, _, _⟩ := (HXS.out.below hY).two
    have v0 := (HXB.out.below hY).lt
    have v1 := (HXS.out.below hY).lt
    go_upto_region 28 with fail
    go_region_held3 (fun w' => w'.cell? ⟨w1.heap.size, 0, none⟩ = some (.int .u8 k) ∧ w'.cell? ⟨w1.heap.size, 1, none⟩ = some (.slice q ws.length cc)) (go_keep)
      (first
        | (go_at_call 20; with_reducible refine (test_any k _ _ (Sp ++ ⟨#[48]⟩) _ (HSY.out _ hZ).1 (by rw [ByteArray.size_append]; rw [show (⟨#[48]⟩ : ByteArray).size = 1 from rfl]; omega)).mono ?_; rintro e wb2 ⟨rfl, hb2'⟩; rw [tx_append, hSp, HS1.out, show tx ⟨#[48]⟩ = [48] from rfl, byte_chk hrt.out hpl1 hpl2 HPD.out, HE1.out]; have y2 : BlockAt wb2 w1.heap.size #[.int .u8 k, .slice q ws.length cc] 25 := BlockAt.below (by first | exact y1 | exact y1.drew) hb2'; obtain ⟨a0, a1, _, _⟩ := y2.two; have u2 := y2.lt; have hZ2 : Below w4.heap.size w4 wb2 := (by first | exact below_next3 hZ hZ.size hb2' | exact below_next4 hZ hZ.size hb2'))
        | (go_at_call 16; with_reducible refine (put0_any S1 yc _ (by omega) hyc (by omega)).mono ?_; rintro e wb1 ⟨Sp, rfl, hSp, hb1'⟩; have hSps : Sp.size ≤ 30 := (by rw [← tx_len Sp, hSp, List.length_set, tx_len]; omega); have hSpz : ¬ 9223372036854775807 < Sp.size + 1 := (by omega); have y1 : BlockAt wb1 w1.heap.size #[.int .u8 k, .slice q ws.length cc] 25 := BlockAt.below (by first | exact HXS.out.below hY | exact (HXS.out.below hY).drew) hb1'; obtain ⟨a0, a1, _, _⟩ := y1.two; have u1 := y1.lt; have hZ : Below w4.heap.size w4 wb1 := (by first | exact below_next3 hY hY.size hb1' | exact below_next4 hY hY.size hb1')))
    clear hY p0 p1 p2 p3 v0 v1 y1 y2 hb1' hb2' a0 a1 hZ u1 u2
    have hY := hZ2
    clear hZ2 hSp
    by_cases hd : 48 ≤ yc ∧ yc ≤ 57
    · have hE0 : E1 = 0 := by rw [← HE1.out, if_pos hd]
      have hd1 : (48 : Int) ≤ (yc : Int) := by omega
      have hd2 : (yc : Int) ≤ 57 := by omega
      subst hE0
      clear hd
      go_wp2_with fail
      refine (dawake_any _ (HSY.out _ hY).1.tabs).mono ?_
      rintro e wz ⟨rfl, hbz⟩
      go_wp2
      go_ret
      exact ⟨rfl, (hX4.trans (hY.mono hX4s)).trans (hbz.mono (by have := hY.size; omega))⟩
    · have hE0 : E1 = 161 := by rw [← HE1.out, if_neg hd]
      subst hE0
      by_cases hd1 : 48 ≤ yc
      · have hd1i : (48 : Int) ≤ (yc : Int) := by omega
        have hd2i : ¬ (yc : Int) ≤ 57 := by omega
        clear hd
        go_wp2_with fail
        refine (dawake_any _ (HSY.out _ hY).1.tabs).mono ?_
        rintro e wz ⟨rfl, hbz⟩
        go_wp2
        go_ret
        exact ⟨rfl, (hX4.trans (hY.mono hX4s)).trans (hbz.mono (by have := hY.size; omega))⟩
      · have hd1i : ¬ (48 : Int) ≤ (yc : Int) := by omega
        clear hd
        go_wp2_with fail
        refine (dawake_any _ (HSY.out _ hY).1.tabs).mono ?_
        rintro e wz ⟨rfl, hbz⟩
        go_wp2
        go_ret
        exact ⟨rfl, (hX4.trans (hY.mono hX4s)).trans (hbz.mono (by have := hY.size; omega))⟩
end Go.Proofs.YtnmnfbibjghjhaaDoor
