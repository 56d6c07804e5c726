/-
  Plain laws of values, and the reference's walks of complete and missed.
-/
import Derived.Deep.OwnRows
import Derived.Test.YtnmnfbibjghjhaaDoorEc
import Derived.Test.YtnmnfbibjghjhaaDoorDw
namespace Go.Proofs.YtnmnfbibjghjhaaDoor
open Go.RowKit Dig

theorem list_set_self {vs : List Nat} {p d : Nat} (h : vs[p]? = some d) : vs.set p d = vs := by
  apply List.ext_getElem?
  intro j
  by_cases e : p = j
  · subst e; rw [List.getElem?_set_self (List.getElem?_eq_some_iff.1 h).1, h]
  · rw [List.getElem?_set_ne e]
theorem list_set_split {vs : List Nat} {p : Nat} (h : p < vs.length) (z : Nat) : vs.set p z = vs.take p ++ z :: vs.drop (p + 1) := by rw [List.set_eq_take_append_cons_drop, if_pos h]
/-- Another value at a place. -/
theorem put_val {k : Nat} {ws vs : List Nat} (hk : k ≠ 4) (hr : result k ws vs = 0) {p d x : Nat} (hd : vs[p]? = some d) : (result k ws (vs.set p x) == 0) = missB k ws false p d x := by
  have hpl := (List.getElem?_eq_some_iff.1 hd).1
  rw [← list_set_self hd, list_set_split hpl] at hr
  rw [list_set_split hpl]
  have hA : (vs.take p).length = p := by rw [List.length_take]; omega
  unfold result at hr ⊢
  rw [if_neg hk, sum_at, hA] at hr ⊢
  unfold missB missD
  rw [if_neg (by decide)]
  rcases modOf_two k with hm | hm
  · rw [hm] at hr ⊢
    rw [Bool.eq_iff_iff, beq_iff_eq, decide_eq_true_iff]
    omega
  · rw [hm] at hr ⊢
    rw [Bool.eq_iff_iff, beq_iff_eq, decide_eq_true_iff]
    omega
theorem put_perm {ws vs : List Nat} (h10 : ∀ v ∈ vs, v < 10) (hr : result 4 ws vs = 0) {p d x : Nat} (hd : vs[p]? = some d) (hx : x < 10) (hne : x ≠ d) : (result 4 ws (vs.set p x) == 0) = false := by
  have hpl := (List.getElem?_eq_some_iff.1 hd).1
  rw [← list_set_self hd, list_set_split hpl] at hr
  rw [list_set_split hpl, beq_eq_false_iff_ne]
  intro he
  have e4 : ∀ l, result 4 ws l = result 4 [] l := fun l => by unfold result; rw [if_pos rfl, if_pos rfl]
  rw [e4] at hr he
  exact hne (one_value (k := 4) (ws := []) (.inl ⟨.inr rfl, rfl⟩) (by decide) (vs.take p) (vs.drop (p + 1)) (fun _ v hv => h10 v (List.mem_of_mem_take hv)) (fun _ v hv => h10 v (List.mem_of_mem_drop hv)) hx (h10 d (List.mem_of_getElem? hd)) he hr)
/-- Two neighbours exchanged. -/
theorem swap_val {k : Nat} {ws A B : List Nat} {u v : Nat} (hk : k ≠ 4) (hr : result k ws (A ++ u :: v :: B) = 0) : (result k ws (A ++ v :: u :: B) == 0) = missB k ws true A.length v u := by
  unfold result at hr ⊢
  rw [if_neg hk, sum_two] at hr ⊢
  unfold missB missD
  rw [if_pos rfl]
  rcases modOf_two k with hm | hm
  · rw [hm] at hr ⊢
    rw [Bool.eq_iff_iff, beq_iff_eq, decide_eq_true_iff]
    omega
  · rw [hm] at hr ⊢
    rw [Bool.eq_iff_iff, beq_iff_eq, decide_eq_true_iff]
    omega
theorem swap_perm {ws A B : List Nat} {u v : Nat} (h10 : ∀ x ∈ A ++ u :: v :: B, x < 10) (hr : result 4 ws (A ++ u :: v :: B) = 0) (hne : u ≠ v) : (result 4 ws (A ++ v :: u :: B) == 0) = false := by
  rw [beq_eq_false_iff_ne]
  intro he
  unfold result at hr he
  rw [if_pos rfl] at hr he
  have hAl : ∀ v ∈ A, v < 10 := fun v hv => h10 v (List.mem_append_left _ hv)
  have hu : u < 10 := h10 u (by simp)
  have hv : v < 10 := h10 v (by simp)
  have hBl : ∀ v ∈ B, v < 10 := fun v hv => h10 v (List.mem_append_right _ (List.mem_cons_of_mem _ (List.mem_cons_of_mem _ hv)))
  have hO := permFrom_lt A 0 0 (by decide) hAl
  have hR := permFrom_lt B (0 + A.length + 1 + 1) 0 (by decide) hBl
  have key : ∀ x y, x < 10 → y < 10 → permFrom 0 0 (A ++ x :: y :: B) = prod (prod (prod (permFrom 0 0 A) (turnN ((0 + A.length) % 8) x)) (turnN ((0 + A.length + 1) % 8) y)) (permFrom (0 + A.length + 1 + 1) 0 B) := fun x y hx hy => by
    rw [permFrom_append]
    show permFrom (0 + A.length + 1 + 1) (prod (prod (permFrom 0 0 A) (turnN ((0 + A.length) % 8) x)) (turnN ((0 + A.length + 1) % 8) y)) B = _
    rw [permFrom_out B _ _ (prod_lt _ (prod_lt _ hO _ (turnN_lt _ _ hx)) _ (turnN_lt _ _ hy)) hBl]
  rw [key _ _ hu hv] at hr
  rw [key _ _ hv hu] at he
  obtain ⟨m, hm⟩ : ∃ m, (0 + A.length) % 8 = m := ⟨_, rfl⟩
  have hturn : ∀ z, z < 10 → turnN ((0 + A.length + 1) % 8) z = turn1 (turnN m z) := fun z hz => by
    by_cases h7 : m = 7
    · rw [show (0 + A.length + 1) % 8 = 0 from by omega, h7]
      exact (turn_eight z hz).symm
    · rw [show (0 + A.length + 1) % 8 = m + 1 from by omega]; rfl
  rw [hturn _ hv, hm] at hr
  rw [hturn _ hu, hm] at he
  have t1 := turnN_lt m _ hv
  have t2 := turnN_lt m _ hu
  have q := prod_right _ hR _ (prod_lt _ (prod_lt _ hO _ t2) _ (turn_lt _ t1)) _ (prod_lt _ (prod_lt _ hO _ t1) _ (turn_lt _ t2)) (hr.trans he.symm)
  rw [prod_assoc _ hO _ t2 _ (turn_lt _ t1), prod_assoc _ hO _ t1 _ (turn_lt _ t2)] at q
  have q2 := prod_left _ hO _ (prod_lt _ t2 _ (turn_lt _ t1)) _ (prod_lt _ t1 _ (turn_lt _ t2)) q
  exact hne (turnN_inj _ _ _ hu hv (turn_pair _ t2 _ t1 q2))

/-- A block that holds numbers from its head on. -/
structure NumRow (W : World) (B : Nat) (l : List Nat) : Prop where
  lt : B < W.heap.size
  cell : ∀ j c : Nat, l[j]? = some c → W.cell? ⟨B, j, none⟩ = some (.int .i64 (c : Int))
  open' : ∀ j : Nat, j < l.length → W.frozen? ⟨B, j, none⟩ = false
theorem NumRow.below {B C : Nat} {W W' : World} {l : List Nat} (h : NumRow W B l) (hB : W.heap.size ≤ C) (hb : Below C W W') : NumRow W' B l := by
  have hl : B < C := Nat.lt_of_lt_of_le h.lt hB
  exact ⟨Nat.lt_of_lt_of_le h.lt hb.size, fun j c hj => (hb.cell (p := ⟨B, j, none⟩) hl).trans (h.cell j c hj), fun j hj => (World.frozen?_of_block (hb.block B hl)).trans (h.open' j hj)⟩
theorem NumRow.set {B : Nat} {W : World} {l : List Nat} (h : NumRow W B l) {i : Nat} (hi : i < l.length) (c : Nat) : NumRow (W.setCell ⟨B, i, none⟩ (.int .i64 (c : Int))) B (l.set i c) := by
  refine ⟨by simpa using h.lt, fun j d hj => ?_, fun j hj => ?_⟩
  · by_cases e : i = j
    · subst e
      rw [List.getElem?_set_self hi] at hj
      cases hj
      have hc := h.cell i _ (List.getElem?_eq_getElem hi)
      first | exact World.cell?_setCell_same _ _ _ hc | exact World.cell?_setCell_same _ hc | exact World.cell?_setCell_same _ _ hc | exact World.cell?_setCell_same _ _ _ _ hc
    · rw [List.getElem?_set_ne e] at hj
      have hne : (⟨B, i, none⟩ : Addr) ≠ ⟨B, j, none⟩ := by intro e'; cases e'; exact e rfl
      refine Eq.trans ?_ (h.cell j d hj)
      first | exact World.cell?_setCell_other _ _ _ hne | exact World.cell?_setCell_other _ hne | exact World.cell?_setCell_other _ _ hne | exact World.cell?_setCell_other _ _ _ _ hne
  · rw [World.frozen?_setCell]
    exact h.open' j (by simpa using hj)
theorem NumRow.row {W : World} {B : Nat} {l : List Nat} (h : NumRow W B l) (c : Nat) : NatRow W (.slice (some ⟨B, 0, none⟩) l.length c) l :=
  ⟨_, c, rfl, .inr ⟨B, 0, rfl, h.lt, fun j x hx => by rw [Nat.zero_add]; exact h.cell j x hx⟩⟩
theorem NumRow.made {W : World} {n B : Nat} (hB : W.heap.size = B) : NumRow (W.alloc (.cells (madeCells #[.int .i64 0] n) 3)) B (List.replicate n 0) := by
  have hb : BlockAt (W.alloc (.cells (madeCells #[.int .i64 0] n) 3)) B (madeCells #[.int .i64 0] n) 3 := BlockAt.new_at hB
  have hm : ∀ j, j < n → (madeCells #[.int .i64 0] n)[j]? = some (.int .i64 0) := fun j hj => by
    unfold madeCells
    rw [Array.getElem?_map, Array.getElem?_eq_getElem (by simpa using hj)]
    simp [Nat.mod_one]
  refine ⟨hb.lt, fun j c hj => ?_, fun j hj => ?_⟩
  · have hjn : j < n := by have := (List.getElem?_eq_some_iff.1 hj).1; simpa using this
    rw [List.getElem?_replicate, if_pos hjn] at hj
    cases hj
    unfold BlockAt at hb
    simp [World.cell?, hb, hm j hjn]
  · unfold BlockAt at hb
    simp [World.frozen?, hb]
/-- The first value is replaced. -/
theorem set_zero (x : Nat) : ∀ vs : List Nat, vs ≠ [] → vs.set 0 x = x :: vs.drop 1
  | [], h => absurd rfl h
  | _ :: _, _ => rfl

def cellNat (W : World) (g : Nat) : Nat := match W.cell? ⟨g, 0, none⟩ with
  | some (.int _ i) => i.toNat
  | _ => 0
/-- Values below this are tried at the first place. -/
def topOf (k : Nat) : Nat := if k = 2 then 11 else 10
/-- Some value of the first place makes the values pass. -/
theorem first_ex {k : Nat} {ws vs : List Nat} (hne : vs ≠ []) (h9 : ∀ v ∈ vs, v < 10) : ∃ L, L < topOf k ∧ result k ws (vs.set 0 L) = 0 := by
  have hd : ∀ v ∈ vs.drop 1, v < 10 := fun v hv => h9 v (List.mem_of_mem_drop hv)
  refine ⟨lastOf k ws (0 :: vs.drop 1), lastOf_lt k ws _ (fun _ v hv => ?_), ?_⟩
  · rcases List.mem_cons.1 hv with rfl | hv
    · decide
    · exact hd v hv
  · rw [set_zero _ _ hne]
    exact last_passes k ws _ (fun _ => hd)
set_option maxHeartbeats 4000000 in
theorem complete_any (k : Nat) (ws vs : List Nat) (wv : Value) (g n c B : Nat) (w : World) (hok : SysOk k ws) (hB : B ≤ g) (hw : ∀ W : World, Below B w W → NatRow W wv ws) (hv : NumRow w g vs) (hn : vs.length = n) (hn1 : 1 ≤ n) (hl : n ≤ 31) (h9 : ∀ v ∈ vs, v < 10) :
    Calls Tryd.prog 46 #[.int .u8 k, wv, .slice (some ⟨g, 0, none⟩) n c] w fun e w' => ∃ x, x < topOf k ∧ result k ws (vs.set 0 x) = 0 ∧ e = .returned (.slice (some ⟨g, 0, none⟩) n c) ∧ NumRow w' g (vs.set 0 x) ∧ Below B w w' := by
  have hne : vs ≠ [] := fun e => by rw [e] at hn; simp at hn; omega
  obtain ⟨L, hL, hLr⟩ := first_ex (k := k) (ws := ws) hne h9
  obtain ⟨v0, hv0⟩ : ∃ v0, vs[0]? = some v0 := ⟨_, List.getElem?_eq_getElem (by omega)⟩
  have c0 := hv.cell 0 v0 hv0
  have f0 := hv.open' 0 (by omega)
  have hn1i : (1 : Int) ≤ (n : Int) := by omega
  have hn0i : (0 : Int) < (n : Int) := by omega
  have r0 : NumRow (w.setCell ⟨g, 0, none⟩ (.int .i64 0)) g (vs.set 0 0) := hv.set (by omega) 0
  have hY : Below B w (w.setCell ⟨g, 0, none⟩ (.int .i64 0)) := (Below.refl _ w).setCell hB _
  have vg := hv.lt
  have HW := Lib.hid hw
  have HOK := Lib.hid hok
  have HN := Lib.hid hn
  have HL := Lib.hid hL
  have HLR := Lib.hid hLr
  have H9 := Lib.hid h9
  have hwf : ∃ pw cw, wv = .slice pw ws.length cw := by
    obtain ⟨pw, cw, h, _⟩ := hw w (Below.refl _ w)
    exact ⟨pw, cw, h⟩
  obtain ⟨pw, cw, rfl⟩ := hwf
  clear hw hok hn hL hLr h9 hne hv hv0
  go_enter Tryd.func46, Tryd.ntmps46
  go_wp2
  go_loopw [] (fun wr => ∃ x : Nat, x < topOf k ∧ NumRow wr g (vs.set 0 x) ∧ Hid (∀ y, y < x → result k ws (vs.set 0 y) ≠ 0) ∧ Below B w wr)
    (fun wr => 11 - cellNat wr g)
  case atStart => exact ⟨0, by unfold topOf; split <;> omega, r0, Lib.hid fun y hy => by omega, hY⟩
  case round =>
    clear r0 hY c0 f0
    obtain ⟨x, hx, r0, hno, hY⟩ := hrel
    have hlen : (vs.set 0 x).length = n := by rw [List.length_set, HN.out]
    have hx0 : (vs.set 0 x)[0]? = some x := List.getElem?_set_self (by rw [HN.out]; omega)
    have c0 := r0.cell 0 x hx0
    have f0 := r0.open' 0 (by rw [hlen]; omega)
    have hxw : IntKind.i64.wrap ((x : Int) + 1) = (x : Int) + 1 := by rw [IntKind.wrap_i64]; unfold topOf at hx; split at hx <;> omega
    have hx11 : (x : Int) < 11 := by unfold topOf at hx; split at hx <;> omega
    have hcn : cellNat wr g = x := by unfold cellNat; rw [c0]; simp
    have hp := rpasses_any k ws (vs.set 0 x) (.slice pw ws.length cw) (.slice (some ⟨g, 0, none⟩) n c) wr HOK.out (HW.out wr hY) (by have := r0.row c; rwa [hlen] at this) (by rw [hlen]; exact hl) (fun v hv => by
        rcases List.mem_or_eq_of_mem_set hv with hv | rfl
        · have := H9.out v hv; omega
        · unfold topOf at hx; split at hx <;> omega) (fun h2 v hv => by
        rcases List.mem_or_eq_of_mem_set hv with hv | rfl
        · exact H9.out v hv
        · unfold topOf at hx; rw [if_neg h2] at hx; exact hx)
    have HP := Lib.hid hp
    have HX := Lib.hid hx
    have HLE := Lib.hid hlen
    have HCN := Lib.hid hcn
    have vgr := r0.lt
    have hBs : B ≤ wr.heap.size := Nat.le_trans hB (Nat.le_of_lt vgr)
    have HBS := Lib.hid hBs
    have fin : ∀ (wz : World), Below wr.heap.size wr wz → result k ws (vs.set 0 x) ≠ 0 → (x + 1 < topOf k) ∧ NumRow (wz.setCell ⟨g, 0, none⟩ (.int .i64 ((x : Int) + 1))) g (vs.set 0 (x + 1)) ∧ Below B w (wz.setCell ⟨g, 0, none⟩ (.int .i64 ((x : Int) + 1))) := fun wz hb hne => by
      refine ⟨?_, ?_, ?_⟩
      · have h1 : ¬ L ≤ x := fun h => by
          by_cases e : L = x
          · rw [← e] at hne; exact hne HLR.out
          · exact hno.out L (by omega) HLR.out
        have := HL.out
        omega
      · have h1 := ((r0.below (Nat.le_refl _) hb).set (i := 0) (by rw [hlen]; omega) (x + 1))
        rw [List.set_set] at h1
        exact h1
      · exact (hY.trans (hb.mono hBs)).setCell hB _
    have HFIN := Lib.hid fin
    clear hp hx hlen hcn fin hx0
    by_cases h10 : x < 10
    · have h10i : (x : Int) < 10 := by omega
      go_wp2_with fail
      refine HP.out.mono ?_
      rintro e w2 ⟨rfl, hb2⟩
      have r2 := r0.below (Nat.le_refl _) hb2
      have c2 := r2.cell 0 x (List.getElem?_set_self (by rw [HN.out]; omega))
      have f2 := r2.open' 0 (by rw [HLE.out]; omega)
      have vg2 := r2.lt
      by_cases h0 : result k ws (vs.set 0 x) = 0
      · rw [show (result k ws (vs.set 0 x) == 0) = true from beq_iff_eq.2 h0]
        have H0 := Lib.hid h0
        clear h0
        go_wp2
        go_ret
        exact ⟨x, HX.out, H0.out, rfl, r2, hY.trans (hb2.mono HBS.out)⟩
      · rw [show (result k ws (vs.set 0 x) == 0) = false from beq_eq_false_iff_ne.2 h0]
        obtain ⟨e1, e2, e3⟩ := HFIN.out w2 hb2 h0
        have HNO : Hid (∀ y, y < x + 1 → result k ws (vs.set 0 y) ≠ 0) := Lib.hid fun y hy => by
          by_cases e : y = x
          · rw [e]; exact h0
          · exact hno.out y (by omega)
        have HE1 := Lib.hid e1
        clear h0 e1
        go_wp2
        go_roundw
        case rel => exact ⟨x + 1, HE1.out, e2, HNO, e3⟩
        case measure =>
          have h1 : cellNat (w2.setCell ⟨g, 0, none⟩ (.int .i64 ((x : Int) + 1))) g = x + 1 := by
            unfold cellNat
            rw [e2.cell 0 (x + 1) (List.getElem?_set_self (by rw [HN.out]; omega))]
            simp
          rw [h1, HCN.out]
          omega
    · have hk2 : k = 2 := by
        by_cases h : k = 2
        · exact h
        · have := HX.out; unfold topOf at this; rw [if_neg h] at this; omega
      have h10i : ¬ (x : Int) < 10 := by omega
      have hk2i : ((k : Int) == 2) = true := by rw [beq_iff_eq]; omega
      have HK2 := Lib.hid hk2
      clear hk2 h10
      go_wp2_with fail
      refine HP.out.mono ?_
      rintro e w2 ⟨rfl, hb2⟩
      have r2 := r0.below (Nat.le_refl _) hb2
      have c2 := r2.cell 0 x (List.getElem?_set_self (by rw [HN.out]; omega))
      have f2 := r2.open' 0 (by rw [HLE.out]; omega)
      have vg2 := r2.lt
      by_cases h0 : result k ws (vs.set 0 x) = 0
      · rw [show (result k ws (vs.set 0 x) == 0) = true from beq_iff_eq.2 h0]
        have H0 := Lib.hid h0
        clear h0
        go_wp2
        go_ret
        exact ⟨x, HX.out, H0.out, rfl, r2, hY.trans (hb2.mono HBS.out)⟩
      · exfalso
        have h1 := (HFIN.out w2 hb2 h0).1
        unfold topOf at h1
        rw [if_pos HK2.out] at h1
        omega
end Go.Proofs.YtnmnfbibjghjhaaDoor
