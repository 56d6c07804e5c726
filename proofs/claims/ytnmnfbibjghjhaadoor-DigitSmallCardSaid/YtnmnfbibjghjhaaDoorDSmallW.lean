/-
  The walk of DigitSmall.
-/
import Derived.Test.YtnmnfbibjghjhaaDoorDMissesW
namespace Go.Proofs.YtnmnfbibjghjhaaDoor
open Go.RowKit Dig

theorem slice_12 (a : Nat) (h : a < 12) : ∃ D : ByteArray, D.size = 1 ∧ ∀ W : World, (Instr.slice 9 (.string ⟨#[48, 49, 50, 51, 52, 53, 54, 55, 56, 57, 88, 63]⟩) (some (.int .i64 (a : Int))) (some (.int .i64 ((a : Int) + 1))) none).run Tryd.prog W = .ok (.string D) W := by
  rcases (by omega : a = 0 ∨ a = 1 ∨ a = 2 ∨ a = 3 ∨ a = 4 ∨ a = 5 ∨ a = 6 ∨ a = 7 ∨ a = 8 ∨ a = 9 ∨ a = 10 ∨ a = 11) with rfl | rfl | rfl | rfl | rfl | rfl | rfl | rfl | rfl | rfl | rfl | rfl
  · exact ⟨⟨#[48]⟩, rfl, fun W => by kernel_rfl⟩
  · exact ⟨⟨#[49]⟩, rfl, fun W => by kernel_rfl⟩
  · exact ⟨⟨#[50]⟩, rfl, fun W => by kernel_rfl⟩
  · exact ⟨⟨#[51]⟩, rfl, fun W => by kernel_rfl⟩
  · exact ⟨⟨#[52]⟩, rfl, fun W => by kernel_rfl⟩
  · exact ⟨⟨#[53]⟩, rfl, fun W => by kernel_rfl⟩
  · exact ⟨⟨#[54]⟩, rfl, fun W => by kernel_rfl⟩
  · exact ⟨⟨#[55]⟩, rfl, fun W => by kernel_rfl⟩
  · exact ⟨⟨#[56]⟩, rfl, fun W => by kernel_rfl⟩
  · exact ⟨⟨#[57]⟩, rfl, fun W => by kernel_rfl⟩
  · exact ⟨⟨#[88]⟩, rfl, fun W => by kernel_rfl⟩
  · exact ⟨⟨#[63]⟩, rfl, fun W => by kernel_rfl⟩
set_option maxRecDepth 100000 in
set_option maxHeartbeats 16000000 in
theorem digitsmall_any (w : World) (ht : Tabs w) : Calls Tryd.prog 8 #[] w fun e w' => e = .returned (.bool true) ∧ Below w.heap.size w w' := by
  have HT := Lib.hid ht
  clear ht
  go_enter Tryd.func8, Tryd.ntmps8
  go_wp2
  go_loopw [1] (fun kv wr => ∃ K : Nat, kv = .int .i64 K ∧ K ≤ 6 ∧ Below w.heap.size w wr)
    (fun kv _ => 6 - (intOf kv).toNat)
  case atStart => exact ⟨0, rfl, by omega, Below.refl _ w⟩
  case round =>
    obtain ⟨K, rfl, hK6, hY⟩ := hrel
    have hwK : IntKind.i64.wrap ((K : Int) + 1) = (K : Int) + 1 := by rw [IntKind.wrap_i64]; omega
    by_cases hK : K < 6
    · have hKi : (K : Int) < 6 := by omega
      have hwK8 : IntKind.u8.wrap (K : Int) = (K : Int) := by rw [IntKind.wrap_u8]; omega
      go_wp2
      go_loopw [2] (fun jv wr => ∃ j : Nat, jv = .int .i64 ((j : Int) - 1) ∧ j ≤ 14 ∧ Below w.heap.size w wr)
        (fun jv _ => 14 - (intOf jv + 1).toNat)
      case atStart => exact ⟨0, rfl, by omega, hY⟩
      case round =>
        clear hY
        obtain ⟨j, rfl, hj14, hY⟩ := hrel
        have hwj : IntKind.i64.wrap ((j : Int) - 1 + 1) = (j : Int) := by rw [IntKind.wrap_i64]; omega
        by_cases hj : j < 14
        · rcases (by omega : j = 0 ∨ j = 13 ∨ (1 ≤ j ∧ j ≤ 12)) with rfl | rfl | ⟨hj1, hj12⟩
          · rw [show ((0 : Nat) : Int) - 1 = -1 from rfl]
            go_upto_region 12 with fail
            have hx : BlockAt ((wr.alloc (.cells #[.int .i64 (-1)] 3)).alloc (.cells #[.int .u8 K, .slice none 0 0] 25)) (wr.heap.size + 1) #[.int .u8 K, .slice none 0 0] 25 := BlockAt.new_at (by simp)
            have hN : NatRow ((wr.alloc (.cells #[.int .i64 (-1)] 3)).alloc (.cells #[.int .u8 K, .slice none 0 0] 25)) (.slice none 0 0) ([] : List Nat) := NatRow.nil _
            have hYW : Below w.heap.size w ((wr.alloc (.cells #[.int .i64 (-1)] 3)).alloc (.cells #[.int .u8 K, .slice none 0 0] 25)) := (hY.alloc hY.size _).alloc (by have := hY.size; simp; omega) _
            obtain ⟨W0, hW0⟩ : ∃ W0, (wr.alloc (.cells #[.int .i64 (-1)] 3)).alloc (.cells #[.int .u8 K, .slice none 0 0] 25) = W0 := ⟨_, rfl⟩
            obtain ⟨B0, hB0⟩ : ∃ B0, wr.heap.size + 1 = B0 := ⟨_, rfl⟩
            obtain ⟨vs, hvs⟩ : ∃ vs : List Nat, ([] : List Nat) = vs := ⟨_, rfl⟩
            obtain ⟨wv, hwv⟩ : ∃ wv : Value, (.slice none 0 0 : Value) = wv := ⟨_, rfl⟩
            rw [hW0] at hx hN hYW ⊢
            rw [hwv] at hx hN
            (try rw [hwv])
            rw [hB0] at hx
            (try rw [hB0])
            rw [hvs] at hN
            clear hW0 hB0 hvs hwv hY
            have hsys : ∀ W' : World, Below W0.heap.size W0 W' → SysIn W' K (ints vs) wv := fun W' h => ⟨(hN.below (Nat.le_refl _) h).int, (HT.out.below (Nat.le_refl _) hYW).below (Nat.le_refl _) h⟩
            have HSY := Lib.hid hsys
            have HXB := Lib.hid hx
            have HYW := Lib.hid hYW
            have z0 := Below.refl W0.heap.size W0
            obtain ⟨R, hR⟩ : ∃ R, rightB K (ints vs) = R := ⟨_, rfl⟩
            have HR := Lib.hid hR
            obtain ⟨p0, p1, _, _⟩ := hx.two
            clear hsys hx hYW hR hN
            go_region_held3 (fun w' => w'.cell? ⟨B0, 0, none⟩ = some (.int .u8 K) ∧ w'.cell? ⟨B0, 1, none⟩ = some wv) (go_keep)
              (first
                | (go_at_call 22; with_reducible refine (right_any K (ints vs) wv _ (HSY.out _ z0.drew).row).mono ?_; rintro e w3 ⟨rfl, hb3⟩; rw [HR.out]; have z3 : Below W0.heap.size W0 w3 := below_after z0 z0.size hb3; obtain ⟨a0, a1, _, _⟩ := (HXB.out.below z3).two)
                | (go_at_call 27; with_reducible refine (rright_any K (ints vs) wv _ (HSY.out _ z3).row).mono ?_; rintro e w4 ⟨rfl, hb4⟩; rw [HR.out]; have z4 : Below W0.heap.size W0 w4 := z3.trans (hb4.mono z3.size); obtain ⟨a0, a1, _, _⟩ := (HXB.out.below z4).two)
                | fail)
            clear p0 p1 a0 a1 z0 z3 hb3 hb4
            go_wp2_with fail
            go_loopw [4] (fun nv wr => ∃ q : Nat, nv = .int .i64 ((q : Int) - 1) ∧ q ≤ 6 ∧ Below W0.heap.size W0 wr)
              (fun nv _ => 6 - (intOf nv + 1).toNat)
            case atStart => exact ⟨0, rfl, by omega, z4⟩
            case round =>
              clear z4
              obtain ⟨q, rfl, hq6, z⟩ := hrel
              obtain ⟨n, hn⟩ : ∃ n, (q : Int) - 1 = n := ⟨_, rfl⟩
              rw [hn]
              have hwn : IntKind.i64.wrap (n + 1) = (q : Int) := by rw [IntKind.wrap_i64]; omega
              obtain ⟨p0, p1, _, _⟩ := (HXB.out.below z).two
              have v0 := (HXB.out.below z).lt
              by_cases hq : q < 6
              · have hni : n < 5 := by omega
                obtain ⟨L, hL⟩ : ∃ L, mOut K (ints vs) n = L := ⟨_, rfl⟩
                have hLn := mOut_len K (ints vs) n
                rw [hL] at hLn
                obtain ⟨m, hm⟩ : ∃ m, L.length = m := ⟨_, rfl⟩
                obtain ⟨E, hE⟩ : ∃ E, missErr K (ints vs) n = E := ⟨_, rfl⟩
                have hrm := rmisses2 K (ints vs) wv n wr (HSY.out _ z).row
                have hpm := fun (W : World) (h : Below W0.heap.size W0 W) => misses2 K (ints vs) wv n W (HSY.out _ h)
                rw [hL, hm, hE] at hrm
                simp only [hL, hm, hE] at hpm
                have HRM := Lib.hid hrm
                have HPM := Lib.hid hpm
                have HLN := Lib.hid hLn
                clear hrm hpm hL hm hE hLn
                have HQN := Lib.hid hn
                clear hn
                go_wp2_with fail
                refine HRM.out.mono ?_
                rintro e w3 ⟨pb, cb, rfl, hmb, hb3⟩
                have z3 := z.trans (hb3.mono z.size)
                have HMB := Lib.hid hmb
                clear hmb hb3 p0 p1 v0 z
                obtain ⟨p0, p1, _, _⟩ := (HXB.out.below z3).two
                have v0 := (HXB.out.below z3).lt
                go_wp2_with fail
                refine (HPM.out w3 z3).mono ?_
                rintro e w4 ⟨pa, ca, rfl, hma, _, hb4⟩
                have z4 := z3.trans (hb4.mono z3.size)
                have HMA := Lib.hid hma
                have HMB4 := Lib.hid (HMB.out.below (Nat.le_refl _) hb4)
                clear hma hb4 p0 p1 v0 z3
                go_wp2_with fail
                refine (listed_any L _ _ w4 HMA.out HMB4.out HLN.out).mono ?_
                rintro e w5 ⟨rfl, hb5⟩
                have z5 := z4.trans (hb5.mono z4.size)
                clear hb5 z4
                go_wp2
                go_roundw
                case rel => exact ⟨q + 1, by rw [show (((q + 1 : Nat) : Int) - 1) = (q : Int) from by omega], by omega, z5⟩
                case measure =>
                  have hqn := HQN.out
                  simp [intOf] <;> omega
              · have hni : ¬ n < 5 := by omega
                clear hn
                obtain ⟨bs, hbs⟩ : ∃ bs, wr.heap.size = bs := ⟨_, rfl⟩
                have hsb : BlockAt (wr.alloc (.cells #[.string ⟨#[]⟩, .string ⟨#[48, 48, 48, 48, 48, 48, 48, 48, 48, 48, 48, 48, 48, 48, 48, 48, 48, 48, 48, 48, 48, 48, 48, 48, 48, 48, 48, 48, 48, 49]⟩, .string ⟨#[48, 48, 48, 48, 48, 48, 48, 48, 48, 48, 48, 48, 48, 48, 48, 48, 48, 48, 48, 48, 48, 48, 48, 48, 48, 48, 48, 48, 48, 48, 49]⟩, .string ⟨#[57, 57, 57, 57, 57, 57, 57, 57, 57, 57, 57, 57, 57, 57, 57, 57, 57, 57, 57, 57, 57, 57, 57, 57, 57, 57, 57, 57, 57, 57, 56]⟩, .string ⟨#[63, 57, 57, 57, 57, 57, 57, 57, 57, 57, 57, 57, 57, 57, 57, 57, 57, 57, 57, 57, 57, 57, 57, 57, 57, 57, 57, 57, 57, 57, 57, 56]⟩, .string ⟨#[63, 57, 57, 57, 57, 57, 57, 57, 57, 57, 57, 57, 57, 57, 57, 57, 57, 57, 57, 57, 57, 57, 57, 57, 57, 57, 57, 57, 57, 57, 56]⟩, .string ⟨#[49, 88]⟩, .string ⟨#[88]⟩, .string ⟨#[63, 63]⟩, .string ⟨#[63]⟩, .string ⟨#[49, 32]⟩, .string ⟨#[97, 49]⟩, .string ⟨#[49, 47]⟩, .string ⟨#[49, 58]⟩] 9)) bs #[.string ⟨#[]⟩, .string ⟨#[48, 48, 48, 48, 48, 48, 48, 48, 48, 48, 48, 48, 48, 48, 48, 48, 48, 48, 48, 48, 48, 48, 48, 48, 48, 48, 48, 48, 48, 49]⟩, .string ⟨#[48, 48, 48, 48, 48, 48, 48, 48, 48, 48, 48, 48, 48, 48, 48, 48, 48, 48, 48, 48, 48, 48, 48, 48, 48, 48, 48, 48, 48, 48, 49]⟩, .string ⟨#[57, 57, 57, 57, 57, 57, 57, 57, 57, 57, 57, 57, 57, 57, 57, 57, 57, 57, 57, 57, 57, 57, 57, 57, 57, 57, 57, 57, 57, 57, 56]⟩, .string ⟨#[63, 57, 57, 57, 57, 57, 57, 57, 57, 57, 57, 57, 57, 57, 57, 57, 57, 57, 57, 57, 57, 57, 57, 57, 57, 57, 57, 57, 57, 57, 57, 56]⟩, .string ⟨#[63, 57, 57, 57, 57, 57, 57, 57, 57, 57, 57, 57, 57, 57, 57, 57, 57, 57, 57, 57, 57, 57, 57, 57, 57, 57, 57, 57, 57, 57, 56]⟩, .string ⟨#[49, 88]⟩, .string ⟨#[88]⟩, .string ⟨#[63, 63]⟩, .string ⟨#[63]⟩, .string ⟨#[49, 32]⟩, .string ⟨#[97, 49]⟩, .string ⟨#[49, 47]⟩, .string ⟨#[49, 58]⟩] 9 := BlockAt.new_at hbs
                have hza : Below W0.heap.size W0 (wr.alloc (.cells #[.string ⟨#[]⟩, .string ⟨#[48, 48, 48, 48, 48, 48, 48, 48, 48, 48, 48, 48, 48, 48, 48, 48, 48, 48, 48, 48, 48, 48, 48, 48, 48, 48, 48, 48, 48, 49]⟩, .string ⟨#[48, 48, 48, 48, 48, 48, 48, 48, 48, 48, 48, 48, 48, 48, 48, 48, 48, 48, 48, 48, 48, 48, 48, 48, 48, 48, 48, 48, 48, 48, 49]⟩, .string ⟨#[57, 57, 57, 57, 57, 57, 57, 57, 57, 57, 57, 57, 57, 57, 57, 57, 57, 57, 57, 57, 57, 57, 57, 57, 57, 57, 57, 57, 57, 57, 56]⟩, .string ⟨#[63, 57, 57, 57, 57, 57, 57, 57, 57, 57, 57, 57, 57, 57, 57, 57, 57, 57, 57, 57, 57, 57, 57, 57, 57, 57, 57, 57, 57, 57, 57, 56]⟩, .string ⟨#[63, 57, 57, 57, 57, 57, 57, 57, 57, 57, 57, 57, 57, 57, 57, 57, 57, 57, 57, 57, 57, 57, 57, 57, 57, 57, 57, 57, 57, 57, 56]⟩, .string ⟨#[49, 88]⟩, .string ⟨#[88]⟩, .string ⟨#[63, 63]⟩, .string ⟨#[63]⟩, .string ⟨#[49, 32]⟩, .string ⟨#[97, 49]⟩, .string ⟨#[49, 47]⟩, .string ⟨#[49, 58]⟩] 9)) := z.alloc z.size _
                have HST : Hid (∀ i : Nat, i < 14 → ∃ s : ByteArray, (#[.string ⟨#[]⟩, .string ⟨#[48, 48, 48, 48, 48, 48, 48, 48, 48, 48, 48, 48, 48, 48, 48, 48, 48, 48, 48, 48, 48, 48, 48, 48, 48, 48, 48, 48, 48, 49]⟩, .string ⟨#[48, 48, 48, 48, 48, 48, 48, 48, 48, 48, 48, 48, 48, 48, 48, 48, 48, 48, 48, 48, 48, 48, 48, 48, 48, 48, 48, 48, 48, 48, 49]⟩, .string ⟨#[57, 57, 57, 57, 57, 57, 57, 57, 57, 57, 57, 57, 57, 57, 57, 57, 57, 57, 57, 57, 57, 57, 57, 57, 57, 57, 57, 57, 57, 57, 56]⟩, .string ⟨#[63, 57, 57, 57, 57, 57, 57, 57, 57, 57, 57, 57, 57, 57, 57, 57, 57, 57, 57, 57, 57, 57, 57, 57, 57, 57, 57, 57, 57, 57, 57, 56]⟩, .string ⟨#[63, 57, 57, 57, 57, 57, 57, 57, 57, 57, 57, 57, 57, 57, 57, 57, 57, 57, 57, 57, 57, 57, 57, 57, 57, 57, 57, 57, 57, 57, 56]⟩, .string ⟨#[49, 88]⟩, .string ⟨#[88]⟩, .string ⟨#[63, 63]⟩, .string ⟨#[63]⟩, .string ⟨#[49, 32]⟩, .string ⟨#[97, 49]⟩, .string ⟨#[49, 47]⟩, .string ⟨#[49, 58]⟩] : Array Value)[i]? = some (.string s) ∧ s.size ≤ 40) := Lib.hid fun i hi => by
                  rcases (by omega : i = 0 ∨ i = 1 ∨ i = 2 ∨ i = 3 ∨ i = 4 ∨ i = 5 ∨ i = 6 ∨ i = 7 ∨ i = 8 ∨ i = 9 ∨ i = 10 ∨ i = 11 ∨ i = 12 ∨ i = 13) with rfl | rfl | rfl | rfl | rfl | rfl | rfl | rfl | rfl | rfl | rfl | rfl | rfl | rfl <;> exact ⟨_, rfl, by decide⟩
                obtain ⟨ST, hST⟩ : ∃ ST : Array Value, #[.string ⟨#[]⟩, .string ⟨#[48, 48, 48, 48, 48, 48, 48, 48, 48, 48, 48, 48, 48, 48, 48, 48, 48, 48, 48, 48, 48, 48, 48, 48, 48, 48, 48, 48, 48, 49]⟩, .string ⟨#[48, 48, 48, 48, 48, 48, 48, 48, 48, 48, 48, 48, 48, 48, 48, 48, 48, 48, 48, 48, 48, 48, 48, 48, 48, 48, 48, 48, 48, 48, 49]⟩, .string ⟨#[57, 57, 57, 57, 57, 57, 57, 57, 57, 57, 57, 57, 57, 57, 57, 57, 57, 57, 57, 57, 57, 57, 57, 57, 57, 57, 57, 57, 57, 57, 56]⟩, .string ⟨#[63, 57, 57, 57, 57, 57, 57, 57, 57, 57, 57, 57, 57, 57, 57, 57, 57, 57, 57, 57, 57, 57, 57, 57, 57, 57, 57, 57, 57, 57, 57, 56]⟩, .string ⟨#[63, 57, 57, 57, 57, 57, 57, 57, 57, 57, 57, 57, 57, 57, 57, 57, 57, 57, 57, 57, 57, 57, 57, 57, 57, 57, 57, 57, 57, 57, 56]⟩, .string ⟨#[49, 88]⟩, .string ⟨#[88]⟩, .string ⟨#[63, 63]⟩, .string ⟨#[63]⟩, .string ⟨#[49, 32]⟩, .string ⟨#[97, 49]⟩, .string ⟨#[49, 47]⟩, .string ⟨#[49, 58]⟩] = ST := ⟨_, rfl⟩
                clear p0 p1 v0 z
                go_wp2_with fail
                (try rw [hbs])
                rw [hST] at hsb HST hza
                (try rw [hST])
                go_loopw [70] (fun iv wr => ∃ i : Nat, iv = .int .i64 i ∧ i ≤ 14 ∧ BlockAt wr bs ST 9 ∧ Below W0.heap.size W0 wr)
                  (fun iv _ => 14 - (intOf iv).toNat)
                case atStart => exact ⟨0, rfl, by omega, hsb, hza⟩
                case round =>
                  clear hsb hza hST hbs
                  obtain ⟨i, rfl, hi14, hsb, z⟩ := hrel
                  have hwi : IntKind.i64.wrap ((i : Int) + 1) = (i : Int) + 1 := by rw [IntKind.wrap_i64]; omega
                  obtain ⟨p0, p1, _, _⟩ := (HXB.out.below z).two
                  have v0 := (HXB.out.below z).lt
                  by_cases hi : i < 14
                  · have hii : (i : Int) < 14 := by omega
                    obtain ⟨s, hs, hsz⟩ := HST.out i hi
                    have hcs : wr.cell? ⟨bs, i, none⟩ = some (.string s) := by
                      unfold BlockAt at hsb
                      simp [World.cell?, hsb, hs]
                    have vb := hsb.lt
                    clear hs
                    go_wp2_with fail
                    refine (texts_any K (ints vs) wv s _ (HSY.out _ z) (by omega)).mono ?_
                    rintro e w5 ⟨rfl, hb5⟩
                    have z5 := z.trans (hb5.mono z.size)
                    have hsb5 := hsb.below hb5
                    clear hb5 z hsb p0 p1 v0
                    go_wp2
                    go_roundw
                    case rel => exact ⟨i + 1, by go_num, by omega, hsb5, z5⟩
                    case measure => simp [intOf] <;> omega
                  · have hii : ¬ (i : Int) < 14 := by omega
                    clear hsb p0 p1 v0
                    go_wp2_with fail
                    go_loopw [11] (fun iv wr => ∃ i : Nat, iv = .int .i64 i ∧ i ≤ 144 ∧ Below W0.heap.size W0 wr)
                      (fun iv _ => 144 - (intOf iv).toNat)
                    case atStart => exact ⟨0, rfl, by omega, z⟩
                    case round =>
                      clear z
                      obtain ⟨t, rfl, ht144, z⟩ := hrel
                      have hwt : IntKind.i64.wrap ((t : Int) + 1) = (t : Int) + 1 := by rw [IntKind.wrap_i64]; omega
                      by_cases ht : t < 144
                      · have hti : (t : Int) < 144 := by omega
                        obtain ⟨A, hA⟩ : ∃ A, t / 12 = A := ⟨_, rfl⟩
                        obtain ⟨B, hB⟩ : ∃ B, t % 12 = B := ⟨_, rfl⟩
                        have hqA : (t : Int).tdiv 12 = (A : Int) := by rw [Int.tdiv_eq_ediv_of_nonneg (by omega)]; omega
                        have hqA2 : (t : Int) / 12 = (A : Int) := by omega
                        have hrB : (t : Int).tmod 12 = (B : Int) := by rw [Int.tmod_eq_emod_of_nonneg (by omega)]; omega
                        have hrB2 : (t : Int) % 12 = (B : Int) := by omega
                        have hA12 : A < 12 := by omega
                        have hB12 : B < 12 := by omega
                        have hwA0 : IntKind.i64.wrap (A : Int) = (A : Int) := by rw [IntKind.wrap_i64]; omega
                        have hwB0 : IntKind.i64.wrap (B : Int) = (B : Int) := by rw [IntKind.wrap_i64]; omega
                        have hwA : IntKind.i64.wrap ((A : Int) + 1) = (A : Int) + 1 := by rw [IntKind.wrap_i64]; omega
                        have hwB : IntKind.i64.wrap ((B : Int) + 1) = (B : Int) + 1 := by rw [IntKind.wrap_i64]; omega
                        obtain ⟨DA, hDA, hslA⟩ := slice_12 A hA12
                        obtain ⟨DB, hDB, hslB⟩ := slice_12 B hB12
                        have hz1 : ¬ 9223372036854775807 < DA.size + DB.size := by omega
                        have hz2 : ¬ 9223372036854775807 < 1 + DA.size := by omega
                        have hz3 : ¬ 9223372036854775807 < 1 + DA.size + DB.size := by omega
                        have HDA := Lib.hid hDA
                        have HDB := Lib.hid hDB
                        clear hA hB hDA hDB
                        obtain ⟨p0, p1, _, _⟩ := (HXB.out.below z).two
                        have v0 := (HXB.out.below z).lt
                        go_upto_region 30 with fail
                        go_region_held3 (fun w' => w'.cell? ⟨B0, 0, none⟩ = some (.int .u8 K) ∧ w'.cell? ⟨B0, 1, none⟩ = some wv) (go_keep)
                          (first
                            | (go_at_call 28; with_reducible refine (texts_any K (ints vs) wv (DA ++ DB) _ (HSY.out _ z.drew) (by rw [ByteArray.size_append, HDA.out, HDB.out]; decide)).mono ?_; rintro e w5 ⟨rfl, hb5⟩; have z5 : Below W0.heap.size W0 w5 := below_after z z.size hb5; obtain ⟨a0, a1, _, _⟩ := (HXB.out.below z5).two)
                            | (go_at_call 28; with_reducible refine (texts_any K (ints vs) wv (⟨#[55]⟩ ++ DA ++ DB) _ (HSY.out _ z5) (by rw [ByteArray.size_append, ByteArray.size_append, HDA.out, HDB.out, show (⟨#[55]⟩ : ByteArray).size = 1 from rfl]; decide)).mono ?_; rintro e w6 ⟨rfl, hb6⟩; have z6 : Below W0.heap.size W0 w6 := z5.trans (hb6.mono z5.size); obtain ⟨a0, a1, _, _⟩ := (HXB.out.below z6).two)
                            | (go_at_call 28; with_reducible refine (texts_any K (ints vs) wv DB _ (HSY.out _ z6) (by rw [HDB.out]; decide)).mono ?_; rintro e w7 ⟨rfl, hb7⟩; have z7 : Below W0.heap.size W0 w7 := z6.trans (hb7.mono z6.size); obtain ⟨a0, a1, _, _⟩ := (HXB.out.below z7).two)
                            | fail)
                        clear z z5 z6 hb5 hb6 hb7 p0 p1 v0 a0 a1
                        go_wp2
                        go_roundw
                        case rel => exact ⟨t + 1, by go_num, by omega, z7⟩
                        case measure => simp [intOf] <;> omega
                      · have hti : ¬ (t : Int) < 144 := by omega
                        go_wp2
                        go_roundw
                        case rel => exact ⟨1, by first | rfl | (refine congrArg (Value.int IntKind.i64) ?_; have h9 := HXJ.out; omega) | (refine congrArg (Value.int IntKind.i64) ?_; have h9 := HXJ.out; rw [IntKind.wrap_i64]; omega), by omega, HYW.out.trans (z.mono HYW.out.size)⟩
                        case measure => simp [intOf] <;> omega
          · rw [show ((13 : Nat) : Int) - 1 = 12 from rfl]
            go_upto_region 12 with fail
            have hx : BlockAt (((wr.alloc (.cells #[.int .i64 12] 3)).alloc (.cells #[.int .u8 K, .slice (some ⟨wr.heap.size + 1 + 1, 0, none⟩) 2 2] 25)).alloc (.cells #[.int .i64 3, .int .i64 1] 3)) (wr.heap.size + 1) #[.int .u8 K, .slice (some ⟨wr.heap.size + 1 + 1, 0, none⟩) 2 2] 25 := (BlockAt.new_at (by simp)).alloc _
            have hN : NatRow (((wr.alloc (.cells #[.int .i64 12] 3)).alloc (.cells #[.int .u8 K, .slice (some ⟨wr.heap.size + 1 + 1, 0, none⟩) 2 2] 25)).alloc (.cells #[.int .i64 3, .int .i64 1] 3)) (.slice (some ⟨wr.heap.size + 1 + 1, 0, none⟩) 2 2) ([3, 1] : List Nat) := NatRow.of_block (vs := [3, 1]) (c := 2) (BlockAt.new_at (by simp)) rfl
            have hYW : Below w.heap.size w (((wr.alloc (.cells #[.int .i64 12] 3)).alloc (.cells #[.int .u8 K, .slice (some ⟨wr.heap.size + 1 + 1, 0, none⟩) 2 2] 25)).alloc (.cells #[.int .i64 3, .int .i64 1] 3)) := ((hY.alloc hY.size _).alloc (by have := hY.size; simp; omega) _).alloc (by have := hY.size; simp; omega) _
            obtain ⟨W0, hW0⟩ : ∃ W0, ((wr.alloc (.cells #[.int .i64 12] 3)).alloc (.cells #[.int .u8 K, .slice (some ⟨wr.heap.size + 1 + 1, 0, none⟩) 2 2] 25)).alloc (.cells #[.int .i64 3, .int .i64 1] 3) = W0 := ⟨_, rfl⟩
            obtain ⟨B0, hB0⟩ : ∃ B0, wr.heap.size + 1 = B0 := ⟨_, rfl⟩
            obtain ⟨vs, hvs⟩ : ∃ vs : List Nat, ([3, 1] : List Nat) = vs := ⟨_, rfl⟩
            obtain ⟨wv, hwv⟩ : ∃ wv : Value, (.slice (some ⟨wr.heap.size + 1 + 1, 0, none⟩) 2 2 : Value) = wv := ⟨_, rfl⟩
            rw [hW0] at hx hN hYW ⊢
            rw [hwv] at hx hN
            (try rw [hwv])
            rw [hB0] at hx
            (try rw [hB0])
            rw [hvs] at hN
            clear hW0 hB0 hvs hwv hY
            have hsys : ∀ W' : World, Below W0.heap.size W0 W' → SysIn W' K (ints vs) wv := fun W' h => ⟨(hN.below (Nat.le_refl _) h).int, (HT.out.below (Nat.le_refl _) hYW).below (Nat.le_refl _) h⟩
            have HSY := Lib.hid hsys
            have HXB := Lib.hid hx
            have HYW := Lib.hid hYW
            have z0 := Below.refl W0.heap.size W0
            obtain ⟨R, hR⟩ : ∃ R, rightB K (ints vs) = R := ⟨_, rfl⟩
            have HR := Lib.hid hR
            obtain ⟨p0, p1, _, _⟩ := hx.two
            clear hsys hx hYW hR hN
            go_region_held3 (fun w' => w'.cell? ⟨B0, 0, none⟩ = some (.int .u8 K) ∧ w'.cell? ⟨B0, 1, none⟩ = some wv) (go_keep)
              (first
                | (go_at_call 22; with_reducible refine (right_any K (ints vs) wv _ (HSY.out _ z0.drew).row).mono ?_; rintro e w3 ⟨rfl, hb3⟩; rw [HR.out]; have z3 : Below W0.heap.size W0 w3 := below_after z0 z0.size hb3; obtain ⟨a0, a1, _, _⟩ := (HXB.out.below z3).two)
                | (go_at_call 27; with_reducible refine (rright_any K (ints vs) wv _ (HSY.out _ z3).row).mono ?_; rintro e w4 ⟨rfl, hb4⟩; rw [HR.out]; have z4 : Below W0.heap.size W0 w4 := z3.trans (hb4.mono z3.size); obtain ⟨a0, a1, _, _⟩ := (HXB.out.below z4).two)
                | fail)
            clear p0 p1 a0 a1 z0 z3 hb3 hb4
            go_wp2_with fail
            go_loopw [4] (fun nv wr => ∃ q : Nat, nv = .int .i64 ((q : Int) - 1) ∧ q ≤ 6 ∧ Below W0.heap.size W0 wr)
              (fun nv _ => 6 - (intOf nv + 1).toNat)
            case atStart => exact ⟨0, rfl, by omega, z4⟩
            case round =>
              clear z4
              obtain ⟨q, rfl, hq6, z⟩ := hrel
              obtain ⟨n, hn⟩ : ∃ n, (q : Int) - 1 = n := ⟨_, rfl⟩
              rw [hn]
              have hwn : IntKind.i64.wrap (n + 1) = (q : Int) := by rw [IntKind.wrap_i64]; omega
              obtain ⟨p0, p1, _, _⟩ := (HXB.out.below z).two
              have v0 := (HXB.out.below z).lt
              by_cases hq : q < 6
              · have hni : n < 5 := by omega
                obtain ⟨L, hL⟩ : ∃ L, mOut K (ints vs) n = L := ⟨_, rfl⟩
                have hLn := mOut_len K (ints vs) n
                rw [hL] at hLn
                obtain ⟨m, hm⟩ : ∃ m, L.length = m := ⟨_, rfl⟩
                obtain ⟨E, hE⟩ : ∃ E, missErr K (ints vs) n = E := ⟨_, rfl⟩
                have hrm := rmisses2 K (ints vs) wv n wr (HSY.out _ z).row
                have hpm := fun (W : World) (h : Below W0.heap.size W0 W) => misses2 K (ints vs) wv n W (HSY.out _ h)
                rw [hL, hm, hE] at hrm
                simp only [hL, hm, hE] at hpm
                have HRM := Lib.hid hrm
                have HPM := Lib.hid hpm
                have HLN := Lib.hid hLn
                clear hrm hpm hL hm hE hLn
                have HQN := Lib.hid hn
                clear hn
                go_wp2_with fail
                refine HRM.out.mono ?_
                rintro e w3 ⟨pb, cb, rfl, hmb, hb3⟩
                have z3 := z.trans (hb3.mono z.size)
                have HMB := Lib.hid hmb
                clear hmb hb3 p0 p1 v0 z
                obtain ⟨p0, p1, _, _⟩ := (HXB.out.below z3).two
                have v0 := (HXB.out.below z3).lt
                go_wp2_with fail
                refine (HPM.out w3 z3).mono ?_
                rintro e w4 ⟨pa, ca, rfl, hma, _, hb4⟩
                have z4 := z3.trans (hb4.mono z3.size)
                have HMA := Lib.hid hma
                have HMB4 := Lib.hid (HMB.out.below (Nat.le_refl _) hb4)
                clear hma hb4 p0 p1 v0 z3
                go_wp2_with fail
                refine (listed_any L _ _ w4 HMA.out HMB4.out HLN.out).mono ?_
                rintro e w5 ⟨rfl, hb5⟩
                have z5 := z4.trans (hb5.mono z4.size)
                clear hb5 z4
                go_wp2
                go_roundw
                case rel => exact ⟨q + 1, by rw [show (((q + 1 : Nat) : Int) - 1) = (q : Int) from by omega], by omega, z5⟩
                case measure =>
                  have hqn := HQN.out
                  simp [intOf] <;> omega
              · have hni : ¬ n < 5 := by omega
                clear hn
                obtain ⟨bs, hbs⟩ : ∃ bs, wr.heap.size = bs := ⟨_, rfl⟩
                have hsb : BlockAt (wr.alloc (.cells #[.string ⟨#[]⟩, .string ⟨#[48, 48, 48, 48, 48, 48, 48, 48, 48, 48, 48, 48, 48, 48, 48, 48, 48, 48, 48, 48, 48, 48, 48, 48, 48, 48, 48, 48, 48, 49]⟩, .string ⟨#[48, 48, 48, 48, 48, 48, 48, 48, 48, 48, 48, 48, 48, 48, 48, 48, 48, 48, 48, 48, 48, 48, 48, 48, 48, 48, 48, 48, 48, 48, 49]⟩, .string ⟨#[57, 57, 57, 57, 57, 57, 57, 57, 57, 57, 57, 57, 57, 57, 57, 57, 57, 57, 57, 57, 57, 57, 57, 57, 57, 57, 57, 57, 57, 57, 56]⟩, .string ⟨#[63, 57, 57, 57, 57, 57, 57, 57, 57, 57, 57, 57, 57, 57, 57, 57, 57, 57, 57, 57, 57, 57, 57, 57, 57, 57, 57, 57, 57, 57, 57, 56]⟩, .string ⟨#[63, 57, 57, 57, 57, 57, 57, 57, 57, 57, 57, 57, 57, 57, 57, 57, 57, 57, 57, 57, 57, 57, 57, 57, 57, 57, 57, 57, 57, 57, 56]⟩, .string ⟨#[49, 88]⟩, .string ⟨#[88]⟩, .string ⟨#[63, 63]⟩, .string ⟨#[63]⟩, .string ⟨#[49, 32]⟩, .string ⟨#[97, 49]⟩, .string ⟨#[49, 47]⟩, .string ⟨#[49, 58]⟩] 9)) bs #[.string ⟨#[]⟩, .string ⟨#[48, 48, 48, 48, 48, 48, 48, 48, 48, 48, 48, 48, 48, 48, 48, 48, 48, 48, 48, 48, 48, 48, 48, 48, 48, 48, 48, 48, 48, 49]⟩, .string ⟨#[48, 48, 48, 48, 48, 48, 48, 48, 48, 48, 48, 48, 48, 48, 48, 48, 48, 48, 48, 48, 48, 48, 48, 48, 48, 48, 48, 48, 48, 48, 49]⟩, .string ⟨#[57, 57, 57, 57, 57, 57, 57, 57, 57, 57, 57, 57, 57, 57, 57, 57, 57, 57, 57, 57, 57, 57, 57, 57, 57, 57, 57, 57, 57, 57, 56]⟩, .string ⟨#[63, 57, 57, 57, 57, 57, 57, 57, 57, 57, 57, 57, 57, 57, 57, 57, 57, 57, 57, 57, 57, 57, 57, 57, 57, 57, 57, 57, 57, 57, 57, 56]⟩, .string ⟨#[63, 57, 57, 57, 57, 57, 57, 57, 57, 57, 57, 57, 57, 57, 57, 57, 57, 57, 57, 57, 57, 57, 57, 57, 57, 57, 57, 57, 57, 57, 56]⟩, .string ⟨#[49, 88]⟩, .string ⟨#[88]⟩, .string ⟨#[63, 63]⟩, .string ⟨#[63]⟩, .string ⟨#[49, 32]⟩, .string ⟨#[97, 49]⟩, .string ⟨#[49, 47]⟩, .string ⟨#[49, 58]⟩] 9 := BlockAt.new_at hbs
                have hza : Below W0.heap.size W0 (wr.alloc (.cells #[.string ⟨#[]⟩, .string ⟨#[48, 48, 48, 48, 48, 48, 48, 48, 48, 48, 48, 48, 48, 48, 48, 48, 48, 48, 48, 48, 48, 48, 48, 48, 48, 48, 48, 48, 48, 49]⟩, .string ⟨#[48, 48, 48, 48, 48, 48, 48, 48, 48, 48, 48, 48, 48, 48, 48, 48, 48, 48, 48, 48, 48, 48, 48, 48, 48, 48, 48, 48, 48, 48, 49]⟩, .string ⟨#[57, 57, 57, 57, 57, 57, 57, 57, 57, 57, 57, 57, 57, 57, 57, 57, 57, 57, 57, 57, 57, 57, 57, 57, 57, 57, 57, 57, 57, 57, 56]⟩, .string ⟨#[63, 57, 57, 57, 57, 57, 57, 57, 57, 57, 57, 57, 57, 57, 57, 57, 57, 57, 57, 57, 57, 57, 57, 57, 57, 57, 57, 57, 57, 57, 57, 56]⟩, .string ⟨#[63, 57, 57, 57, 57, 57, 57, 57, 57, 57, 57, 57, 57, 57, 57, 57, 57, 57, 57, 57, 57, 57, 57, 57, 57, 57, 57, 57, 57, 57, 56]⟩, .string ⟨#[49, 88]⟩, .string ⟨#[88]⟩, .string ⟨#[63, 63]⟩, .string ⟨#[63]⟩, .string ⟨#[49, 32]⟩, .string ⟨#[97, 49]⟩, .string ⟨#[49, 47]⟩, .string ⟨#[49, 58]⟩] 9)) := z.alloc z.size _
                have HST : Hid (∀ i : Nat, i < 14 → ∃ s : ByteArray, (#[.string ⟨#[]⟩, .string ⟨#[48, 48, 48, 48, 48, 48, 48, 48, 48, 48, 48, 48, 48, 48, 48, 48, 48, 48, 48, 48, 48, 48, 48, 48, 48, 48, 48, 48, 48, 49]⟩, .string ⟨#[48, 48, 48, 48, 48, 48, 48, 48, 48, 48, 48, 48, 48, 48, 48, 48, 48, 48, 48, 48, 48, 48, 48, 48, 48, 48, 48, 48, 48, 48, 49]⟩, .string ⟨#[57, 57, 57, 57, 57, 57, 57, 57, 57, 57, 57, 57, 57, 57, 57, 57, 57, 57, 57, 57, 57, 57, 57, 57, 57, 57, 57, 57, 57, 57, 56]⟩, .string ⟨#[63, 57, 57, 57, 57, 57, 57, 57, 57, 57, 57, 57, 57, 57, 57, 57, 57, 57, 57, 57, 57, 57, 57, 57, 57, 57, 57, 57, 57, 57, 57, 56]⟩, .string ⟨#[63, 57, 57, 57, 57, 57, 57, 57, 57, 57, 57, 57, 57, 57, 57, 57, 57, 57, 57, 57, 57, 57, 57, 57, 57, 57, 57, 57, 57, 57, 56]⟩, .string ⟨#[49, 88]⟩, .string ⟨#[88]⟩, .string ⟨#[63, 63]⟩, .string ⟨#[63]⟩, .string ⟨#[49, 32]⟩, .string ⟨#[97, 49]⟩, .string ⟨#[49, 47]⟩, .string ⟨#[49, 58]⟩] : Array Value)[i]? = some (.string s) ∧ s.size ≤ 40) := Lib.hid fun i hi => by
                  rcases (by omega : i = 0 ∨ i = 1 ∨ i = 2 ∨ i = 3 ∨ i = 4 ∨ i = 5 ∨ i = 6 ∨ i = 7 ∨ i = 8 ∨ i = 9 ∨ i = 10 ∨ i = 11 ∨ i = 12 ∨ i = 13) with rfl | rfl | rfl | rfl | rfl | rfl | rfl | rfl | rfl | rfl | rfl | rfl | rfl | rfl <;> exact ⟨_, rfl, by decide⟩
                obtain ⟨ST, hST⟩ : ∃ ST : Array Value, #[.string ⟨#[]⟩, .string ⟨#[48, 48, 48, 48, 48, 48, 48, 48, 48, 48, 48, 48, 48, 48, 48, 48, 48, 48, 48, 48, 48, 48, 48, 48, 48, 48, 48, 48, 48, 49]⟩, .string ⟨#[48, 48, 48, 48, 48, 48, 48, 48, 48, 48, 48, 48, 48, 48, 48, 48, 48, 48, 48, 48, 48, 48, 48, 48, 48, 48, 48, 48, 48, 48, 49]⟩, .string ⟨#[57, 57, 57, 57, 57, 57, 57, 57, 57, 57, 57, 57, 57, 57, 57, 57, 57, 57, 57, 57, 57, 57, 57, 57, 57, 57, 57, 57, 57, 57, 56]⟩, .string ⟨#[63, 57, 57, 57, 57, 57, 57, 57, 57, 57, 57, 57, 57, 57, 57, 57, 57, 57, 57, 57, 57, 57, 57, 57, 57, 57, 57, 57, 57, 57, 57, 56]⟩, .string ⟨#[63, 57, 57, 57, 57, 57, 57, 57, 57, 57, 57, 57, 57, 57, 57, 57, 57, 57, 57, 57, 57, 57, 57, 57, 57, 57, 57, 57, 57, 57, 56]⟩, .string ⟨#[49, 88]⟩, .string ⟨#[88]⟩, .string ⟨#[63, 63]⟩, .string ⟨#[63]⟩, .string ⟨#[49, 32]⟩, .string ⟨#[97, 49]⟩, .string ⟨#[49, 47]⟩, .string ⟨#[49, 58]⟩] = ST := ⟨_, rfl⟩
                clear p0 p1 v0 z
                go_wp2_with fail
                (try rw [hbs])
                rw [hST] at hsb HST hza
                (try rw [hST])
                go_loopw [70] (fun iv wr => ∃ i : Nat, iv = .int .i64 i ∧ i ≤ 14 ∧ BlockAt wr bs ST 9 ∧ Below W0.heap.size W0 wr)
                  (fun iv _ => 14 - (intOf iv).toNat)
                case atStart => exact ⟨0, rfl, by omega, hsb, hza⟩
                case round =>
                  clear hsb hza hST hbs
                  obtain ⟨i, rfl, hi14, hsb, z⟩ := hrel
                  have hwi : IntKind.i64.wrap ((i : Int) + 1) = (i : Int) + 1 := by rw [IntKind.wrap_i64]; omega
                  obtain ⟨p0, p1, _, _⟩ := (HXB.out.below z).two
                  have v0 := (HXB.out.below z).lt
                  by_cases hi : i < 14
                  · have hii : (i : Int) < 14 := by omega
                    obtain ⟨s, hs, hsz⟩ := HST.out i hi
                    have hcs : wr.cell? ⟨bs, i, none⟩ = some (.string s) := by
                      unfold BlockAt at hsb
                      simp [World.cell?, hsb, hs]
                    have vb := hsb.lt
                    clear hs
                    go_wp2_with fail
                    refine (texts_any K (ints vs) wv s _ (HSY.out _ z) (by omega)).mono ?_
                    rintro e w5 ⟨rfl, hb5⟩
                    have z5 := z.trans (hb5.mono z.size)
                    have hsb5 := hsb.below hb5
                    clear hb5 z hsb p0 p1 v0
                    go_wp2
                    go_roundw
                    case rel => exact ⟨i + 1, by go_num, by omega, hsb5, z5⟩
                    case measure => simp [intOf] <;> omega
                  · have hii : ¬ (i : Int) < 14 := by omega
                    clear hsb p0 p1 v0
                    go_wp2_with fail
                    go_loopw [11] (fun iv wr => ∃ i : Nat, iv = .int .i64 i ∧ i ≤ 144 ∧ Below W0.heap.size W0 wr)
                      (fun iv _ => 144 - (intOf iv).toNat)
                    case atStart => exact ⟨0, rfl, by omega, z⟩
                    case round =>
                      clear z
                      obtain ⟨t, rfl, ht144, z⟩ := hrel
                      have hwt : IntKind.i64.wrap ((t : Int) + 1) = (t : Int) + 1 := by rw [IntKind.wrap_i64]; omega
                      by_cases ht : t < 144
                      · have hti : (t : Int) < 144 := by omega
                        obtain ⟨A, hA⟩ : ∃ A, t / 12 = A := ⟨_, rfl⟩
                        obtain ⟨B, hB⟩ : ∃ B, t % 12 = B := ⟨_, rfl⟩
                        have hqA : (t : Int).tdiv 12 = (A : Int) := by rw [Int.tdiv_eq_ediv_of_nonneg (by omega)]; omega
                        have hqA2 : (t : Int) / 12 = (A : Int) := by omega
                        have hrB : (t : Int).tmod 12 = (B : Int) := by rw [Int.tmod_eq_emod_of_nonneg (by omega)]; omega
                        have hrB2 : (t : Int) % 12 = (B : Int) := by omega
                        have hA12 : A < 12 := by omega
                        have hB12 : B < 12 := by omega
                        have hwA0 : IntKind.i64.wrap (A : Int) = (A : Int) := by rw [IntKind.wrap_i64]; omega
                        have hwB0 : IntKind.i64.wrap (B : Int) = (B : Int) := by rw [IntKind.wrap_i64]; omega
                        have hwA : IntKind.i64.wrap ((A : Int) + 1) = (A : Int) + 1 := by rw [IntKind.wrap_i64]; omega
                        have hwB : IntKind.i64.wrap ((B : Int) + 1) = (B : Int) + 1 := by rw [IntKind.wrap_i64]; omega
                        obtain ⟨DA, hDA, hslA⟩ := slice_12 A hA12
                        obtain ⟨DB, hDB, hslB⟩ := slice_12 B hB12
                        have hz1 : ¬ 9223372036854775807 < DA.size + DB.size := by omega
                        have hz2 : ¬ 9223372036854775807 < 1 + DA.size := by omega
                        have hz3 : ¬ 9223372036854775807 < 1 + DA.size + DB.size := by omega
                        have HDA := Lib.hid hDA
                        have HDB := Lib.hid hDB
                        clear hA hB hDA hDB
                        obtain ⟨p0, p1, _, _⟩ := (HXB.out.below z).two
                        have v0 := (HXB.out.below z).lt
                        go_upto_region 30 with fail
                        go_region_held3 (fun w' => w'.cell? ⟨B0, 0, none⟩ = some (.int .u8 K) ∧ w'.cell? ⟨B0, 1, none⟩ = some wv) (go_keep)
                          (first
                            | (go_at_call 28; with_reducible refine (texts_any K (ints vs) wv (DA ++ DB) _ (HSY.out _ z.drew) (by rw [ByteArray.size_append, HDA.out, HDB.out]; decide)).mono ?_; rintro e w5 ⟨rfl, hb5⟩; have z5 : Below W0.heap.size W0 w5 := below_after z z.size hb5; obtain ⟨a0, a1, _, _⟩ := (HXB.out.below z5).two)
                            | (go_at_call 28; with_reducible refine (texts_any K (ints vs) wv (⟨#[55]⟩ ++ DA ++ DB) _ (HSY.out _ z5) (by rw [ByteArray.size_append, ByteArray.size_append, HDA.out, HDB.out, show (⟨#[55]⟩ : ByteArray).size = 1 from rfl]; decide)).mono ?_; rintro e w6 ⟨rfl, hb6⟩; have z6 : Below W0.heap.size W0 w6 := z5.trans (hb6.mono z5.size); obtain ⟨a0, a1, _, _⟩ := (HXB.out.below z6).two)
                            | (go_at_call 28; with_reducible refine (texts_any K (ints vs) wv DB _ (HSY.out _ z6) (by rw [HDB.out]; decide)).mono ?_; rintro e w7 ⟨rfl, hb7⟩; have z7 : Below W0.heap.size W0 w7 := z6.trans (hb7.mono z6.size); obtain ⟨a0, a1, _, _⟩ := (HXB.out.below z7).two)
                            | fail)
                        clear z z5 z6 hb5 hb6 hb7 p0 p1 v0 a0 a1
                        go_wp2
                        go_roundw
                        case rel => exact ⟨t + 1, by go_num, by omega, z7⟩
                        case measure => simp [intOf] <;> omega
                      · have hti : ¬ (t : Int) < 144 := by omega
                        go_wp2
                        go_roundw
                        case rel => exact ⟨14, by first | rfl | (refine congrArg (Value.int IntKind.i64) ?_; have h9 := HXJ.out; omega) | (refine congrArg (Value.int IntKind.i64) ?_; have h9 := HXJ.out; rw [IntKind.wrap_i64]; omega), by omega, HYW.out.trans (z.mono HYW.out.size)⟩
                        case measure => simp [intOf] <;> omega
          · obtain ⟨x, hx⟩ : ∃ x : Nat, (j : Int) - 1 = (x : Int) := ⟨j - 1, by omega⟩
            rw [hx]
            have HXJ := Lib.hid hx
            have hx0 : (x : Int) < 13 := by omega
            have hx1 : ¬ (x : Int) < 0 := by omega
            have hx12 : ((x : Int) == 12) = false := by rw [beq_eq_false_iff_ne]; omega
            go_upto_region 12 with fail
            have hx : BlockAt ((wr.alloc (.cells #[.int .i64 (x : Int)] 3)).alloc (.cells #[.int .u8 K, .slice (some ⟨wr.heap.size, 0, none⟩) 1 1] 25)) (wr.heap.size + 1) #[.int .u8 K, .slice (some ⟨wr.heap.size, 0, none⟩) 1 1] 25 := BlockAt.new_at (by simp)
            have hN : NatRow ((wr.alloc (.cells #[.int .i64 (x : Int)] 3)).alloc (.cells #[.int .u8 K, .slice (some ⟨wr.heap.size, 0, none⟩) 1 1] 25)) (.slice (some ⟨wr.heap.size, 0, none⟩) 1 1) ([x] : List Nat) := NatRow.of_block (vs := [x]) (c := 1) ((BlockAt.new wr #[.int .i64 (x : Int)] 3).alloc _) rfl
            have hYW : Below w.heap.size w ((wr.alloc (.cells #[.int .i64 (x : Int)] 3)).alloc (.cells #[.int .u8 K, .slice (some ⟨wr.heap.size, 0, none⟩) 1 1] 25)) := (hY.alloc hY.size _).alloc (by have := hY.size; simp; omega) _
            obtain ⟨W0, hW0⟩ : ∃ W0, (wr.alloc (.cells #[.int .i64 (x : Int)] 3)).alloc (.cells #[.int .u8 K, .slice (some ⟨wr.heap.size, 0, none⟩) 1 1] 25) = W0 := ⟨_, rfl⟩
            obtain ⟨B0, hB0⟩ : ∃ B0, wr.heap.size + 1 = B0 := ⟨_, rfl⟩
            obtain ⟨vs, hvs⟩ : ∃ vs : List Nat, ([x] : List Nat) = vs := ⟨_, rfl⟩
            obtain ⟨wv, hwv⟩ : ∃ wv : Value, (.slice (some ⟨wr.heap.size, 0, none⟩) 1 1 : Value) = wv := ⟨_, rfl⟩
            rw [hW0] at hx hN hYW ⊢
            rw [hwv] at hx hN
            (try rw [hwv])
            rw [hB0] at hx
            (try rw [hB0])
            rw [hvs] at hN
            clear hW0 hB0 hvs hwv hY
            have hsys : ∀ W' : World, Below W0.heap.size W0 W' → SysIn W' K (ints vs) wv := fun W' h => ⟨(hN.below (Nat.le_refl _) h).int, (HT.out.below (Nat.le_refl _) hYW).below (Nat.le_refl _) h⟩
            have HSY := Lib.hid hsys
            have HXB := Lib.hid hx
            have HYW := Lib.hid hYW
            have z0 := Below.refl W0.heap.size W0
            obtain ⟨R, hR⟩ : ∃ R, rightB K (ints vs) = R := ⟨_, rfl⟩
            have HR := Lib.hid hR
            obtain ⟨p0, p1, _, _⟩ := hx.two
            clear hsys hx hYW hR hN
            go_region_held3 (fun w' => w'.cell? ⟨B0, 0, none⟩ = some (.int .u8 K) ∧ w'.cell? ⟨B0, 1, none⟩ = some wv) (go_keep)
              (first
                | (go_at_call 22; with_reducible refine (right_any K (ints vs) wv _ (HSY.out _ z0.drew).row).mono ?_; rintro e w3 ⟨rfl, hb3⟩; rw [HR.out]; have z3 : Below W0.heap.size W0 w3 := below_after z0 z0.size hb3; obtain ⟨a0, a1, _, _⟩ := (HXB.out.below z3).two)
                | (go_at_call 27; with_reducible refine (rright_any K (ints vs) wv _ (HSY.out _ z3).row).mono ?_; rintro e w4 ⟨rfl, hb4⟩; rw [HR.out]; have z4 : Below W0.heap.size W0 w4 := z3.trans (hb4.mono z3.size); obtain ⟨a0, a1, _, _⟩ := (HXB.out.below z4).two)
                | fail)
            clear p0 p1 a0 a1 z0 z3 hb3 hb4
            go_wp2_with fail
            go_loopw [4] (fun nv wr => ∃ q : Nat, nv = .int .i64 ((q : Int) - 1) ∧ q ≤ 6 ∧ Below W0.heap.size W0 wr)
              (fun nv _ => 6 - (intOf nv + 1).toNat)
            case atStart => exact ⟨0, rfl, by omega, z4⟩
            case round =>
              clear z4
              obtain ⟨q, rfl, hq6, z⟩ := hrel
              obtain ⟨n, hn⟩ : ∃ n, (q : Int) - 1 = n := ⟨_, rfl⟩
              rw [hn]
              have hwn : IntKind.i64.wrap (n + 1) = (q : Int) := by rw [IntKind.wrap_i64]; omega
              obtain ⟨p0, p1, _, _⟩ := (HXB.out.below z).two
              have v0 := (HXB.out.below z).lt
              by_cases hq : q < 6
              · have hni : n < 5 := by omega
                obtain ⟨L, hL⟩ : ∃ L, mOut K (ints vs) n = L := ⟨_, rfl⟩
                have hLn := mOut_len K (ints vs) n
                rw [hL] at hLn
                obtain ⟨m, hm⟩ : ∃ m, L.length = m := ⟨_, rfl⟩
                obtain ⟨E, hE⟩ : ∃ E, missErr K (ints vs) n = E := ⟨_, rfl⟩
                have hrm := rmisses2 K (ints vs) wv n wr (HSY.out _ z).row
                have hpm := fun (W : World) (h : Below W0.heap.size W0 W) => misses2 K (ints vs) wv n W (HSY.out _ h)
                rw [hL, hm, hE] at hrm
                simp only [hL, hm, hE] at hpm
                have HRM := Lib.hid hrm
                have HPM := Lib.hid hpm
                have HLN := Lib.hid hLn
                clear hrm hpm hL hm hE hLn
                have HQN := Lib.hid hn
                clear hn
                go_wp2_with fail
                refine HRM.out.mono ?_
                rintro e w3 ⟨pb, cb, rfl, hmb, hb3⟩
                have z3 := z.trans (hb3.mono z.size)
                have HMB := Lib.hid hmb
                clear hmb hb3 p0 p1 v0 z
                obtain ⟨p0, p1, _, _⟩ := (HXB.out.below z3).two
                have v0 := (HXB.out.below z3).lt
                go_wp2_with fail
                refine (HPM.out w3 z3).mono ?_
                rintro e w4 ⟨pa, ca, rfl, hma, _, hb4⟩
                have z4 := z3.trans (hb4.mono z3.size)
                have HMA := Lib.hid hma
                have HMB4 := Lib.hid (HMB.out.below (Nat.le_refl _) hb4)
                clear hma hb4 p0 p1 v0 z3
                go_wp2_with fail
                refine (listed_any L _ _ w4 HMA.out HMB4.out HLN.out).mono ?_
                rintro e w5 ⟨rfl, hb5⟩
                have z5 := z4.trans (hb5.mono z4.size)
                clear hb5 z4
                go_wp2
                go_roundw
                case rel => exact ⟨q + 1, by rw [show (((q + 1 : Nat) : Int) - 1) = (q : Int) from by omega], by omega, z5⟩
                case measure =>
                  have hqn := HQN.out
                  simp [intOf] <;> omega
              · have hni : ¬ n < 5 := by omega
                clear hn
                obtain ⟨bs, hbs⟩ : ∃ bs, wr.heap.size = bs := ⟨_, rfl⟩
                have hsb : BlockAt (wr.alloc (.cells #[.string ⟨#[]⟩, .string ⟨#[48, 48, 48, 48, 48, 48, 48, 48, 48, 48, 48, 48, 48, 48, 48, 48, 48, 48, 48, 48, 48, 48, 48, 48, 48, 48, 48, 48, 48, 49]⟩, .string ⟨#[48, 48, 48, 48, 48, 48, 48, 48, 48, 48, 48, 48, 48, 48, 48, 48, 48, 48, 48, 48, 48, 48, 48, 48, 48, 48, 48, 48, 48, 48, 49]⟩, .string ⟨#[57, 57, 57, 57, 57, 57, 57, 57, 57, 57, 57, 57, 57, 57, 57, 57, 57, 57, 57, 57, 57, 57, 57, 57, 57, 57, 57, 57, 57, 57, 56]⟩, .string ⟨#[63, 57, 57, 57, 57, 57, 57, 57, 57, 57, 57, 57, 57, 57, 57, 57, 57, 57, 57, 57, 57, 57, 57, 57, 57, 57, 57, 57, 57, 57, 57, 56]⟩, .string ⟨#[63, 57, 57, 57, 57, 57, 57, 57, 57, 57, 57, 57, 57, 57, 57, 57, 57, 57, 57, 57, 57, 57, 57, 57, 57, 57, 57, 57, 57, 57, 56]⟩, .string ⟨#[49, 88]⟩, .string ⟨#[88]⟩, .string ⟨#[63, 63]⟩, .string ⟨#[63]⟩, .string ⟨#[49, 32]⟩, .string ⟨#[97, 49]⟩, .string ⟨#[49, 47]⟩, .string ⟨#[49, 58]⟩] 9)) bs #[.string ⟨#[]⟩, .string ⟨#[48, 48, 48, 48, 48, 48, 48, 48, 48, 48, 48, 48, 48, 48, 48, 48, 48, 48, 48, 48, 48, 48, 48, 48, 48, 48, 48, 48, 48, 49]⟩, .string ⟨#[48, 48, 48, 48, 48, 48, 48, 48, 48, 48, 48, 48, 48, 48, 48, 48, 48, 48, 48, 48, 48, 48, 48, 48, 48, 48, 48, 48, 48, 48, 49]⟩, .string ⟨#[57, 57, 57, 57, 57, 57, 57, 57, 57, 57, 57, 57, 57, 57, 57, 57, 57, 57, 57, 57, 57, 57, 57, 57, 57, 57, 57, 57, 57, 57, 56]⟩, .string ⟨#[63, 57, 57, 57, 57, 57, 57, 57, 57, 57, 57, 57, 57, 57, 57, 57, 57, 57, 57, 57, 57, 57, 57, 57, 57, 57, 57, 57, 57, 57, 57, 56]⟩, .string ⟨#[63, 57, 57, 57, 57, 57, 57, 57, 57, 57, 57, 57, 57, 57, 57, 57, 57, 57, 57, 57, 57, 57, 57, 57, 57, 57, 57, 57, 57, 57, 56]⟩, .string ⟨#[49, 88]⟩, .string ⟨#[88]⟩, .string ⟨#[63, 63]⟩, .string ⟨#[63]⟩, .string ⟨#[49, 32]⟩, .string ⟨#[97, 49]⟩, .string ⟨#[49, 47]⟩, .string ⟨#[49, 58]⟩] 9 := BlockAt.new_at hbs
                have hza : Below W0.heap.size W0 (wr.alloc (.cells #[.string ⟨#[]⟩, .string ⟨#[48, 48, 48, 48, 48, 48, 48, 48, 48, 48, 48, 48, 48, 48, 48, 48, 48, 48, 48, 48, 48, 48, 48, 48, 48, 48, 48, 48, 48, 49]⟩, .string ⟨#[48, 48, 48, 48, 48, 48, 48, 48, 48, 48, 48, 48, 48, 48, 48, 48, 48, 48, 48, 48, 48, 48, 48, 48, 48, 48, 48, 48, 48, 48, 49]⟩, .string ⟨#[57, 57, 57, 57, 57, 57, 57, 57, 57, 57, 57, 57, 57, 57, 57, 57, 57, 57, 57, 57, 57, 57, 57, 57, 57, 57, 57, 57, 57, 57, 56]⟩, .string ⟨#[63, 57, 57, 57, 57, 57, 57, 57, 57, 57, 57, 57, 57, 57, 57, 57, 57, 57, 57, 57, 57, 57, 57, 57, 57, 57, 57, 57, 57, 57, 57, 56]⟩, .string ⟨#[63, 57, 57, 57, 57, 57, 57, 57, 57, 57, 57, 57, 57, 57, 57, 57, 57, 57, 57, 57, 57, 57, 57, 57, 57, 57, 57, 57, 57, 57, 56]⟩, .string ⟨#[49, 88]⟩, .string ⟨#[88]⟩, .string ⟨#[63, 63]⟩, .string ⟨#[63]⟩, .string ⟨#[49, 32]⟩, .string ⟨#[97, 49]⟩, .string ⟨#[49, 47]⟩, .string ⟨#[49, 58]⟩] 9)) := z.alloc z.size _
                have HST : Hid (∀ i : Nat, i < 14 → ∃ s : ByteArray, (#[.string ⟨#[]⟩, .string ⟨#[48, 48, 48, 48, 48, 48, 48, 48, 48, 48, 48, 48, 48, 48, 48, 48, 48, 48, 48, 48, 48, 48, 48, 48, 48, 48, 48, 48, 48, 49]⟩, .string ⟨#[48, 48, 48, 48, 48, 48, 48, 48, 48, 48, 48, 48, 48, 48, 48, 48, 48, 48, 48, 48, 48, 48, 48, 48, 48, 48, 48, 48, 48, 48, 49]⟩, .string ⟨#[57, 57, 57, 57, 57, 57, 57, 57, 57, 57, 57, 57, 57, 57, 57, 57, 57, 57, 57, 57, 57, 57, 57, 57, 57, 57, 57, 57, 57, 57, 56]⟩, .string ⟨#[63, 57, 57, 57, 57, 57, 57, 57, 57, 57, 57, 57, 57, 57, 57, 57, 57, 57, 57, 57, 57, 57, 57, 57, 57, 57, 57, 57, 57, 57, 57, 56]⟩, .string ⟨#[63, 57, 57, 57, 57, 57, 57, 57, 57, 57, 57, 57, 57, 57, 57, 57, 57, 57, 57, 57, 57, 57, 57, 57, 57, 57, 57, 57, 57, 57, 56]⟩, .string ⟨#[49, 88]⟩, .string ⟨#[88]⟩, .string ⟨#[63, 63]⟩, .string ⟨#[63]⟩, .string ⟨#[49, 32]⟩, .string ⟨#[97, 49]⟩, .string ⟨#[49, 47]⟩, .string ⟨#[49, 58]⟩] : Array Value)[i]? = some (.string s) ∧ s.size ≤ 40) := Lib.hid fun i hi => by
                  rcases (by omega : i = 0 ∨ i = 1 ∨ i = 2 ∨ i = 3 ∨ i = 4 ∨ i = 5 ∨ i = 6 ∨ i = 7 ∨ i = 8 ∨ i = 9 ∨ i = 10 ∨ i = 11 ∨ i = 12 ∨ i = 13) with rfl | rfl | rfl | rfl | rfl | rfl | rfl | rfl | rfl | rfl | rfl | rfl | rfl | rfl <;> exact ⟨_, rfl, by decide⟩
                obtain ⟨ST, hST⟩ : ∃ ST : Array Value, #[.string ⟨#[]⟩, .string ⟨#[48, 48, 48, 48, 48, 48, 48, 48, 48, 48, 48, 48, 48, 48, 48, 48, 48, 48, 48, 48, 48, 48, 48, 48, 48, 48, 48, 48, 48, 49]⟩, .string ⟨#[48, 48, 48, 48, 48, 48, 48, 48, 48, 48, 48, 48, 48, 48, 48, 48, 48, 48, 48, 48, 48, 48, 48, 48, 48, 48, 48, 48, 48, 48, 49]⟩, .string ⟨#[57, 57, 57, 57, 57, 57, 57, 57, 57, 57, 57, 57, 57, 57, 57, 57, 57, 57, 57, 57, 57, 57, 57, 57, 57, 57, 57, 57, 57, 57, 56]⟩, .string ⟨#[63, 57, 57, 57, 57, 57, 57, 57, 57, 57, 57, 57, 57, 57, 57, 57, 57, 57, 57, 57, 57, 57, 57, 57, 57, 57, 57, 57, 57, 57, 57, 56]⟩, .string ⟨#[63, 57, 57, 57, 57, 57, 57, 57, 57, 57, 57, 57, 57, 57, 57, 57, 57, 57, 57, 57, 57, 57, 57, 57, 57, 57, 57, 57, 57, 57, 56]⟩, .string ⟨#[49, 88]⟩, .string ⟨#[88]⟩, .string ⟨#[63, 63]⟩, .string ⟨#[63]⟩, .string ⟨#[49, 32]⟩, .string ⟨#[97, 49]⟩, .string ⟨#[49, 47]⟩, .string ⟨#[49, 58]⟩] = ST := ⟨_, rfl⟩
                clear p0 p1 v0 z
                go_wp2_with fail
                (try rw [hbs])
                rw [hST] at hsb HST hza
                (try rw [hST])
                go_loopw [70] (fun iv wr => ∃ i : Nat, iv = .int .i64 i ∧ i ≤ 14 ∧ BlockAt wr bs ST 9 ∧ Below W0.heap.size W0 wr)
                  (fun iv _ => 14 - (intOf iv).toNat)
                case atStart => exact ⟨0, rfl, by omega, hsb, hza⟩
                case round =>
                  clear hsb hza hST hbs
                  obtain ⟨i, rfl, hi14, hsb, z⟩ := hrel
                  have hwi : IntKind.i64.wrap ((i : Int) + 1) = (i : Int) + 1 := by rw [IntKind.wrap_i64]; omega
                  obtain ⟨p0, p1, _, _⟩ := (HXB.out.below z).two
                  have v0 := (HXB.out.below z).lt
                  by_cases hi : i < 14
                  · have hii : (i : Int) < 14 := by omega
                    obtain ⟨s, hs, hsz⟩ := HST.out i hi
                    have hcs : wr.cell? ⟨bs, i, none⟩ = some (.string s) := by
                      unfold BlockAt at hsb
                      simp [World.cell?, hsb, hs]
                    have vb := hsb.lt
                    clear hs
                    go_wp2_with fail
                    refine (texts_any K (ints vs) wv s _ (HSY.out _ z) (by omega)).mono ?_
                    rintro e w5 ⟨rfl, hb5⟩
                    have z5 := z.trans (hb5.mono z.size)
                    have hsb5 := hsb.below hb5
                    clear hb5 z hsb p0 p1 v0
                    go_wp2
                    go_roundw
                    case rel => exact ⟨i + 1, by go_num, by omega, hsb5, z5⟩
                    case measure => simp [intOf] <;> omega
                  · have hii : ¬ (i : Int) < 14 := by omega
                    clear hsb p0 p1 v0
                    go_wp2_with fail
                    go_loopw [11] (fun iv wr => ∃ i : Nat, iv = .int .i64 i ∧ i ≤ 144 ∧ Below W0.heap.size W0 wr)
                      (fun iv _ => 144 - (intOf iv).toNat)
                    case atStart => exact ⟨0, rfl, by omega, z⟩
                    case round =>
                      clear z
                      obtain ⟨t, rfl, ht144, z⟩ := hrel
                      have hwt : IntKind.i64.wrap ((t : Int) + 1) = (t : Int) + 1 := by rw [IntKind.wrap_i64]; omega
                      by_cases ht : t < 144
                      · have hti : (t : Int) < 144 := by omega
                        obtain ⟨A, hA⟩ : ∃ A, t / 12 = A := ⟨_, rfl⟩
                        obtain ⟨B, hB⟩ : ∃ B, t % 12 = B := ⟨_, rfl⟩
                        have hqA : (t : Int).tdiv 12 = (A : Int) := by rw [Int.tdiv_eq_ediv_of_nonneg (by omega)]; omega
                        have hqA2 : (t : Int) / 12 = (A : Int) := by omega
                        have hrB : (t : Int).tmod 12 = (B : Int) := by rw [Int.tmod_eq_emod_of_nonneg (by omega)]; omega
                        have hrB2 : (t : Int) % 12 = (B : Int) := by omega
                        have hA12 : A < 12 := by omega
                        have hB12 : B < 12 := by omega
                        have hwA0 : IntKind.i64.wrap (A : Int) = (A : Int) := by rw [IntKind.wrap_i64]; omega
                        have hwB0 : IntKind.i64.wrap (B : Int) = (B : Int) := by rw [IntKind.wrap_i64]; omega
                        have hwA : IntKind.i64.wrap ((A : Int) + 1) = (A : Int) + 1 := by rw [IntKind.wrap_i64]; omega
                        have hwB : IntKind.i64.wrap ((B : Int) + 1) = (B : Int) + 1 := by rw [IntKind.wrap_i64]; omega
                        obtain ⟨DA, hDA, hslA⟩ := slice_12 A hA12
                        obtain ⟨DB, hDB, hslB⟩ := slice_12 B hB12
                        have hz1 : ¬ 9223372036854775807 < DA.size + DB.size := by omega
                        have hz2 : ¬ 9223372036854775807 < 1 + DA.size := by omega
                        have hz3 : ¬ 9223372036854775807 < 1 + DA.size + DB.size := by omega
                        have HDA := Lib.hid hDA
                        have HDB := Lib.hid hDB
                        clear hA hB hDA hDB
                        obtain ⟨p0, p1, _, _⟩ := (HXB.out.below z).two
                        have v0 := (HXB.out.below z).lt
                        go_upto_region 30 with fail
                        go_region_held3 (fun w' => w'.cell? ⟨B0, 0, none⟩ = some (.int .u8 K) ∧ w'.cell? ⟨B0, 1, none⟩ = some wv) (go_keep)
                          (first
                            | (go_at_call 28; with_reducible refine (texts_any K (ints vs) wv (DA ++ DB) _ (HSY.out _ z.drew) (by rw [ByteArray.size_append, HDA.out, HDB.out]; decide)).mono ?_; rintro e w5 ⟨rfl, hb5⟩; have z5 : Below W0.heap.size W0 w5 := below_after z z.size hb5; obtain ⟨a0, a1, _, _⟩ := (HXB.out.below z5).two)
                            | (go_at_call 28; with_reducible refine (texts_any K (ints vs) wv (⟨#[55]⟩ ++ DA ++ DB) _ (HSY.out _ z5) (by rw [ByteArray.size_append, ByteArray.size_append, HDA.out, HDB.out, show (⟨#[55]⟩ : ByteArray).size = 1 from rfl]; decide)).mono ?_; rintro e w6 ⟨rfl, hb6⟩; have z6 : Below W0.heap.size W0 w6 := z5.trans (hb6.mono z5.size); obtain ⟨a0, a1, _, _⟩ := (HXB.out.below z6).two)
                            | (go_at_call 28; with_reducible refine (texts_any K (ints vs) wv DB _ (HSY.out _ z6) (by rw [HDB.out]; decide)).mono ?_; rintro e w7 ⟨rfl, hb7⟩; have z7 : Below W0.heap.size W0 w7 := z6.trans (hb7.mono z6.size); obtain ⟨a0, a1, _, _⟩ := (HXB.out.below z7).two)
                            | fail)
                        clear z z5 z6 hb5 hb6 hb7 p0 p1 v0 a0 a1
                        go_wp2
                        go_roundw
                        case rel => exact ⟨t + 1, by go_num, by omega, z7⟩
                        case measure => simp [intOf] <;> omega
                      · have hti : ¬ (t : Int) < 144 := by omega
                        go_wp2
                        go_roundw
                        case rel => exact ⟨j + 1, by first | rfl | (refine congrArg (Value.int IntKind.i64) ?_; have h9 := HXJ.out; omega) | (refine congrArg (Value.int IntKind.i64) ?_; have h9 := HXJ.out; rw [IntKind.wrap_i64]; omega), by omega, HYW.out.trans (z.mono HYW.out.size)⟩
                        case measure => simp [intOf] <;> omega
        · have hjn : ¬ (j : Int) - 1 < 13 := by omega
          go_wp2
          go_roundw
          case rel => exact ⟨K + 1, by go_num, by omega, hY⟩
          case measure => simp [intOf] <;> omega
    · have hKi : ¬ (K : Int) < 6 := by omega
      go_wp2_with fail
      refine (dawake_any _ (HT.out.below (Nat.le_refl _) hY)).mono ?_
      rintro e w9 ⟨rfl, hb9⟩
      go_wp2
      go_ret
      exact ⟨rfl, hY.trans (hb9.mono hY.size)⟩
end Go.Proofs.YtnmnfbibjghjhaaDoor
