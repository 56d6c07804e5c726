/-
  The seven functions that set a field of a leg.
-/
import Derived.Test.YtogofbncdggigaaNf
namespace Go.Proofs.Ytogofbncdggigaa
open Go.RowKit Net

theorem set0_any (n : Int) (B : Nat) (i f t d m c g y : Int) (w : World) (h : LegAt w B i f t d m c g y) :
    Calls Try.prog 35 #[.pointer (some ⟨B, 0, none⟩), .int .i64 n] w fun e w' => e = .returned (.tuple #[]) ∧ w' = w.setCell ⟨B, 0, none⟩ (.int .i64 n) := by
  have hfz : w.frozen? ⟨B, 0, none⟩ = false := by unfold LegAt at h; simp [World.frozen?, h]
  obtain ⟨l0, l1, l2, l3, l4, l5, l6, l7⟩ := h.cells
  have v0 := h.lt
  go_enter Try.func35, Try.ntmps35
  go_wp2
  go_end0
  exact ⟨rfl, rfl⟩

theorem set1_any (n : Int) (B : Nat) (i f t d m c g y : Int) (w : World) (h : LegAt w B i f t d m c g y) :
    Calls Try.prog 36 #[.pointer (some ⟨B, 0, none⟩), .int .i64 n] w fun e w' => e = .returned (.tuple #[]) ∧ w' = w.setCell ⟨B, 1, none⟩ (.int .i64 n) := by
  have hfz : w.frozen? ⟨B, 1, none⟩ = false := by unfold LegAt at h; simp [World.frozen?, h]
  obtain ⟨l0, l1, l2, l3, l4, l5, l6, l7⟩ := h.cells
  have v0 := h.lt
  go_enter Try.func36, Try.ntmps36
  go_wp2
  go_end0
  exact ⟨rfl, rfl⟩

theorem set2_any (n : Int) (B : Nat) (i f t d m c g y : Int) (w : World) (h : LegAt w B i f t d m c g y) :
    Calls Try.prog 37 #[.pointer (some ⟨B, 0, none⟩), .int .i64 n] w fun e w' => e = .returned (.tuple #[]) ∧ w' = w.setCell ⟨B, 2, none⟩ (.int .i64 n) := by
  have hfz : w.frozen? ⟨B, 2, none⟩ = false := by unfold LegAt at h; simp [World.frozen?, h]
  obtain ⟨l0, l1, l2, l3, l4, l5, l6, l7⟩ := h.cells
  have v0 := h.lt
  go_enter Try.func37, Try.ntmps37
  go_wp2
  go_end0
  exact ⟨rfl, rfl⟩

theorem set3_any (n : Int) (B : Nat) (i f t d m c g y : Int) (w : World) (h : LegAt w B i f t d m c g y) :
    Calls Try.prog 38 #[.pointer (some ⟨B, 0, none⟩), .int .i64 n] w fun e w' => e = .returned (.tuple #[]) ∧ w' = w.setCell ⟨B, 3, none⟩ (.int .i64 n) := by
  have hfz : w.frozen? ⟨B, 3, none⟩ = false := by unfold LegAt at h; simp [World.frozen?, h]
  obtain ⟨l0, l1, l2, l3, l4, l5, l6, l7⟩ := h.cells
  have v0 := h.lt
  go_enter Try.func38, Try.ntmps38
  go_wp2
  go_end0
  exact ⟨rfl, rfl⟩

theorem set4_any (n : Int) (B : Nat) (i f t d m c g y : Int) (w : World) (h : LegAt w B i f t d m c g y) :
    Calls Try.prog 39 #[.pointer (some ⟨B, 0, none⟩), .int .i64 n] w fun e w' => e = .returned (.tuple #[]) ∧ w' = w.setCell ⟨B, 4, none⟩ (.int .i64 n) := by
  have hfz : w.frozen? ⟨B, 4, none⟩ = false := by unfold LegAt at h; simp [World.frozen?, h]
  obtain ⟨l0, l1, l2, l3, l4, l5, l6, l7⟩ := h.cells
  have v0 := h.lt
  go_enter Try.func39, Try.ntmps39
  go_wp2
  go_end0
  exact ⟨rfl, rfl⟩

theorem set5_any (n : Int) (B : Nat) (i f t d m c g y : Int) (w : World) (h : LegAt w B i f t d m c g y) :
    Calls Try.prog 40 #[.pointer (some ⟨B, 0, none⟩), .int .i64 n] w fun e w' => e = .returned (.tuple #[]) ∧ w' = w.setCell ⟨B, 5, none⟩ (.int .i64 n) := by
  have hfz : w.frozen? ⟨B, 5, none⟩ = false := by unfold LegAt at h; simp [World.frozen?, h]
  obtain ⟨l0, l1, l2, l3, l4, l5, l6, l7⟩ := h.cells
  have v0 := h.lt
  go_enter Try.func40, Try.ntmps40
  go_wp2
  go_end0
  exact ⟨rfl, rfl⟩

theorem set6_any (n : Int) (B : Nat) (i f t d m c g y : Int) (w : World) (h : LegAt w B i f t d m c g y) :
    Calls Try.prog 41 #[.pointer (some ⟨B, 0, none⟩), .int .i64 n] w fun e w' => e = .returned (.tuple #[]) ∧ w' = w.setCell ⟨B, 6, none⟩ (.int .i64 n) := by
  have hfz : w.frozen? ⟨B, 6, none⟩ = false := by unfold LegAt at h; simp [World.frozen?, h]
  obtain ⟨l0, l1, l2, l3, l4, l5, l6, l7⟩ := h.cells
  have v0 := h.lt
  go_enter Try.func41, Try.ntmps41
  go_wp2
  go_end0
  exact ⟨rfl, rfl⟩
end Go.Proofs.Ytogofbncdggigaa
