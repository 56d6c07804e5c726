/-
  Bytes in a memory; the walks of put and exchanged.
-/
import Derived.Test.YtnmnfbibjghjhaaDoorDi
namespace Go.Proofs.YtnmnfbibjghjhaaDoor
open Go.RowKit Dig

/-- A block that holds bytes from its head on. -/
structure ByteRow (W : World) (B : Nat) (l : List Nat) : Prop where
  lt : B < W.heap.size
  small : ∀ c ∈ l, c < 256
  cell : ∀ j c : Nat, l[j]? = some c → W.cell? ⟨B, j, none⟩ = some (.int .u8 (c : Int))
  open' : ∀ j : Nat, j < l.length → W.frozen? ⟨B, j, none⟩ = false
theorem tx_small (s : ByteArray) : ∀ c ∈ tx s, c < 256 := fun c hc => by
  obtain ⟨b, _, rfl⟩ := List.mem_map.1 hc
  exact UInt8.toNat_lt b
theorem ByteRow.below {B C : Nat} {W W' : World} {l : List Nat} (h : ByteRow W B l) (hB : W.heap.size ≤ C) (hb : Below C W W') : ByteRow W' B l := by
  have hl : B < C := Nat.lt_of_lt_of_le h.lt hB
  exact ⟨Nat.lt_of_lt_of_le h.lt hb.size, h.small, fun j c hj => (hb.cell (p := ⟨B, j, none⟩) hl).trans (h.cell j c hj), fun j hj => (World.frozen?_of_block (hb.block B hl)).trans (h.open' j hj)⟩
theorem ByteRow.alloc {B : Nat} {W : World} {l : List Nat} (h : ByteRow W B l) (o : Obj) : ByteRow (W.alloc o) B l := h.below (Nat.le_refl _) ((Below.refl _ W).alloc (Nat.le_refl _) o)
theorem ByteRow.set {B : Nat} {W : World} {l : List Nat} (h : ByteRow W B l) {i : Nat} (hi : i < l.length) {c : Nat} (hc : c < 256) : ByteRow (W.setCell ⟨B, i, none⟩ (.int .u8 (c : Int))) B (l.set i c) := by
  refine ⟨by simpa using h.lt, fun d hd => ?_, fun j d hj => ?_, fun j hj => ?_⟩
  · rcases List.mem_or_eq_of_mem_set hd with hd | rfl
    · exact h.small d hd
    · exact hc
  · by_cases e : i = j
    · subst e
      rw [List.getElem?_set_self hi] at hj
      cases hj
      have hc := h.cell i _ (List.getElem?_eq_getElem hi)
      first | exact World.cell?_setCell_same _ _ _ hc | exact World.cell?_setCell_same _ hc | exact World.cell?_setCell_same _ _ hc | exact World.cell?_setCell_same _ _ _ _ hc
    · rw [List.getElem?_set_ne e] at hj
      have hne : (⟨B, i, none⟩ : Addr) ≠ ⟨B, j, none⟩ := by intro e'; cases e'; exact e rfl
      refine Eq.trans ?_ (h.cell j d hj)
      first | exact World.cell?_setCell_other _ _ _ hne | exact World.cell?_setCell_other _ hne | exact World.cell?_setCell_other _ _ hne | exact World.cell?_setCell_other _ _ _ _ hne
  · rw [World.frozen?_setCell]
    exact h.open' j (by simpa using hj)
/-- '[]byte(s)'. -/
theorem conv_bytes (s : ByteArray) (W : World) : ∃ cap W', (convert 9 22 (.string s)).run Tryd.prog W = .ok (.slice (some ⟨W.heap.size, 0, none⟩) s.size cap) W' ∧ ByteRow W' W.heap.size (tx s) ∧ Below W.heap.size W W' ∧ W'.heap.size = W.heap.size + 1 := by
  refine ⟨_, _, run_bytes_of_string W 9 22 5 s Tryd.underlying9 Tryd.underlying22 Tryd.underlying5, ?_, ?_, ?_⟩
  · obtain ⟨R, hR⟩ : ∃ R, bytesRow s (grownCap W s.size 0 5) = R := ⟨_, rfl⟩
    rw [hR]
    have hb : (W.drew.alloc (.cells R 5 (R.size, R.size + 1))).heap[W.heap.size]? = some (.cells R 5 (R.size, R.size + 1)) := World.alloc_heap_new2 W.drew _
    have hRj : ∀ j c : Nat, (tx s)[j]? = some c → R[j]? = some (.int .u8 (c : Int)) := fun j c hj => by
      have hlt : j < s.size := by have := (List.getElem?_eq_some_iff.1 hj).1; rwa [tx_len] at this
      rw [tx_at s j hlt] at hj
      cases hj
      rw [← hR]
      unfold bytesRow
      rw [Array.getElem?_append_left (by rw [Array.size_map]; exact hlt), Array.getElem?_map, Array.getElem?_eq_getElem (by exact hlt)]
      rfl
    refine ⟨?_, tx_small s, fun j c hj => ?_, fun j hj => ?_⟩
    · show W.heap.size < (W.heap.push _).size
      rw [Array.size_push]; omega
    · have := World.cell?_alloc_mark W.drew R 5 (R.size, R.size + 1) j
      exact this.trans (hRj j c hj)
    · have hjR : j < R.size := by
        obtain ⟨c, hc⟩ : ∃ c, (tx s)[j]? = some c := ⟨_, List.getElem?_eq_getElem hj⟩
        exact (Array.getElem?_eq_some_iff.1 (hRj j c hc)).1
      unfold World.frozen?
      simp only [hb]
      simp
      omega
  · exact (Below.refl _ W).drew.alloc (Nat.le_refl _) _
  · show (W.heap.push _).size = _
    rw [Array.size_push]
/-- 'string(b)'. -/
theorem conv_text {W : World} {B n cap : Nat} {l : List Nat} (h : ByteRow W B l) (hn : l.length = n) : ∃ S : ByteArray, (convert 22 9 (.slice (some ⟨B, 0, none⟩) n cap)).run Tryd.prog W = .ok (.string S) W ∧ tx S = l := by
  have hll : (l.map UInt8.ofNat).length = n := by rw [List.length_map]; exact hn
  have hrun := run_convert_bytes_back (P := Tryd.prog) W 22 9 5 ⟨B, 0, none⟩ cap (l.map UInt8.ofNat) Tryd.underlying22 Tryd.underlying5 Tryd.underlying9 (fun j hj => by
    rw [addr_add, Nat.zero_add]
    have hj' : j < l.length := by simpa using hj
    rw [h.cell j _ (List.getElem?_eq_getElem hj')]
    have := h.small _ (List.getElem_mem hj')
    simp [UInt8.toNat_ofNat', Nat.mod_eq_of_lt this])
  rw [hll] at hrun
  refine ⟨_, hrun, ?_⟩
  unfold tx
  rw [List.map_map]
  conv => rhs; rw [← List.map_id l]
  refine List.map_congr_left fun c hc => ?_
  have := h.small c hc
  simp [UInt8.toNat_ofNat', Nat.mod_eq_of_lt this]

set_option maxHeartbeats 4000000 in
theorem put_any (s : ByteArray) (i c : Nat) (w : World) (hi : i < s.size) (hc : c < 256) (hl : s.size ≤ 999) :
    Calls Tryd.prog 16 #[.string s, .int .i64 i, .int .u8 c] w fun e w' => ∃ S, e = .returned (.string S) ∧ tx S = (tx s).set i c ∧ Below w.heap.size w w' := by
  obtain ⟨cap, W, hrun, hrow, hB, hsz⟩ := conv_bytes s w
  have htl := tx_len s
  obtain ⟨S, hrun2, hS⟩ := conv_text (cap := cap) (hrow.set (i := i) (by omega) hc) (show ((tx s).set i c).length = s.size by rw [List.length_set, htl])
  obtain ⟨c0, hc0⟩ : ∃ c0, (tx s)[i]? = some c0 := ⟨_, List.getElem?_eq_getElem (by omega)⟩
  have hcell := hrow.cell i c0 hc0
  have hfz := hrow.open' i (by omega)
  have hii : (i : Int) < (s.size : Int) := by omega
  have v0 := hrow.lt
  have HB := Lib.hid hB
  have HS := Lib.hid hS
  clear hrow hB hS hc0
  go_enter Tryd.func16, Tryd.ntmps16
  go_wp2
  go_ret
  exact ⟨S, rfl, HS.out, HB.out.setCell (Nat.le_refl _) _⟩
end Go.Proofs.YtnmnfbibjghjhaaDoor
