/-
  Plain definitions of what the network functions compute: no Go, no memory.
-/
namespace Go.Proofs.Ytogofbncdggigaa.Net

/-- Whether a leg is right. -/
def rightB (i f t d m c g y : Int) : Bool :=
  decide (1 ≤ i ∧ i ≤ 999999 ∧ 1 ≤ f ∧ f ≤ 999999 ∧ 1 ≤ t ∧ t ≤ 999999 ∧ 0 ≤ d ∧ d ≤ 1439 ∧ 1 ≤ m ∧ m ≤ 20160 ∧ 0 ≤ c ∧ c ≤ 10080 ∧ 0 ≤ g ∧ g ≤ 1000000000 ∧ 1 ≤ y ∧ y ≤ 127 ∧ f ≠ t)

theorem rightB_iff {i f t d m c g y : Int} : rightB i f t d m c g y = true ↔ (1 ≤ i ∧ i ≤ 999999 ∧ 1 ≤ f ∧ f ≤ 999999 ∧ 1 ≤ t ∧ t ≤ 999999 ∧ 0 ≤ d ∧ d ≤ 1439 ∧ 1 ≤ m ∧ m ≤ 20160 ∧ 0 ≤ c ∧ c ≤ 10080 ∧ 0 ≤ g ∧ g ≤ 1000000000 ∧ 1 ≤ y ∧ y ≤ 127 ∧ f ≠ t) := by
  unfold rightB; exact decide_eq_true_iff
theorem rightB_no {i f t d m c g y : Int} (h : ¬ (1 ≤ i ∧ i ≤ 999999 ∧ 1 ≤ f ∧ f ≤ 999999 ∧ 1 ≤ t ∧ t ≤ 999999 ∧ 0 ≤ d ∧ d ≤ 1439 ∧ 1 ≤ m ∧ m ≤ 20160 ∧ 0 ≤ c ∧ c ≤ 10080 ∧ 0 ≤ g ∧ g ≤ 1000000000 ∧ 1 ≤ y ∧ y ≤ 127 ∧ f ≠ t)) : rightB i f t d m c g y = false := by
  unfold rightB; exact decide_eq_false h

/-- Whether a leg runs on a weekday: bit 'day mod 7' of its days. -/
def runsB (y day : Int) : Bool := decide (y / 2 ^ (day % 7).toNat % 2 = 1)

/-- Whether there is a departure on a day. -/
def onB (i f t d m c g y day : Int) : Bool :=
  rightB i f t d m c g y && decide (0 ≤ day ∧ day ≤ 730484) && runsB y day && decide (c ≤ 1440 * day + d ∧ 1440 * day + d + m ≤ 1051898399)

/-- A time kept within a day of those that there are. -/
def nearI (t : Int) : Int := if t < -1440 then -1440 else if 1051899839 < t then 1051899839 else t
/-- The reference's first day from a time on. -/
def firstI (t : Int) : Int := if t < 0 then 0 else if 1051898399 < t then 730485 else t / 1440
def inB (n a b : Int) : Bool := decide (a ≤ n ∧ n ≤ b)
def sameB (a b : Int) (p : Bool) (a' b' : Int) (q : Bool) : Bool := decide (a = a' ∧ b = b' ∧ p = q)
def dayB (y : Int) (k : Nat) : Bool := decide (y / 2 ^ k % 2 = 1)
theorem runsB_dayB (y day : Int) : runsB y day = dayB y (day % 7).toNat := rfl
/-- The remainder as letterbagkit.Pick has it. -/
def pickI (x n : Int) : Int := x % n
theorem pickI_bd (x n : Int) (h : 1 ≤ n) : 0 ≤ pickI x n ∧ pickI x n < n := by
  unfold pickI; exact ⟨Int.emod_nonneg x (by omega), Int.emod_lt_of_pos x (by omega)⟩
theorem tmod_neg_bd (x n : Int) (hx : x < 0) (hn : 1 ≤ n) : x.tmod n ≤ 0 ∧ -n < x.tmod n := by
  have h := Int.neg_tmod (a := x) (b := n)
  have h2 := Int.tmod_eq_emod_of_nonneg (a := -x) (b := n) (by omega)
  have h3 := Int.emod_nonneg (-x) (b := n) (by omega)
  have h4 := Int.emod_lt_of_pos (-x) (b := n) (by omega)
  omega
theorem pickI_neg (x n : Int) (hx : x < 0) (hn : 1 ≤ n) (h : x.tmod n < 0) : x.tmod n + n = pickI x n := by
  unfold pickI
  have h0 := Int.tmod_add_mul_tdiv x n
  have h1 := tmod_neg_bd x n hx hn
  have : x % n = (x.tmod n + n) % n := by
    rw [Int.add_emod_right]
    conv => lhs; rw [← h0]
    rw [Int.add_mul_emod_self_left]
  rw [this, Int.emod_eq_of_lt (by omega) (by omega)]
theorem pickI_zero (x n : Int) (hx : x < 0) (hn : 1 ≤ n) (h : 0 ≤ x.tmod n) : x.tmod n = pickI x n := by
  unfold pickI
  have h0 := Int.tmod_add_mul_tdiv x n
  have h1 := tmod_neg_bd x n hx hn
  have h2 : x.tmod n = 0 := by omega
  have : x % n = (x.tmod n) % n := by
    conv => lhs; rw [← h0]
    rw [Int.add_mul_emod_self_left]
  rw [this, h2]; simp

/-- The days from k on, n of them, on which there is a departure. -/
def daysOn (on : Int → Bool) : Nat → Int → List Int
  | 0, _ => []
  | n + 1, k => if on k = true then k :: daysOn on n (k + 1) else daysOn on n (k + 1)
theorem daysOn_yes {on : Int → Bool} {n : Nat} {k : Int} (h : on k = true) : daysOn on (n + 1) k = k :: daysOn on n (k + 1) := by rw [daysOn, if_pos h]
theorem daysOn_no {on : Int → Bool} {n : Nat} {k : Int} (h : on k = false) : daysOn on (n + 1) k = daysOn on n (k + 1) := by rw [daysOn, if_neg (by rw [h]; decide)]
/-- All days with a departure from a day on. -/
def depDays (on : Int → Bool) (k : Int) : List Int := daysOn on (730485 - k).toNat k
theorem depDays_yes {on : Int → Bool} {k : Int} (hk : k ≤ 730484) (h : on k = true) : depDays on k = k :: depDays on (k + 1) := by
  unfold depDays; rw [show (730485 - k).toNat = (730485 - (k + 1)).toNat + 1 from by omega, daysOn_yes h]
theorem depDays_no {on : Int → Bool} {k : Int} (hk : k ≤ 730484) (h : on k = false) : depDays on k = depDays on (k + 1) := by
  unfold depDays; rw [show (730485 - k).toNat = (730485 - (k + 1)).toNat + 1 from by omega, daysOn_no h]
theorem depDays_end {on : Int → Bool} {k : Int} (hk : 730485 ≤ k) : depDays on k = [] := by
  unfold depDays; rw [show (730485 - k).toNat = 0 from by omega]; rfl

end Go.Proofs.Ytogofbncdggigaa.Net
