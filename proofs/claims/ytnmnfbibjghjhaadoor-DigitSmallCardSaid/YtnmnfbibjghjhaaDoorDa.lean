/-
  Plain definitions and laws of the systems of check digits. No Go, no memory.
-/
import Derived.KernelRfl
namespace Go.Proofs.YtnmnfbibjghjhaaDoor.Dig

def prodT : List (List Nat) := [[0, 1, 2, 3, 4, 5, 6, 7, 8, 9], [1, 2, 3, 4, 0, 6, 7, 8, 9, 5], [2, 3, 4, 0, 1, 7, 8, 9, 5, 6], [3, 4, 0, 1, 2, 8, 9, 5, 6, 7], [4, 0, 1, 2, 3, 9, 5, 6, 7, 8],
  [5, 9, 8, 7, 6, 0, 4, 3, 2, 1], [6, 5, 9, 8, 7, 1, 0, 4, 3, 2], [7, 6, 5, 9, 8, 2, 1, 0, 4, 3], [8, 7, 6, 5, 9, 3, 2, 1, 0, 4], [9, 8, 7, 6, 5, 4, 3, 2, 1, 0]]
def turnT : List Nat := [1, 5, 7, 6, 2, 8, 3, 0, 9, 4]
def invT : List Nat := [0, 4, 3, 2, 1, 5, 6, 7, 8, 9]
def prod (x y : Nat) : Nat := (prodT.getD x []).getD y 0
def turn1 (x : Nat) : Nat := turnT.getD x 0
def inv (x : Nat) : Nat := invT.getD x 0
def turnN : Nat → Nat → Nat
  | 0, x => x
  | n + 1, x => turn1 (turnN n x)
/-- The weight of a place. -/
def wt (ws : List Nat) (p : Nat) : Nat := if p = 0 then 1 else ws.getD ((p - 1) % ws.length) 0
def dbl (p x : Nat) : Nat := if p % 2 = 0 then x else 2 * x / 10 + 2 * x % 10
def worth (k : Nat) (ws : List Nat) (p x : Nat) : Nat := if k = 3 then dbl p x else wt ws p * x
def modOf (k : Nat) : Nat := if k = 2 then 11 else 10
def permFrom : Nat → Nat → List Nat → Nat
  | _, out, [] => out
  | p, out, x :: vs => permFrom (p + 1) (prod out (turnN (p % 8) x)) vs
def sumFrom (k : Nat) (ws : List Nat) : Nat → List Nat → Nat
  | _, [] => 0
  | p, x :: vs => worth k ws p x + sumFrom k ws (p + 1) vs
def result (k : Nat) (ws vs : List Nat) : Nat := if k = 4 then permFrom 0 0 vs else sumFrom k ws 0 vs % modOf k
def lastOf (k : Nat) (ws vs : List Nat) : Nat := if k = 4 then inv (result k ws vs) else (modOf k - result k ws vs) % modOf k
/-- A right system. -/
def SysOk (k : Nat) (ws : List Nat) : Prop := ((k = 3 ∨ k = 4) ∧ ws = []) ∨ ((k = 1 ∨ k = 2) ∧ 1 ≤ ws.length ∧ ws.length ≤ 10 ∧ ∀ w ∈ ws, 1 ≤ w ∧ w < modOf k)

theorem prod_lt : ∀ x < 10, ∀ y < 10, prod x y < 10 := by decide
theorem prod_assoc : ∀ x < 10, ∀ y < 10, ∀ z < 10, prod (prod x y) z = prod x (prod y z) := by decide +kernel
theorem prod_zero : ∀ x < 10, prod 0 x = x := by decide
theorem prod_left : ∀ a < 10, ∀ x < 10, ∀ y < 10, prod a x = prod a y → x = y := by decide +kernel
theorem prod_right : ∀ a < 10, ∀ x < 10, ∀ y < 10, prod x a = prod y a → x = y := by decide +kernel
theorem prod_inv : ∀ x < 10, prod (inv x) x = 0 := by decide
theorem prod_inv2 : ∀ x < 10, prod x (inv x) = 0 := by decide
theorem inv_lt : ∀ x < 10, inv x < 10 := by decide
theorem inv_first : ∀ x < 10, ∀ y < 10, prod x y = 0 → y = inv x := by decide
theorem turn_lt : ∀ x < 10, turn1 x < 10 := by decide
theorem turn_inj : ∀ x < 10, ∀ y < 10, turn1 x = turn1 y → x = y := by decide
theorem turn_eight : ∀ x < 10, turnN 8 x = x := by decide
theorem turn_pair : ∀ x < 10, ∀ y < 10, prod x (turn1 y) = prod y (turn1 x) → x = y := by decide
theorem turnN_lt : ∀ (n x : Nat), x < 10 → turnN n x < 10
  | 0, _, h => h
  | n + 1, x, h => turn_lt _ (turnN_lt n x h)
theorem turnN_inj : ∀ (n x y : Nat), x < 10 → y < 10 → turnN n x = turnN n y → x = y
  | 0, _, _, _, _, h => h
  | n + 1, x, y, hx, hy, h => turnN_inj n x y hx hy (turn_inj _ (turnN_lt n x hx) _ (turnN_lt n y hy) h)

theorem permFrom_append : ∀ (a b : List Nat) (p out : Nat), permFrom p out (a ++ b) = permFrom (p + a.length) (permFrom p out a) b
  | [], _, _, _ => rfl
  | x :: a, b, p, out => by
    show permFrom (p + 1) _ (a ++ b) = _
    rw [permFrom_append a b]
    show permFrom (p + 1 + a.length) _ b = permFrom (p + (a.length + 1)) _ b
    rw [show p + 1 + a.length = p + (a.length + 1) from by omega]
    rfl
theorem sumFrom_append (k : Nat) (ws : List Nat) : ∀ (a b : List Nat) (p : Nat), sumFrom k ws p (a ++ b) = sumFrom k ws p a + sumFrom k ws (p + a.length) b
  | [], _, _ => by simp [sumFrom]
  | x :: a, b, p => by
    show worth k ws p x + sumFrom k ws (p + 1) (a ++ b) = worth k ws p x + sumFrom k ws (p + 1) a + sumFrom k ws (p + (a.length + 1)) b
    rw [sumFrom_append k ws a b, show p + 1 + a.length = p + (a.length + 1) from by omega]
    omega
theorem permFrom_lt : ∀ (vs : List Nat) (p out : Nat), out < 10 → (∀ v ∈ vs, v < 10) → permFrom p out vs < 10
  | [], _, _, h, _ => h
  | x :: vs, p, out, h, hv => permFrom_lt vs _ _ (prod_lt _ h _ (turnN_lt _ _ (hv x (by simp)))) (fun v hm => hv v (by simp [hm]))
theorem permFrom_out : ∀ (vs : List Nat) (p out : Nat), out < 10 → (∀ v ∈ vs, v < 10) → permFrom p out vs = prod out (permFrom p 0 vs)
  | [], _, out, h, _ => by
    show out = prod out 0
    exact (by decide : ∀ x < 10, x = prod x 0) out h
  | x :: vs, p, out, h, hv => by
    have hx := turnN_lt (p % 8) x (hv x (by simp))
    have hv' : ∀ v ∈ vs, v < 10 := fun v hm => hv v (by simp [hm])
    show permFrom (p + 1) (prod out (turnN (p % 8) x)) vs = prod out (permFrom (p + 1) (prod 0 (turnN (p % 8) x)) vs)
    rw [permFrom_out vs _ _ (prod_lt _ h _ hx) hv', permFrom_out vs _ _ (prod_lt _ (by decide) _ hx) hv', prod_zero _ hx]
    exact prod_assoc _ h _ hx _ (permFrom_lt vs _ _ (by decide) hv')
/-- The result over one place of the permutation system. -/
theorem perm_at (a b : List Nat) (x : Nat) (ha : ∀ v ∈ a, v < 10) (hx : x < 10) (hb : ∀ v ∈ b, v < 10) :
    permFrom 0 0 (a ++ x :: b) = prod (permFrom 0 0 a) (prod (turnN (a.length % 8) x) (permFrom (a.length + 1) 0 b)) := by
  have h1 := permFrom_lt a 0 0 (by decide) ha
  have h2 := turnN_lt (a.length % 8) x hx
  rw [permFrom_append]
  show permFrom (0 + a.length + 1) (prod (permFrom 0 0 a) (turnN ((0 + a.length) % 8) x)) b = _
  rw [Nat.zero_add, permFrom_out b _ _ (prod_lt _ h1 _ h2) hb, prod_assoc _ h1 _ h2 _ (permFrom_lt b _ _ (by decide) hb)]
theorem sum_at (k : Nat) (ws a b : List Nat) (x : Nat) : sumFrom k ws 0 (a ++ x :: b) = sumFrom k ws 0 a + worth k ws a.length x + sumFrom k ws (a.length + 1) b := by
  rw [sumFrom_append]
  show sumFrom k ws 0 a + (worth k ws (0 + a.length) x + sumFrom k ws (0 + a.length + 1) b) = _
  rw [Nat.zero_add]; omega
theorem worth_zero (k : Nat) (ws : List Nat) (x : Nat) : worth k ws 0 x = x := by
  unfold worth dbl wt; split <;> simp
theorem modOf_pos (k : Nat) : 0 < modOf k := by unfold modOf; split <;> decide
theorem modOf_le (k : Nat) : modOf k ≤ 11 := by unfold modOf; split <;> decide
theorem modOf_ge (k : Nat) : 10 ≤ modOf k := by unfold modOf; split <;> decide
/-- The value that Check finds makes a text pass. -/
theorem last_passes (k : Nat) (ws vs : List Nat) (hv : k = 4 → ∀ v ∈ vs, v < 10) : result k ws (lastOf k ws (0 :: vs) :: vs) = 0 := by
  unfold lastOf
  by_cases h : k = 4
  · subst h
    have hv := hv rfl
    simp only [result, if_pos]
    show permFrom 1 (prod 0 (turnN 0 (inv (permFrom 1 (prod 0 (turnN 0 0)) vs)))) vs = 0
    have h0 : prod 0 (turnN 0 0) = 0 := by decide
    rw [h0]
    have hR := permFrom_lt vs 1 0 (by decide) hv
    have hi := inv_lt _ hR
    show permFrom 1 (prod 0 (inv (permFrom 1 0 vs))) vs = 0
    rw [prod_zero _ hi, permFrom_out vs 1 _ hi hv]
    exact prod_inv _ hR
  · rw [if_neg h]
    unfold result
    rw [if_neg h, if_neg h]
    show (worth k ws 0 _ + sumFrom k ws 1 vs) % modOf k = 0
    have e : sumFrom k ws 0 (0 :: vs) = sumFrom k ws 1 vs := by
      show worth k ws 0 0 + sumFrom k ws 1 vs = _
      rw [worth_zero]; omega
    rw [worth_zero, e]
    unfold modOf
    split <;> omega
theorem lastOf_lt (k : Nat) (ws vs : List Nat) (hv : k = 4 → ∀ v ∈ vs, v < 10) : lastOf k ws vs < (if k = 2 then 11 else 10) := by
  unfold lastOf
  by_cases h : k = 4
  · subst h
    simp only [result, if_pos]
    exact inv_lt _ (permFrom_lt vs _ _ (by decide) (hv rfl))
  · rw [if_neg h]
    exact Nat.mod_lt _ (modOf_pos k)
theorem wt_ok {k : Nat} {ws : List Nat} (h : SysOk k ws) (hk : k = 1 ∨ k = 2) (p : Nat) : 1 ≤ wt ws p ∧ wt ws p < modOf k := by
  rcases h with ⟨h, _⟩ | ⟨_, h1, h2, h3⟩
  · omega
  · unfold wt
    have := modOf_ge k
    by_cases hp : p = 0
    · rw [if_pos hp]; omega
    · rw [if_neg hp]
      have hlt : (p - 1) % ws.length < ws.length := Nat.mod_lt _ (by omega)
      rw [List.getD_eq_getElem?_getD, List.getElem?_eq_getElem hlt]
      exact h3 _ (List.getElem_mem hlt)
theorem dbl_inj (p : Nat) {x y : Nat} (hx : x < 10) (hy : y < 10) (h : dbl p x = dbl p y) : x = y := by
  unfold dbl at h
  by_cases hp : p % 2 = 0
  · rwa [if_pos hp, if_pos hp] at h
  · rw [if_neg hp, if_neg hp] at h
    omega
theorem dbl_lt (p : Nat) {x : Nat} (hx : x < 10) : dbl p x < 10 := by
  unfold dbl
  split <;> omega
theorem mul_inj11 {w x y S : Nat} (h1 : 1 ≤ w) (h2 : w < 11) (hx : x < 11) (hy : y < 11) (h : (S + w * x) % 11 = 0) (h' : (S + w * y) % 11 = 0) : x = y := by
  rcases (by omega : w = 1 ∨ w = 2 ∨ w = 3 ∨ w = 4 ∨ w = 5 ∨ w = 6 ∨ w = 7 ∨ w = 8 ∨ w = 9 ∨ w = 10) with rfl | rfl | rfl | rfl | rfl | rfl | rfl | rfl | rfl | rfl <;> omega
/-- But for Mod10, at most one value makes a text pass. -/
theorem one_value {k : Nat} {ws : List Nat} (h : SysOk k ws) (hk : k ≠ 1) (a b : List Nat) {x y : Nat} (ha : k = 4 → ∀ v ∈ a, v < 10) (hb : k = 4 → ∀ v ∈ b, v < 10) (hx : x < modOf k) (hy : y < modOf k)
    (px : result k ws (a ++ x :: b) = 0) (py : result k ws (a ++ y :: b) = 0) : x = y := by
  have hcase : k = 2 ∨ k = 3 ∨ k = 4 := by
    rcases h with ⟨h, _⟩ | ⟨h, _⟩ <;> omega
  rcases hcase with rfl | rfl | rfl
  · have hw := wt_ok h (.inr rfl) a.length
    have hm : modOf 2 = 11 := rfl
    rw [hm] at hx hy hw
    unfold result at px py
    rw [if_neg (by decide), sum_at] at px py
    rw [hm] at px py
    have e : ∀ z, worth 2 ws a.length z = wt ws a.length * z := fun z => by unfold worth; rw [if_neg (by decide)]
    rw [e] at px py
    exact mul_inj11 (S := sumFrom 2 ws 0 a + sumFrom 2 ws (a.length + 1) b) hw.1 hw.2 hx hy (by omega) (by omega)
  · have hm : modOf 3 = 10 := rfl
    rw [hm] at hx hy
    unfold result at px py
    rw [if_neg (by decide), sum_at] at px py
    rw [hm] at px py
    have e : ∀ z, worth 3 ws a.length z = dbl a.length z := fun z => by unfold worth; rw [if_pos rfl]
    rw [e] at px py
    have h1 := dbl_lt a.length hx
    have h2 := dbl_lt a.length hy
    exact dbl_inj a.length hx hy (by omega)
  · have hm : modOf 4 = 10 := rfl
    rw [hm] at hx hy
    have ha := ha rfl
    have hb := hb rfl
    unfold result at px py
    rw [if_pos rfl, perm_at _ _ _ ha hx hb] at px
    rw [if_pos rfl, perm_at _ _ _ ha hy hb] at py
    have h1 := permFrom_lt a 0 0 (by decide) ha
    have h3 := permFrom_lt b (a.length + 1) 0 (by decide) hb
    have tx := turnN_lt (a.length % 8) x hx
    have ty := turnN_lt (a.length % 8) y hy
    exact turnN_inj _ _ _ hx hy (prod_right _ h3 _ tx _ ty (prod_left _ h1 _ (prod_lt _ tx _ h3) _ (prod_lt _ ty _ h3) (px.trans py.symm)))

/-- A byte at a place that a text may have there. -/
def chOk (x : Bool) (j c : Nat) : Prop := (48 ≤ c ∧ c ≤ 57) ∨ (x = true ∧ c = 88 ∧ j = 0)
instance (x : Bool) (j c : Nat) : Decidable (chOk x j c) := by unfold chOk; exact inferInstance
def chVal (c : Nat) : Nat := if c = 88 then 10 else c - 48
/-- All bytes of a text are characters of it. -/
def txOk (x : Bool) (t : List Nat) : Prop := ∀ j c, t.reverse[j]? = some c → chOk x j c
def vals (t : List Nat) : List Nat := t.reverse.map chVal
theorem chVal_lt {x : Bool} {j c : Nat} (h : chOk x j c) : chVal c < 11 ∧ (x = false → chVal c < 10) := by
  unfold chOk at h; unfold chVal
  rcases h with h | ⟨h, rfl, _⟩
  · rw [if_neg (by omega)]; omega
  · rw [if_pos rfl]; exact ⟨by omega, fun e => by rw [e] at h; cases h⟩
end Go.Proofs.YtnmnfbibjghjhaaDoor.Dig
