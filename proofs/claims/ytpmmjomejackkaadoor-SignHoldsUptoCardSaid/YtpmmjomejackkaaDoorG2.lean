/- What the later texts stand on (Pts, Comp): plain laws and walks, each by its own conditions. -/
import Derived.Test.YtpmmjomejackkaaDoorG1
set_option linter.unusedSimpArgs false
set_option linter.unusedVariables false
section
namespace Go.Phx

/-- a multiple by its number's bits, the highest first -/
noncomputable def timesBits (p : E) (l : List Bool) : E := l.foldl (fun o b => if b then addE (addE o o) p else addE o o) none
theorem timesBits_snoc (p : E) (l : List Bool) (b : Bool) : timesBits p (l ++ [b]) = if b then addE (addE (timesBits p l) (timesBits p l)) p else addE (timesBits p l) (timesBits p l) := by simp [timesBits]
/-- the first k bits of 64, from the highest that is set on -/
def bitsTop (x : Int) : Nat → List Bool
  | 0 => []
  | k + 1 => if 0 < x / 2 ^ (63 - k) then bitsTop x k ++ [bitAt x (63 - k)] else bitsTop x k
theorem bitsTop_set (x : Int) (k : Nat) (h : 0 < x / 2 ^ (63 - k)) : bitsTop x (k + 1) = bitsTop x k ++ [bitAt x (63 - k)] := by
  rw [bitsTop, if_pos h]
theorem bitsTop_unset (x : Int) (k : Nat) (h : ¬ 0 < x / 2 ^ (63 - k)) : bitsTop x (k + 1) = bitsTop x k := by
  rw [bitsTop, if_neg h]
theorem bitsTop_length (x : Int) (k : Nat) : (bitsTop x k).length ≤ k := by
  induction k with
  | zero => exact Nat.le_refl _
  | succ k ih =>
    by_cases h : 0 < x / 2 ^ (63 - k)
    · rw [bitsTop_set x k h, List.length_append]
      exact Nat.succ_le_succ ih
    · rw [bitsTop_unset x k h]
      omega
theorem half_up (x : Int) (k : Nat) (hk : k < 64) (hx : 0 ≤ x) (h : ¬ 0 < x / 2 ^ (63 - k)) : ¬ 0 < x / 2 ^ (64 - k) := by
  have e2 : 64 - k = (63 - k) + 1 := by omega
  rw [e2, Int.pow_succ, ← Int.ediv_ediv_of_nonneg (Int.le_of_lt (Int.pow_pos (by decide)))]
  have h0 : 0 ≤ x / 2 ^ (63 - k) := Int.ediv_nonneg hx (Int.le_of_lt (Int.pow_pos (by decide)))
  generalize x / 2 ^ (63 - k) = y at *
  omega
theorem bitsTop_nil (x : Int) (hx : 0 ≤ x) (k : Nat) (hk : k ≤ 64) (h : ¬ 0 < x / 2 ^ (64 - k)) : bitsTop x k = [] := by
  induction k with
  | zero => rfl
  | succ k ih =>
    have h' : ¬ 0 < x / 2 ^ (63 - k) := by
      rw [show 63 - k = 64 - (k + 1) by omega]
      exact h
    rw [bitsTop_unset x k h']
    exact ih (by omega) (half_up x k (by omega) hx h')
theorem timesBits_top (p : E) (x : Int) (hx : 0 ≤ x) (k : Nat) (hk : k ≤ 64) : timesBits p (bitsTop x k) = timesBits p (bitsUp x k) := by
  induction k with
  | zero => rfl
  | succ k ih =>
    by_cases h : 0 < x / 2 ^ (63 - k)
    · rw [bitsTop_set x k h, bitsUp_succ, timesBits_snoc, timesBits_snoc, ih (by omega)]
    · have e : bitsTop x k = [] := bitsTop_nil x hx k (by omega) (half_up x k (by omega) hx h)
      have e0 : timesBits p (bitsUp x k) = none := by rw [← ih (by omega), e]; rfl
      have e1 : bitAt x (63 - k) = false := by
        have h0 : 0 ≤ x / 2 ^ (63 - k) := Int.ediv_nonneg hx (Int.le_of_lt (Int.pow_pos (by decide)))
        unfold bitAt
        rw [decide_eq_false_iff_not]
        omega
      rw [bitsTop_unset x k h, bitsUp_succ, timesBits_snoc, e0, e1, e]
      rfl

/-- n times a point -/
noncomputable def timesE (n : Int) (p : E) : E := timesBits p (bitsUp n 64)
theorem timesE_top (n : Int) (hn : 0 ≤ n) (p : E) : timesBits p (bitsTop n 64) = timesE n p := timesBits_top p n hn 64 (Nat.le_refl _)
theorem timesBits_up {p : E} (hp : onE p = true) (x : Int) (hx : 0 ≤ x) (hx2 : x ≤ 18446744073709551615) (k : Nat) (hk : k ≤ 64) : timesBits p (bitsUp x k) = smul (x / 2 ^ (64 - k)).toNat p := by
  induction k with
  | zero =>
    have : x / 2 ^ (64 - 0) = 0 := by
      rw [Int.ediv_eq_zero_of_lt hx]
      show x < 18446744073709551616
      omega
    rw [this, show (0 : Int).toNat = 0 from rfl, smul_zero]
    rfl
  | succ k ih =>
    have h0 : 0 ≤ x / 2 ^ (64 - k) := Int.ediv_nonneg hx (Int.le_of_lt (Int.pow_pos (by decide)))
    rw [bitsUp_succ, timesBits_snoc, ih (by omega), div_step x k (by omega)]
    unfold bitAt
    generalize x / 2 ^ (64 - k) = y at *
    generalize x / 2 ^ (63 - k) = z
    by_cases h : z % 2 = 1
    · have e : (y * 2 + z % 2).toNat = y.toNat + y.toNat + 1 := by omega
      rw [e, smul_succ, smul_add hp]
      simp [h]
    · have e : (y * 2 + z % 2).toNat = y.toNat + y.toNat := by omega
      rw [e, smul_add hp]
      simp [h]
theorem timesE_smul {p : E} (hp : onE p = true) (x : Int) (hx : 0 ≤ x) (hx2 : x ≤ 18446744073709551615) : timesE x p = smul x.toNat p := by
  have := timesBits_up hp x hx hx2 64 (Nat.le_refl _)
  unfold timesE
  rw [this]
  simp
theorem smul_one (p : E) : smul 1 p = p := by rw [show 1 = 0 + 1 from rfl, smul_succ, smul_zero]; rfl
theorem smul_two (p : E) : smul 2 p = addE p p := by rw [show 2 = 1 + 1 from rfl, smul_succ, smul_one]
/-- a point of the group -/
noncomputable def inG (p : E) : Bool := onE p && decide (timesE 536870717 p = none)
theorem inG_none : inG none = true := by
  have h : timesE 536870717 none = none := by rw [timesE_smul rfl _ (by decide) (by decide)]; exact smul_none _
  unfold inG
  rw [h]
  rfl

/-- a double, by its slope -/
theorem double_by (x y l a b : F) (hy : y ≠ 0) (hl : l * (2 * y) = 3 * (x * x) + 1) (ha : a = l * l - x - x) (hb : b = l * (x - a) - y) : addE (some (x, y)) (some (x, y)) = some (a, b) := by
  have hn : ¬ (x, y) = (x, -y) := fun h => neg_ne hy (Prod.mk.inj h).2
  have hs : slopeE (x, y) (x, y) = l := by
    unfold slopeE
    rw [if_pos rfl]
    show (3 * (x * x) + 1) * inv (2 * y) = l
    rw [← hl]
    have hi := mul_inv (mul_ne two_ne hy)
    generalize inv (2 * y) = i at hi
    grind -lia -linarith
  rw [addE_some, if_neg hn, hs]
  show some (l * l - x - x, l * (x - (l * l - x - x)) - y) = some (a, b)
  rw [hb, ha]

/-- the generator, its double, and what four times is the generator -/
noncomputable def genE : E := some (zf 1846166884, zf 1411018613)
theorem gen_on : onE genE = true := (onE_some _ _).2 (by decide +kernel)
theorem gen_order : timesE 536870717 genE = none := by
  rw [timesE_smul gen_on _ (by decide) (by decide)]
  have h1 : addE (some (zf 487068761, zf 1157049909)) (some (zf 487068761, zf 1157049909)) = some (zf 1908873664, zf 1020336989) :=
    double_by _ _ (zf 128920519) _ _ (by decide +kernel) (by decide +kernel) (by decide +kernel) (by decide +kernel)
  have h2 : addE (some (zf 1908873664, zf 1020336989)) (some (zf 1908873664, zf 1020336989)) = genE :=
    double_by _ _ (zf 1035560958) (zf 1846166884) (zf 1411018613) (by decide +kernel) (by decide +kernel) (by decide +kernel) (by decide +kernel)
  have ho : onE (some (zf 487068761, zf 1157049909)) = true := (onE_some _ _).2 (by decide +kernel)
  have h4 : smul 4 (some (zf 487068761, zf 1157049909)) = genE := by
    rw [show 4 = 2 + 2 from rfl, smul_add ho, smul_two, h1, h2]
  have := four_times ho
  rw [h4] at this
  exact this
theorem gen_in : inG genE = true := by
  unfold inG
  rw [gen_order, gen_on]
  rfl
theorem inG_on {p : E} (h : inG p = true) : onE p = true := by
  unfold inG at h
  rw [Bool.and_eq_true] at h
  exact h.1
theorem inG_times {p : E} (h : inG p = true) : smul 536870717 p = none := by
  have hp := inG_on h
  unfold inG at h
  rw [Bool.and_eq_true, decide_eq_true_eq, timesE_smul hp _ (by decide) (by decide)] at h
  exact h.2
theorem inG_mk {p : E} (hp : onE p = true) (h : smul 536870717 p = none) : inG p = true := by
  unfold inG
  rw [timesE_smul hp _ (by decide) (by decide), show (536870717 : Int).toNat = 536870717 from rfl, h, hp]
  rfl
theorem inG_add {p q : E} (hp : inG p = true) (hq : inG q = true) : inG (addE p q) = true := by
  refine inG_mk (addE_on (inG_on hp) (inG_on hq)) ?_
  rw [smul_sum (inG_on hp) (inG_on hq), inG_times hp, inG_times hq]
  rfl
theorem inG_smul {p : E} (hp : inG p = true) (n : Nat) : inG (smul n p) = true := by
  refine inG_mk (smul_on (inG_on hp) n) ?_
  rw [← smul_mul (inG_on hp), Nat.mul_comm, smul_mul (inG_on hp), inG_times hp, smul_none]
theorem inG_four {q : E} (hq : onE q = true) : inG (smul 4 q) = true := inG_mk (smul_on hq 4) (four_times hq)
end Go.Phx
end
section
namespace Go.Phx

/-- the bits of P - 2, the highest first -/
def invBits : List Bool := bitsUp 2147482865 64
def invC (a : F) : F := powBits a invBits
theorem invC_eq (a : F) : invC a = inv a := powBits_all a 2147482865 (by decide) (by decide)
def slopeC (p q : F × F) : F := if p = q then (3 * (p.1 * p.1) + 1) * invC (2 * p.2) else (q.2 - p.2) * invC (q.1 - p.1)
theorem slopeC_eq (p q : F × F) : slopeC p q = slopeE p q := by unfold slopeC slopeE; rw [invC_eq, invC_eq]
def addC : E → E → E
  | none, q => q
  | some p, none => some p
  | some p, some q => if q = (p.1, -p.2) then none else
    let l := slopeC p q
    let x := l * l - p.1 - q.1
    some (x, l * (p.1 - x) - p.2)
theorem addC_eq (p q : E) : addC p q = addE p q := by
  rcases p with _ | p
  · rfl
  · rcases q with _ | q
    · rfl
    · rw [addE_some]
      show (if q = (p.1, -p.2) then none else _) = _
      rw [slopeC_eq]
def timesC (n : Int) (p : E) : E := (bitsUp n 64).foldl (fun o b => if b then addC (addC o o) p else addC o o) none
theorem timesC_eq (n : Int) (p : E) : timesC n p = timesE n p := by
  unfold timesC timesE timesBits
  suffices h : ∀ (l : List Bool) (o : E), l.foldl (fun o b => if b then addC (addC o o) p else addC o o) o = l.foldl (fun o b => if b then addE (addE o o) p else addE o o) o from h _ _
  intro l
  induction l with
  | nil => exact fun _ => rfl
  | cons b l ih => intro o; rw [List.foldl_cons, List.foldl_cons, addC_eq, addC_eq, ih]
def genC : E := some (zf 1846166884, zf 1411018613)
theorem genC_eq : genC = genE := rfl
end Go.Phx
end
