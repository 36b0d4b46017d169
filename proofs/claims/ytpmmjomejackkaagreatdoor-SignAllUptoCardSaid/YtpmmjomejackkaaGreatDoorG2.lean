/- What the later texts stand on (Lag, Pts, Comp): plain laws and walks, each by its own conditions. -/
import Derived.Test.YtpmmjomejackkaaGreatDoorG1
section
namespace Go.Phx

theorem toD_add {p q : E} (hp : onE p = true) (hq : onE q = true) : toD (addE p q) = addD (toD p) (toD q) := by
  rcases p with _ | ⟨u1, v1⟩
  · exact (addD_zero_l _).symm
  rcases q with _ | ⟨u2, v2⟩
  · exact (addD_zero_r _).symm
  have h1 := (onE_some _ _).1 hp
  have h2 := (onE_some _ _).1 hq
  by_cases hn : (u2, v2) = (u1, -v1)
  · rw [addE_some, if_pos hn]
    simp only [Prod.mk.injEq] at hn
    obtain ⟨rfl, rfl⟩ := hn
    have ht : toD (some (u2, -v1)) = (-(toD (some (u2, v1))).1, (toD (some (u2, v1))).2) := toD_neg (some (u2, v1))
    rw [ht]
    have ho := toD_on hp
    generalize toD (some (u2, v1)) = z at ho ⊢
    obtain ⟨X, Y⟩ := z
    exact (addD_neg ho).symm
  · exact toD_add_aff h1 h2 hn

theorem addE_comm {p q : E} (hp : onE p = true) (hq : onE q = true) : addE p q = addE q p :=
  toD_inj (addE_on hp hq) (addE_on hq hp) (by rw [toD_add hp hq, toD_add hq hp, addD_comm])
theorem addE_assoc {p q s : E} (hp : onE p = true) (hq : onE q = true) (hs : onE s = true) : addE (addE p q) s = addE p (addE q s) :=
  toD_inj (addE_on (addE_on hp hq) hs) (addE_on hp (addE_on hq hs)) (by
    rw [toD_add (addE_on hp hq) hs, toD_add hp hq, toD_add hp (addE_on hq hs), toD_add hq hs, addD_assoc (toD_on hp) (toD_on hq) (toD_on hs)])
theorem addE_none_l (q : E) : addE none q = q := rfl
theorem addE_none_r (q : E) : addE q none = q := by cases q <;> rfl
theorem addE_neg (p : E) : addE p (negE p) = none := by
  rcases p with _ | ⟨u, v⟩
  · rfl
  · show addE (some (u, v)) (some (u, -v)) = none
    rw [addE_some, if_pos rfl]

/-! ### multiples -/
noncomputable def smulR : Nat → E → E
  | 0, _ => none
  | n + 1, p => addE (smulR n p) p
noncomputable def smul (n : Nat) (p : E) : E := Classical.choose (⟨smulR n p, rfl⟩ : ∃ x : E, x = smulR n p)
theorem smul_eq (n : Nat) (p : E) : smul n p = smulR n p := Classical.choose_spec (⟨smulR n p, rfl⟩ : ∃ x : E, x = smulR n p)
theorem smul_zero (p : E) : smul 0 p = none := by rw [smul_eq]; rfl
theorem smul_succ (n : Nat) (p : E) : smul (n + 1) p = addE (smul n p) p := by rw [smul_eq, smul_eq]; rfl
theorem smul_on {p : E} (hp : onE p = true) (n : Nat) : onE (smul n p) = true := by
  induction n with
  | zero => rw [smul_zero]; rfl
  | succ n ih => rw [smul_succ]; exact addE_on ih hp
theorem smul_add {p : E} (hp : onE p = true) (n m : Nat) : smul (n + m) p = addE (smul n p) (smul m p) := by
  induction m with
  | zero => rw [Nat.add_zero, smul_zero, addE_none_r]
  | succ m ih => rw [← Nat.add_assoc, smul_succ, smul_succ, ih, addE_assoc (smul_on hp n) (smul_on hp m) hp]
theorem smul_mul {p : E} (hp : onE p = true) (n m : Nat) : smul (n * m) p = smul n (smul m p) := by
  induction n with
  | zero => rw [Nat.zero_mul, smul_zero, smul_zero]
  | succ n ih => rw [Nat.succ_mul, smul_add hp, ih, smul_succ]
theorem smul_none (n : Nat) : smul n none = none := by
  induction n with
  | zero => exact smul_zero _
  | succ n ih => rw [smul_succ, ih]; rfl
theorem smul_sum {p q : E} (hp : onE p = true) (hq : onE q = true) (n : Nat) : smul n (addE p q) = addE (smul n p) (smul n q) := by
  induction n with
  | zero => rw [smul_zero, smul_zero, smul_zero]; rfl
  | succ n ih =>
    have h1 := smul_on hp n
    have h2 := smul_on hq n
    rw [smul_succ, smul_succ, smul_succ, ih, addE_assoc h1 h2 (addE_on hp hq), ← addE_assoc h2 hp hq, addE_comm h2 hp, addE_assoc hp h2 hq, ← addE_assoc h1 hp (addE_on h2 hq)]

/-! ### how many points there are -/
/-- the roots of a number -/
@[irreducible] def rootsOf (a : F) : List F := (List.finRange P).filter fun v => decide (v * v = a)
theorem mem_rootsOf (a v : F) : v ∈ rootsOf a ↔ v * v = a := by unfold rootsOf; simp only [List.mem_filter, List.mem_finRange, true_and, decide_eq_true_eq]
theorem rootsOf_nodup (a : F) : (rootsOf a).Nodup := by unfold rootsOf; exact List.Pairwise.filter _ (List.nodup_finRange P)
theorem rootsOf_len {a : F} {l : List F} (hl : l.Nodup) (h : ∀ v, v ∈ l ↔ v * v = a) : (rootsOf a).length = l.length :=
  ((List.perm_ext_iff_of_nodup (rootsOf_nodup a) hl).2 fun v => by rw [mem_rootsOf, h]).length_eq
theorem roots_zero : (rootsOf 0).length = 1 :=
  rootsOf_len (l := [0]) (List.nodup_cons.2 ⟨List.not_mem_nil, List.nodup_nil⟩) fun v => by
    rw [List.mem_singleton]
    constructor
    · rintro rfl; decide
    · intro h; rcases mul_zero_or h with h | h <;> exact h
theorem neg_ne {y : F} (hy : y ≠ 0) : y ≠ -y := by
  intro h
  have : 2 * y = 0 := by grind -lia -linarith
  rcases mul_zero_or this with h | h
  · exact two_ne h
  · exact hy h
theorem roots_sq {y : F} (hy : y ≠ 0) : (rootsOf (y * y)).length = 2 :=
  rootsOf_len (l := [y, -y]) (List.nodup_cons.2 ⟨by rw [List.mem_singleton]; exact neg_ne hy, List.nodup_cons.2 ⟨List.not_mem_nil, List.nodup_nil⟩⟩) fun v => by
    rw [List.mem_cons, List.mem_singleton]
    constructor
    · rintro (rfl | rfl)
      · rfl
      · grind -lia -linarith
    · exact sq_eq
theorem roots_neg_sq {y : F} (hy : y ≠ 0) : (rootsOf (-(y * y))).length = 0 :=
  rootsOf_len (l := []) List.nodup_nil fun v => by
    constructor
    · intro h; exact absurd h List.not_mem_nil
    · intro h; exact absurd (no_neg_sq h) hy
theorem roots_pair (a : F) : (rootsOf a).length + (rootsOf (-a)).length = 2 := by
  by_cases ha : a = 0
  · subst ha
    rw [show (-0 : F) = 0 by decide, roots_zero]
  · rcases sq_or a with h | h
    · have hy : pw a 536870717 ≠ 0 := by intro h0; rw [h0] at h; exact ha (by rw [← h]; decide)
      generalize pw a 536870717 = y at h hy
      subst h
      rw [roots_sq hy, roots_neg_sq hy]
    · have hy : pw a 536870717 ≠ 0 := by intro h0; rw [h0] at h; exact ha (by grind -lia -linarith)
      generalize pw a 536870717 = y at h hy
      have e : a = -(y * y) := by grind -lia -linarith
      subst e
      rw [roots_neg_sq hy, show -(-(y * y)) = y * y by grind -lia -linarith, roots_sq hy]

def sumN (l : List Nat) : Nat := l.foldr (· + ·) 0
theorem sumN_perm {l m : List Nat} (h : l.Perm m) : sumN l = sumN m := h.foldr_eq' (fun x _ y _ z => by omega) 0
theorem sumN_pair {α : Type} (f g : α → Nat) (l : List α) (h : ∀ x ∈ l, f x + g x = 2) : sumN (l.map f) + sumN (l.map g) = 2 * l.length := by
  induction l with
  | nil => rfl
  | cons a l ih =>
    have h1 := h a (by simp)
    have h2 := ih fun x hx => h x (by simp [hx])
    simp only [sumN, List.map_cons, List.foldr_cons, List.length_cons] at h2 ⊢
    omega
def cubic (u : F) : F := u * u * u + u
theorem cubic_neg (u : F) : cubic (-u) = -cubic u := by unfold cubic; grind -lia -linarith
@[irreducible] def allF : List F := List.finRange P
theorem allF_len : allF.length = P := by unfold allF; exact List.length_finRange
theorem allF_nodup : allF.Nodup := by unfold allF; exact List.nodup_finRange P
theorem mem_allF (a : F) : a ∈ allF := by unfold allF; exact List.mem_finRange a
theorem roots_sum : sumN (allF.map fun u => (rootsOf (cubic u)).length) = P := by
  have h := sumN_pair (fun u => (rootsOf (cubic u)).length) (fun u => (rootsOf (cubic (-u))).length) allF fun u _ => by rw [cubic_neg]; exact roots_pair _
  have hp : (allF.map fun u => -u).Perm allF := perm_shift (g := fun u => -u) allF_nodup (fun u _ => mem_allF _) (fun u _ => mem_allF _) (fun u _ => by grind -lia -linarith) (fun u _ => by grind -lia -linarith)
  have h2 : sumN (allF.map fun u => (rootsOf (cubic (-u))).length) = sumN (allF.map fun u => (rootsOf (cubic u)).length) := by
    have := (hp.map fun u => (rootsOf (cubic u)).length)
    rw [List.map_map] at this
    exact sumN_perm this
  rw [h2, allF_len] at h
  generalize sumN (allF.map fun u => (rootsOf (cubic u)).length) = n at h
  omega

/-- all points -/
def fiber (u : F) : List E := (rootsOf (cubic u)).map fun v => some (u, v)
@[irreducible] def points : List E := none :: allF.flatMap fiber
theorem mem_points (p : E) : p ∈ points ↔ onE p = true := by
  unfold points
  rcases p with _ | ⟨u, v⟩
  · simp [onE]
  · rw [onE_some]
    simp only [List.mem_cons, List.mem_flatMap, fiber, List.mem_map, mem_rootsOf]
    constructor
    · rintro (h | ⟨u', _, v', hv, he⟩)
      · cases h
      · cases he; exact hv
    · intro h
      exact .inr ⟨u, mem_allF u, v, h, rfl⟩
theorem len_flatMap {α β : Type} (f : α → List β) (l : List α) : (l.flatMap f).length = sumN (l.map fun a => (f a).length) := by
  induction l with
  | nil => rfl
  | cons a l ih => rw [List.flatMap_cons, List.length_append, ih]; rfl
theorem flat_len : (allF.flatMap fiber).length = P := by
  rw [len_flatMap]
  refine Eq.trans (congrArg sumN (List.map_congr_left fun u _ => ?_)) roots_sum
  exact List.length_map _
theorem points_len' : points.length = P + 1 := by
  unfold points
  rw [List.length_cons, flat_len]
theorem points_len : points.length = 2147482868 := points_len'
theorem nodup_flat {β : Type} (f : F → List β) (g : β → F) (hg : ∀ u, ∀ b ∈ f u, g b = u) (hf : ∀ u, (f u).Nodup) : ∀ (l : List F), l.Nodup → (l.flatMap f).Nodup
  | [], _ => List.nodup_nil
  | u :: l, hl => by
    rw [List.nodup_cons] at hl
    rw [List.flatMap_cons]
    refine List.nodup_append.2 ⟨hf u, nodup_flat f g hg hf l hl.2, ?_⟩
    intro a ha b hb e
    subst e
    obtain ⟨u', hu', hb'⟩ := List.mem_flatMap.1 hb
    have h1 := hg u a ha
    have h2 := hg u' a hb'
    rw [h1] at h2
    subst h2
    exact hl.1 hu'
theorem points_nodup : points.Nodup := by
  unfold points
  refine List.nodup_cons.2 ⟨?_, ?_⟩
  · intro h
    obtain ⟨u, _, hu⟩ := List.mem_flatMap.1 h
    obtain ⟨v, _, hv⟩ := List.mem_map.1 hu
    cases hv
  · refine nodup_flat _ (fun p : E => match p with | some (u, _) => u | none => 0) ?_ ?_ _ allF_nodup
    · intro u b hb
      obtain ⟨v, _, rfl⟩ := List.mem_map.1 hb
      rfl
    · intro u
      unfold List.Nodup fiber
      rw [List.pairwise_map]
      exact List.Pairwise.imp (fun h e => h (by cases e; rfl)) (rootsOf_nodup _)

/-! ### each point, so many times as there are points, is none -/
noncomputable def sumE (l : List E) : E := l.foldr addE none
theorem sumE_on (l : List E) (h : ∀ p ∈ l, onE p = true) : onE (sumE l) = true := by
  induction l with
  | nil => rfl
  | cons a l ih => exact addE_on (h a (by simp)) (ih fun p hp => h p (by simp [hp]))
theorem sumE_perm {l m : List E} (h : l.Perm m) (hl : ∀ p ∈ l, onE p = true) : sumE l = sumE m := by
  induction h with
  | nil => rfl
  | cons a h ih => show addE a _ = addE a _; rw [show List.foldr addE none _ = sumE _ from rfl, ih fun p hp => hl p (by simp [hp])]; rfl
  | swap a b l =>
    have h1 := hl a (by simp)
    have h2 := hl b (by simp)
    have h3 := sumE_on l fun p hp => hl p (by simp [hp])
    show addE b (addE a (sumE l)) = addE a (addE b (sumE l))
    rw [← addE_assoc h2 h1 h3, addE_comm h2 h1, addE_assoc h1 h2 h3]
  | trans h1 h2 ih1 ih2 => rw [ih1 hl, ih2 fun p hp => hl p (h1.mem_iff.2 hp)]
theorem sumE_shift {q : E} (hq : onE q = true) (l : List E) (hl : ∀ p ∈ l, onE p = true) : sumE (l.map fun p => addE p q) = addE (sumE l) (smul l.length q) := by
  induction l with
  | nil => rw [List.length_nil, smul_zero]; rfl
  | cons a l ih =>
    have h1 := hl a (by simp)
    have h2 := sumE_on l fun p hp => hl p (by simp [hp])
    have h3 := smul_on hq l.length
    rw [List.length_cons, smul_succ]
    show addE (addE a q) (sumE (l.map fun p => addE p q)) = addE (addE a (sumE l)) (addE (smul l.length q) q)
    rw [ih fun p hp => hl p (by simp [hp]), addE_assoc h1 hq (addE_on h2 h3), ← addE_assoc hq h2 h3, addE_comm hq h2, addE_assoc h2 hq h3, addE_comm hq h3, addE_assoc h1 h2 (addE_on h3 hq)]

theorem smul_len {q : E} (hq : onE q = true) : smul points.length q = none := by
  have hon : ∀ p ∈ points, onE p = true := fun p hp => (mem_points p).1 hp
  have hnq := negE_on hq
  have hp : (points.map fun p => addE p q).Perm points := perm_shift (g := fun p => addE p (negE q)) points_nodup
    (fun p hp => (mem_points _).2 (addE_on (hon p hp) hq)) (fun p hp => (mem_points _).2 (addE_on (hon p hp) hnq))
    (fun p hp => by rw [addE_assoc (hon p hp) hq hnq, addE_neg, addE_none_r])
    (fun p hp => by rw [addE_assoc (hon p hp) hnq hq, addE_comm hnq hq, addE_neg, addE_none_r])
  have h1 := sumE_shift hq points hon
  have h0 := sumE_perm hp (fun p hp => by obtain ⟨p', hp', rfl⟩ := List.mem_map.1 hp; exact addE_on (hon p' hp') hq)
  rw [h0] at h1
  have hs := sumE_on points hon
  have hm := smul_on hq points.length
  clear h0
  generalize sumE points = s at h1 hs
  generalize smul points.length q = m at h1 hm ⊢
  have h2 : addE (negE s) s = addE (negE s) (addE s m) := by rw [← h1]
  rw [← addE_assoc (negE_on hs) hs hm, addE_comm (negE_on hs) hs, addE_neg, addE_none_l] at h2
  exact h2.symm
theorem smul_all {q : E} (hq : onE q = true) : smul 2147482868 q = none := by
  have h := smul_len hq
  rw [points_len] at h
  exact h

/-- four times a point is of the group -/
theorem four_times {q : E} (hq : onE q = true) : smul 536870717 (smul 4 q) = none := by
  rw [← smul_mul hq, show 536870717 * 4 = 2147482868 from rfl]
  exact smul_all hq
end Go.Phx
end
section
namespace Go.Phx

/-- a multiple by its number's bits, the highest first -/
noncomputable def timesBits (p : E) (l : List Bool) : E := l.foldl (fun o b => if b then addE (addE o o) p else addE o o) none
theorem timesBits_snoc (p : E) (l : List Bool) (b : Bool) : timesBits p (l ++ [b]) = if b then addE (addE (timesBits p l) (timesBits p l)) p else addE (timesBits p l) (timesBits p l) := by simp [timesBits]
/-- the first k bits of 64, from the highest that is set on -/
def bitsTop (x : Int) : Nat → List Bool
  | 0 => []
  | k + 1 => if 0 < x / 2 ^ (63 - k) then bitsTop x k ++ [bitAt x (63 - k)] else bitsTop x k
theorem bitsTop_set (x : Int) (k : Nat) (h : 0 < x / 2 ^ (63 - k)) : bitsTop x (k + 1) = bitsTop x k ++ [bitAt x (63 - k)] := by
  rw [bitsTop, if_pos h]
theorem bitsTop_unset (x : Int) (k : Nat) (h : ¬ 0 < x / 2 ^ (63 - k)) : bitsTop x (k + 1) = bitsTop x k := by
  rw [bitsTop, if_neg h]
theorem bitsTop_length (x : Int) (k : Nat) : (bitsTop x k).length ≤ k := by
  induction k with
  | zero => exact Nat.le_refl _
  | succ k ih =>
    by_cases h : 0 < x / 2 ^ (63 - k)
    · rw [bitsTop_set x k h, List.length_append]
      exact Nat.succ_le_succ ih
    · rw [bitsTop_unset x k h]
      omega
theorem half_up (x : Int) (k : Nat) (hk : k < 64) (hx : 0 ≤ x) (h : ¬ 0 < x / 2 ^ (63 - k)) : ¬ 0 < x / 2 ^ (64 - k) := by
  have e2 : 64 - k = (63 - k) + 1 := by omega
  rw [e2, Int.pow_succ, ← Int.ediv_ediv_of_nonneg (Int.le_of_lt (Int.pow_pos (by decide)))]
  have h0 : 0 ≤ x / 2 ^ (63 - k) := Int.ediv_nonneg hx (Int.le_of_lt (Int.pow_pos (by decide)))
  generalize x / 2 ^ (63 - k) = y at *
  omega
theorem bitsTop_nil (x : Int) (hx : 0 ≤ x) (k : Nat) (hk : k ≤ 64) (h : ¬ 0 < x / 2 ^ (64 - k)) : bitsTop x k = [] := by
  induction k with
  | zero => rfl
  | succ k ih =>
    have h' : ¬ 0 < x / 2 ^ (63 - k) := by
      rw [show 63 - k = 64 - (k + 1) by omega]
      exact h
    rw [bitsTop_unset x k h']
    exact ih (by omega) (half_up x k (by omega) hx h')
theorem timesBits_top (p : E) (x : Int) (hx : 0 ≤ x) (k : Nat) (hk : k ≤ 64) : timesBits p (bitsTop x k) = timesBits p (bitsUp x k) := by
  induction k with
  | zero => rfl
  | succ k ih =>
    by_cases h : 0 < x / 2 ^ (63 - k)
    · rw [bitsTop_set x k h, bitsUp_succ, timesBits_snoc, timesBits_snoc, ih (by omega)]
    · have e : bitsTop x k = [] := bitsTop_nil x hx k (by omega) (half_up x k (by omega) hx h)
      have e0 : timesBits p (bitsUp x k) = none := by rw [← ih (by omega), e]; rfl
      have e1 : bitAt x (63 - k) = false := by
        have h0 : 0 ≤ x / 2 ^ (63 - k) := Int.ediv_nonneg hx (Int.le_of_lt (Int.pow_pos (by decide)))
        unfold bitAt
        rw [decide_eq_false_iff_not]
        omega
      rw [bitsTop_unset x k h, bitsUp_succ, timesBits_snoc, e0, e1, e]
      rfl

/-- n times a point -/
noncomputable def timesE (n : Int) (p : E) : E := timesBits p (bitsUp n 64)
theorem timesE_top (n : Int) (hn : 0 ≤ n) (p : E) : timesBits p (bitsTop n 64) = timesE n p := timesBits_top p n hn 64 (Nat.le_refl _)
theorem timesBits_up {p : E} (hp : onE p = true) (x : Int) (hx : 0 ≤ x) (hx2 : x ≤ 18446744073709551615) (k : Nat) (hk : k ≤ 64) : timesBits p (bitsUp x k) = smul (x / 2 ^ (64 - k)).toNat p := by
  induction k with
  | zero =>
    have : x / 2 ^ (64 - 0) = 0 := by
      rw [Int.ediv_eq_zero_of_lt hx]
      show x < 18446744073709551616
      omega
    rw [this, show (0 : Int).toNat = 0 from rfl, smul_zero]
    rfl
  | succ k ih =>
    have h0 : 0 ≤ x / 2 ^ (64 - k) := Int.ediv_nonneg hx (Int.le_of_lt (Int.pow_pos (by decide)))
    rw [bitsUp_succ, timesBits_snoc, ih (by omega), div_step x k (by omega)]
    unfold bitAt
    generalize x / 2 ^ (64 - k) = y at *
    generalize x / 2 ^ (63 - k) = z
    by_cases h : z % 2 = 1
    · have e : (y * 2 + z % 2).toNat = y.toNat + y.toNat + 1 := by omega
      rw [e, smul_succ, smul_add hp]
      simp [h]
    · have e : (y * 2 + z % 2).toNat = y.toNat + y.toNat := by omega
      rw [e, smul_add hp]
      simp [h]
theorem timesE_smul {p : E} (hp : onE p = true) (x : Int) (hx : 0 ≤ x) (hx2 : x ≤ 18446744073709551615) : timesE x p = smul x.toNat p := by
  have := timesBits_up hp x hx hx2 64 (Nat.le_refl _)
  unfold timesE
  rw [this]
  simp
theorem smul_one (p : E) : smul 1 p = p := by rw [show 1 = 0 + 1 from rfl, smul_succ, smul_zero]; rfl
theorem smul_two (p : E) : smul 2 p = addE p p := by rw [show 2 = 1 + 1 from rfl, smul_succ, smul_one]
/-- a point of the group -/
noncomputable def inG (p : E) : Bool := onE p && decide (timesE 536870717 p = none)
theorem inG_none : inG none = true := by
  have h : timesE 536870717 none = none := by rw [timesE_smul rfl _ (by decide) (by decide)]; exact smul_none _
  unfold inG
  rw [h]
  rfl

/-- a double, by its slope -/
theorem double_by (x y l a b : F) (hy : y ≠ 0) (hl : l * (2 * y) = 3 * (x * x) + 1) (ha : a = l * l - x - x) (hb : b = l * (x - a) - y) : addE (some (x, y)) (some (x, y)) = some (a, b) := by
  have hn : ¬ (x, y) = (x, -y) := fun h => neg_ne hy (Prod.mk.inj h).2
  have hs : slopeE (x, y) (x, y) = l := by
    unfold slopeE
    rw [if_pos rfl]
    show (3 * (x * x) + 1) * inv (2 * y) = l
    rw [← hl]
    have hi := mul_inv (mul_ne two_ne hy)
    generalize inv (2 * y) = i at hi
    grind -lia -linarith
  rw [addE_some, if_neg hn, hs]
  show some (l * l - x - x, l * (x - (l * l - x - x)) - y) = some (a, b)
  rw [hb, ha]

/-- the generator, its double, and what four times is the generator -/
noncomputable def genE : E := some (zf 1846166884, zf 1411018613)
theorem gen_on : onE genE = true := (onE_some _ _).2 (by decide +kernel)
theorem gen_order : timesE 536870717 genE = none := by
  rw [timesE_smul gen_on _ (by decide) (by decide)]
  have h1 : addE (some (zf 487068761, zf 1157049909)) (some (zf 487068761, zf 1157049909)) = some (zf 1908873664, zf 1020336989) :=
    double_by _ _ (zf 128920519) _ _ (by decide +kernel) (by decide +kernel) (by decide +kernel) (by decide +kernel)
  have h2 : addE (some (zf 1908873664, zf 1020336989)) (some (zf 1908873664, zf 1020336989)) = genE :=
    double_by _ _ (zf 1035560958) (zf 1846166884) (zf 1411018613) (by decide +kernel) (by decide +kernel) (by decide +kernel) (by decide +kernel)
  have ho : onE (some (zf 487068761, zf 1157049909)) = true := (onE_some _ _).2 (by decide +kernel)
  have h4 : smul 4 (some (zf 487068761, zf 1157049909)) = genE := by
    rw [show 4 = 2 + 2 from rfl, smul_add ho, smul_two, h1, h2]
  have := four_times ho
  rw [h4] at this
  exact this
theorem gen_in : inG genE = true := by
  unfold inG
  rw [gen_order, gen_on]
  rfl
theorem inG_on {p : E} (h : inG p = true) : onE p = true := by
  unfold inG at h
  rw [Bool.and_eq_true] at h
  exact h.1
theorem inG_times {p : E} (h : inG p = true) : smul 536870717 p = none := by
  have hp := inG_on h
  unfold inG at h
  rw [Bool.and_eq_true, decide_eq_true_eq, timesE_smul hp _ (by decide) (by decide)] at h
  exact h.2
theorem inG_mk {p : E} (hp : onE p = true) (h : smul 536870717 p = none) : inG p = true := by
  unfold inG
  rw [timesE_smul hp _ (by decide) (by decide), show (536870717 : Int).toNat = 536870717 from rfl, h, hp]
  rfl
theorem inG_add {p q : E} (hp : inG p = true) (hq : inG q = true) : inG (addE p q) = true := by
  refine inG_mk (addE_on (inG_on hp) (inG_on hq)) ?_
  rw [smul_sum (inG_on hp) (inG_on hq), inG_times hp, inG_times hq]
  rfl
theorem inG_smul {p : E} (hp : inG p = true) (n : Nat) : inG (smul n p) = true := by
  refine inG_mk (smul_on (inG_on hp) n) ?_
  rw [← smul_mul (inG_on hp), Nat.mul_comm, smul_mul (inG_on hp), inG_times hp, smul_none]
theorem inG_four {q : E} (hq : onE q = true) : inG (smul 4 q) = true := inG_mk (smul_on hq 4) (four_times hq)
end Go.Phx
end
section
namespace Go.Phx

/-- the bits of P - 2, the highest first -/
def invBits : List Bool := bitsUp 2147482865 64
def invC (a : F) : F := powBits a invBits
theorem invC_eq (a : F) : invC a = inv a := powBits_all a 2147482865 (by decide) (by decide)
def slopeC (p q : F × F) : F := if p = q then (3 * (p.1 * p.1) + 1) * invC (2 * p.2) else (q.2 - p.2) * invC (q.1 - p.1)
theorem slopeC_eq (p q : F × F) : slopeC p q = slopeE p q := by unfold slopeC slopeE; rw [invC_eq, invC_eq]
def addC : E → E → E
  | none, q => q
  | some p, none => some p
  | some p, some q => if q = (p.1, -p.2) then none else
    let l := slopeC p q
    let x := l * l - p.1 - q.1
    some (x, l * (p.1 - x) - p.2)
theorem addC_eq (p q : E) : addC p q = addE p q := by
  rcases p with _ | p
  · rfl
  · rcases q with _ | q
    · rfl
    · rw [addE_some]
      show (if q = (p.1, -p.2) then none else _) = _
      rw [slopeC_eq]
def timesC (n : Int) (p : E) : E := (bitsUp n 64).foldl (fun o b => if b then addC (addC o o) p else addC o o) none
theorem timesC_eq (n : Int) (p : E) : timesC n p = timesE n p := by
  unfold timesC timesE timesBits
  suffices h : ∀ (l : List Bool) (o : E), l.foldl (fun o b => if b then addC (addC o o) p else addC o o) o = l.foldl (fun o b => if b then addE (addE o o) p else addE o o) o from h _ _
  intro l
  induction l with
  | nil => exact fun _ => rfl
  | cons b l ih => intro o; rw [List.foldl_cons, List.foldl_cons, addC_eq, addC_eq, ih]
def genC : E := some (zf 1846166884, zf 1411018613)
theorem genC_eq : genC = genE := rfl
end Go.Phx
end
