/- The field of 2147482867 numbers: it has no divisors of nought, each number that is not nought has an inverse (its power to the P - 2), and a square's root is its power to the (P + 1) / 4. Plain arithmetic: no program in sight. No conditions. -/
namespace Go.Phx

abbrev P : Nat := 2147482867
instance : NeZero P := ⟨by decide⟩
abbrev F := Fin P

/-- no number from lo to lo + n divides P -/
def noDiv (lo : Nat) : Nat → Bool
  | 0 => true
  | n + 1 => (P % (lo + n) != 0) && noDiv lo n
/-- none of 217 * 217 numbers from 2 on -/
def noDivs : Nat → Bool
  | 0 => true
  | n + 1 => noDiv (2 + 217 * n) 217 && noDivs n

theorem noDiv_out : ∀ (n lo d : Nat), noDiv lo n = true → lo ≤ d → d < lo + n → P % d ≠ 0
  | 0, lo, d, _, h1, h2 => by omega
  | n + 1, lo, d, h, h1, h2 => by
    simp only [noDiv, Bool.and_eq_true, bne_iff_ne] at h
    by_cases e : d = lo + n
    · rw [e]; exact h.1
    · exact noDiv_out n lo d h.2 h1 (by omega)

theorem noDivs_out : ∀ (n d : Nat), noDivs n = true → 2 ≤ d → d < 2 + 217 * n → P % d ≠ 0
  | 0, d, _, h1, h2 => by omega
  | n + 1, d, h, h1, h2 => by
    simp only [noDivs, Bool.and_eq_true] at h
    by_cases e : d < 2 + 217 * n
    · exact noDivs_out n d h.2 h1 e
    · exact noDiv_out 217 (2 + 217 * n) d h.1 (by omega) (by omega)

theorem noDivs_P : noDivs 217 = true := by decide +kernel

theorem P_prime (d : Nat) (h : d ∣ P) (h1 : d ≠ 1) : d = P := by
  obtain ⟨e, he⟩ := h
  have hd0 : d ≠ 0 := by intro h0; subst h0; simp at he
  by_cases hd : d < 47091
  · exact absurd (by rw [he]; exact Nat.mul_mod_right d e) (noDivs_out 217 d noDivs_P (by omega) (by omega))
  · by_cases he1 : e = 1
    · subst he1; omega
    · have he0 : e ≠ 0 := by intro h0; subst h0; simp at he
      by_cases hee : e < 47091
      · exact absurd (by rw [he]; exact Nat.mul_mod_left d e) (noDivs_out 217 e noDivs_P (by omega) (by omega))
      · have : 47091 * 47091 ≤ d * e := Nat.mul_le_mul (by omega) (by omega)
        rw [← he] at this
        simp [P] at this

theorem P_coprime (a : Nat) (h0 : 0 < a) (h : a < P) : Nat.Coprime P a := by
  show Nat.gcd P a = 1
  by_cases h1 : Nat.gcd P a = 1
  · exact h1
  · have := P_prime _ (Nat.gcd_dvd_left P a) h1
    have h2 := Nat.le_of_dvd h0 (Nat.gcd_dvd_right P a)
    omega

/-- there are no divisors of nought -/
theorem mul_zero_or {a b : F} (h : a * b = 0) : a = 0 ∨ b = 0 := by
  by_cases ha : a = 0
  · exact .inl ha
  · right
    have h1 : a.val * b.val % P = 0 := by have := congrArg Fin.val h; simpa [Fin.val_mul] using this
    have ha0 : 0 < a.val := by
      rcases Nat.eq_zero_or_pos a.val with h0 | h0
      · exact absurd (Fin.ext h0) ha
      · exact h0
    have := (P_coprime a.val ha0 a.isLt).dvd_of_dvd_mul_left (Nat.dvd_of_mod_eq_zero h1)
    apply Fin.ext
    exact Nat.eq_zero_of_dvd_of_lt this b.isLt

theorem mul_ne {a b : F} (ha : a ≠ 0) (hb : b ≠ 0) : a * b ≠ 0 := fun h => by rcases mul_zero_or h with h | h <;> contradiction

theorem cancel {a b c : F} (ha : a ≠ 0) (h : a * b = a * c) : b = c := by
  have : a * (b - c) = 0 := by grind -lia -linarith
  rcases mul_zero_or this with h | h
  · contradiction
  · grind -lia -linarith

theorem sq_eq {a b : F} (h : a * a = b * b) : a = b ∨ a = -b := by
  have : (a - b) * (a + b) = 0 := by grind -lia -linarith
  rcases mul_zero_or this with h | h
  · left; grind -lia -linarith
  · right; grind -lia -linarith

theorem two_ne : (2 : F) ≠ 0 := by decide
theorem one_ne : (1 : F) ≠ 0 := by decide

/-- a power, under a name that is not laid open -/
noncomputable def pw (a : F) (n : Nat) : F := Classical.choose (⟨a ^ n, rfl⟩ : ∃ x : F, x = a ^ n)
theorem pw_eq (a : F) (n : Nat) : pw a n = a ^ n := Classical.choose_spec (⟨a ^ n, rfl⟩ : ∃ x : F, x = a ^ n)
theorem pw_zero (a : F) : pw a 0 = 1 := by simp only [pw_eq]; grind -lia -linarith
theorem pw_add (a : F) (n m : Nat) : pw a (n + m) = pw a n * pw a m := by simp only [pw_eq]; grind -lia -linarith
theorem pw_succ (a : F) (n : Nat) : pw a (n + 1) = pw a n * a := by simp only [pw_eq]; grind -lia -linarith
theorem pw_one (a : F) : pw a 1 = a := by simp only [pw_eq]; grind -lia -linarith
theorem pw_two (a : F) : pw a 2 = a * a := by simp only [pw_eq]; grind -lia -linarith
theorem mul_pw (a b : F) (n : Nat) : pw (a * b) n = pw a n * pw b n := by
  induction n with
  | zero => rw [pw_zero, pw_zero, pw_zero]; grind -lia -linarith
  | succ n ih => rw [pw_succ, pw_succ, pw_succ, ih]; grind -lia -linarith
theorem pw_mul (a : F) (n m : Nat) : pw a (n * m) = pw (pw a n) m := by
  induction m with
  | zero => rw [Nat.mul_zero, pw_zero, pw_zero]
  | succ m ih => rw [Nat.mul_succ, pw_add, pw_succ, ih]
theorem one_pw (n : Nat) : pw 1 n = 1 := by
  induction n with
  | zero => rw [pw_zero]
  | succ n ih => rw [pw_succ, ih]; decide
theorem zero_pw {n : Nat} (h : n ≠ 0) : pw 0 n = 0 := by
  obtain ⟨k, rfl⟩ := Nat.exists_eq_succ_of_ne_zero h
  rw [Nat.succ_eq_add_one, pw_succ]
  grind -lia -linarith

/-! ### a list that a map turns into itself -/
theorem perm_shift {α : Type} {L : List α} {f g : α → α} (hn : L.Nodup) (hf : ∀ x ∈ L, f x ∈ L) (hg : ∀ x ∈ L, g x ∈ L) (hgf : ∀ x ∈ L, g (f x) = x) (hfg : ∀ x ∈ L, f (g x) = x) : (L.map f).Perm L := by
  rw [List.perm_ext_iff_of_nodup ?_ hn]
  · intro a
    rw [List.mem_map]
    constructor
    · rintro ⟨x, hx, rfl⟩; exact hf x hx
    · intro ha; exact ⟨g a, hg a ha, hfg a ha⟩
  · unfold List.Nodup
    rw [List.pairwise_map]
    refine List.Pairwise.imp_of_mem ?_ hn
    intro a b ha hb hab e
    exact hab (by rw [← hgf a ha, ← hgf b hb, e])

/-! ### Fermat's little theorem -/
/-- a list without one of its own -/
def others {α : Type} [DecidableEq α] (c : α) (l : List α) : List α := l.filter (fun x => !decide (x = c))
theorem mem_others {α : Type} [DecidableEq α] (c : α) (l : List α) (a : α) : a ∈ others c l ↔ a ∈ l ∧ a ≠ c := by simp [others]
theorem others_nodup {α : Type} [DecidableEq α] (c : α) (l : List α) (h : l.Nodup) : (others c l).Nodup := List.Pairwise.filter _ h
theorem others_length {α : Type} [DecidableEq α] (c : α) (l : List α) (hn : l.Nodup) (hc : c ∈ l) : (others c l).length + 1 = l.length := by
  induction l with
  | nil => simp at hc
  | cons a l ih =>
    rw [List.nodup_cons] at hn
    by_cases e : a = c
    · subst e
      have : others a l = l := List.filter_eq_self.2 fun x hx => by
        have : x ≠ a := fun h => hn.1 (h ▸ hx)
        simpa using this
      have h2 : others a (a :: l) = others a l := by simp [others]
      rw [h2, this, List.length_cons]
    · have hm : c ∈ l := by
        rcases List.mem_cons.1 hc with h | h
        · exact absurd h.symm e
        · exact h
      have h1 := ih hn.2 hm
      have h2 : others c (a :: l) = a :: others c l := by simp [others, e]
      rw [h2, List.length_cons, List.length_cons]
      omega

/-- all numbers but nought -/
@[irreducible] def units : List F := others 0 (List.finRange P)
theorem mem_units (a : F) : a ∈ units ↔ a ≠ 0 := by unfold units; rw [mem_others]; simp only [List.mem_finRange, true_and]
theorem units_nodup : units.Nodup := by unfold units; exact others_nodup _ _ (List.nodup_finRange P)
theorem units_length : units.length = 2147482866 := by
  have h := others_length (0 : F) (List.finRange P) (List.nodup_finRange P) (List.mem_finRange 0)
  rw [List.length_finRange] at h
  have e : units = others (0 : F) (List.finRange P) := by unfold units; rfl
  rw [e]
  generalize (others (0 : F) (List.finRange P)).length = n at h
  simp only [P] at h
  omega

def prod (l : List F) : F := l.foldr (· * ·) 1
theorem prod_cons (a : F) (l : List F) : prod (a :: l) = a * prod l := rfl
theorem prod_perm {l m : List F} (h : l.Perm m) : prod l = prod m :=
  h.foldr_eq' (fun x _ y _ z => by grind -lia -linarith) 1
theorem prod_map_mul (a : F) (l : List F) : prod (l.map (a * ·)) = pw a l.length * prod l := by
  induction l with
  | nil => simp only [List.map_nil, List.length_nil, pw_zero]; grind -lia -linarith
  | cons b l ih => rw [List.map_cons, prod_cons, prod_cons, ih, List.length_cons, pw_succ]; generalize pw a l.length = c; grind -lia -linarith
theorem prod_ne (l : List F) (h : ∀ x ∈ l, x ≠ 0) : prod l ≠ 0 := by
  induction l with
  | nil => exact one_ne
  | cons a l ih => exact mul_ne (h a (by simp)) (ih fun x hx => h x (by simp [hx]))

/-- a map that parts what is unlike and stays in the list goes through all of it -/
theorem perm_inj {α : Type} [BEq α] [LawfulBEq α] {L : List α} {f : α → α} (hn : L.Nodup) (hf : ∀ x ∈ L, f x ∈ L) (hi : ∀ x ∈ L, ∀ y ∈ L, f x = f y → x = y) : (L.map f).Perm L := by
  have hm : (L.map f).Nodup := by
    unfold List.Nodup
    rw [List.pairwise_map]
    refine List.Pairwise.imp_of_mem ?_ hn
    intro a b ha hb hab e
    exact hab (hi a ha b hb e)
  have hs : ∀ a ∈ L.map f, a ∈ L := by
    intro a ha
    obtain ⟨x, hx, rfl⟩ := List.mem_map.1 ha
    exact hf x hx
  rw [List.perm_ext_iff_of_nodup hm hn]
  intro a
  refine ⟨hs a, fun ha => ?_⟩
  by_cases h : a ∈ L.map f
  · exact h
  · have h1 : (a :: L.map f).Nodup := List.nodup_cons.2 ⟨h, hm⟩
    have h2 := h1.length_le_of_subset (l₂ := L) (by
      intro x hx
      rcases List.mem_cons.1 hx with rfl | hx
      · exact ha
      · exact hs x hx)
    simp at h2
    omega

/-- Fermat's little theorem -/
theorem fermat {a : F} (ha : a ≠ 0) : pw a 2147482866 = 1 := by
  have hp : (units.map (a * ·)).Perm units := perm_inj units_nodup
    (fun x hx => (mem_units _).2 (mul_ne ha ((mem_units x).1 hx))) (fun x _ y _ h => cancel ha h)
  have h := prod_perm hp
  rw [prod_map_mul, units_length] at h
  have h0 : prod units ≠ 0 := prod_ne _ fun x hx => (mem_units x).1 hx
  generalize prod units = c at h h0
  refine cancel h0 ?_
  generalize pw a 2147482866 = b at h
  grind -lia -linarith

/-- what times a number is 1 (of nought: nought) -/
noncomputable def inv (a : F) : F := pw a 2147482865
theorem inv_zero : inv 0 = 0 := zero_pw (by decide)
theorem mul_inv {a : F} (ha : a ≠ 0) : a * inv a = 1 := by
  have h := fermat ha
  rw [show 2147482866 = 2147482865 + 1 from rfl, pw_succ] at h
  unfold inv
  generalize pw a 2147482865 = b at h
  grind -lia -linarith

theorem pw_double (a : F) {k m : Nat} (h : k + k = m) : pw a k * pw a k = pw a m := by rw [← h, pw_add]

/-- a square's root -/
theorem root_of_sq (y : F) : pw (y * y) 536870717 * pw (y * y) 536870717 = y * y := by
  by_cases h : y = 0
  · subst h
    rw [show (0 : F) * 0 = 0 by decide, zero_pw (by decide)]
    decide
  · have e1 : pw (y * y) 536870717 = pw y 1073741434 := by rw [mul_pw]; exact pw_double y rfl
    have e2 : pw y 1073741434 * pw y 1073741434 = pw y 2147482868 := pw_double y rfl
    have e3 : pw y 2147482868 = pw y 2147482866 * pw y 2 := by rw [← pw_add]
    rw [e1, e2, e3, fermat h, pw_two]
    grind -lia -linarith

theorem neg_pw_odd (k : Nat) : pw (-1) (2 * k + 1) = -1 := by
  rw [pw_succ, pw_mul, pw_two, show (-1 : F) * -1 = 1 by decide, one_pw]
  decide

/-- -1 is no square -/
theorem neg_one_no_sq (y : F) : y * y ≠ -1 := by
  intro h
  have hy : y ≠ 0 := by rintro rfl; exact absurd h (by decide)
  have h1 := fermat hy
  rw [show 2147482866 = 2 * (2 * 536870716 + 1) from rfl, pw_mul, pw_two, h, neg_pw_odd] at h1
  exact absurd h1 (by decide)

/-- of a number and its negative one is a square, by its power -/
theorem sq_or (a : F) : pw a 536870717 * pw a 536870717 = a ∨ pw a 536870717 * pw a 536870717 = -a := by
  by_cases h : a = 0
  · subst h
    left
    rw [zero_pw (by decide)]
    decide
  · have h1 : pw a 1073741433 * pw a 1073741433 = 1 * 1 := by
      rw [pw_double a (show 1073741433 + 1073741433 = 2147482866 from rfl), fermat h]
      decide
    have h2 : pw a 536870717 * pw a 536870717 = pw a 1073741433 * a := by
      rw [pw_double a (show 536870717 + 536870717 = 1073741433 + 1 from rfl), pw_succ]
    rw [h2]
    generalize pw a 1073741433 = b at h1
    rcases sq_eq h1 with h1 | h1
    · left; rw [h1]; grind -lia -linarith
    · right; rw [h1]; grind -lia -linarith

/-! ### a number of the program as one of the field, and back -/
def zf (a : Int) : F := ⟨(a % 2147482867).toNat, by have h1 := Int.emod_nonneg a (show (2147482867 : Int) ≠ 0 by decide); have h2 := Int.emod_lt_of_pos a (show (0 : Int) < 2147482867 by decide); simp only [P]; omega⟩
def vz (x : F) : Int := (x.val : Int)
theorem vz_nonneg (x : F) : 0 ≤ vz x := Int.natCast_nonneg _
theorem vz_lt (x : F) : vz x < 2147482867 := by have := x.isLt; unfold vz; simp only [P] at this; omega
theorem vz_zf (a : Int) : vz (zf a) = a % 2147482867 := by
  have h1 := Int.emod_nonneg a (show (2147482867 : Int) ≠ 0 by decide)
  show (((a % 2147482867).toNat : Nat) : Int) = _
  omega
theorem vz_inj {x y : F} (h : vz x = vz y) : x = y := Fin.ext (by unfold vz at h; omega)
theorem zf_vz (x : F) : zf (vz x) = x := by
  apply vz_inj
  rw [vz_zf]
  have := vz_nonneg x
  have := vz_lt x
  omega
theorem vz_add (a b : Int) : vz (zf a + zf b) = (a + b) % 2147482867 := by
  have h : vz (zf a + zf b) = (vz (zf a) + vz (zf b)) % 2147482867 := by unfold vz; rw [Fin.val_add]; simp only [P]; omega
  rw [h, vz_zf, vz_zf, ← Int.add_emod]
theorem vz_mul (a b : Int) : vz (zf a * zf b) = (a * b) % 2147482867 := by
  have h : vz (zf a * zf b) = (vz (zf a) * vz (zf b)) % 2147482867 := by unfold vz; rw [Fin.val_mul]; simp only [P, Int.natCast_emod, Int.natCast_mul]; rfl
  rw [h, vz_zf, vz_zf, ← Int.mul_emod]
theorem zf_add (a b : Int) : zf (a + b) = zf a + zf b := vz_inj (by rw [vz_zf, vz_add])
theorem zf_mul (a b : Int) : zf (a * b) = zf a * zf b := vz_inj (by rw [vz_zf, vz_mul])
theorem zf_sub (a b : Int) : zf (a - b) = zf a - zf b := by
  have h := zf_add (a - b) b
  rw [Int.sub_add_cancel] at h
  generalize zf (a - b) = c at *
  generalize zf a = x at *
  generalize zf b = y at *
  grind -lia -linarith
theorem vz_sub (a b : Int) : vz (zf a - zf b) = (a - b) % 2147482867 := by rw [← zf_sub, vz_zf]

/-! ### a number's bits -/
/-- bit i of a number -/
def bitAt (x : Int) (i : Nat) : Bool := decide (x / 2 ^ i % 2 = 1)
/-- the first k bits of 64, the highest first -/
def bitsUp (x : Int) (k : Nat) : List Bool := (List.range k).map fun j => bitAt x (63 - j)
theorem bitsUp_succ (x : Int) (k : Nat) : bitsUp x (k + 1) = bitsUp x k ++ [bitAt x (63 - k)] := by simp [bitsUp, List.range_succ]
theorem bitsUp_length (x : Int) (k : Nat) : (bitsUp x k).length = k := by simp [bitsUp]

/-- a power by its number's bits, the highest first -/
def powBits (a : F) (l : List Bool) : F := l.foldl (fun o b => if b then o * o * a else o * o) 1
theorem powBits_snoc (a : F) (l : List Bool) (b : Bool) : powBits a (l ++ [b]) = if b then powBits a l * powBits a l * a else powBits a l * powBits a l := by simp [powBits]
theorem div_step (x : Int) (k : Nat) (hk : k < 64) : x / 2 ^ (64 - (k + 1)) = x / 2 ^ (64 - k) * 2 + x / 2 ^ (63 - k) % 2 := by
  have e1 : 64 - (k + 1) = 63 - k := by omega
  have e2 : 64 - k = (63 - k) + 1 := by omega
  rw [e1, e2, Int.pow_succ, ← Int.ediv_ediv_of_nonneg (Int.le_of_lt (Int.pow_pos (by decide)))]
  generalize x / 2 ^ (63 - k) = y
  omega
theorem powBits_up (a : F) (x : Int) (hx : 0 ≤ x) (hx2 : x ≤ 18446744073709551615) (k : Nat) (hk : k ≤ 64) : powBits a (bitsUp x k) = pw a (x / 2 ^ (64 - k)).toNat := by
  induction k with
  | zero =>
    have : x / 2 ^ (64 - 0) = 0 := by
      rw [Int.ediv_eq_zero_of_lt hx]
      show x < 18446744073709551616
      omega
    rw [this, show (0 : Int).toNat = 0 from rfl, pw_zero]
    rfl
  | succ k ih =>
    have h0 : 0 ≤ x / 2 ^ (64 - k) := Int.ediv_nonneg hx (Int.le_of_lt (Int.pow_pos (by decide)))
    rw [bitsUp_succ, powBits_snoc, ih (by omega), div_step x k (by omega)]
    unfold bitAt
    generalize x / 2 ^ (64 - k) = y at *
    generalize x / 2 ^ (63 - k) = z
    by_cases h : z % 2 = 1
    · have e : (y * 2 + z % 2).toNat = y.toNat + y.toNat + 1 := by omega
      rw [e, pw_succ, pw_add]
      simp [h]
    · have e : (y * 2 + z % 2).toNat = y.toNat + y.toNat := by omega
      rw [e, pw_add]
      simp [h]
theorem powBits_all (a : F) (x : Int) (hx : 0 ≤ x) (hx2 : x ≤ 18446744073709551615) : powBits a (bitsUp x 64) = pw a x.toNat := by
  have := powBits_up a x hx hx2 64 (Nat.le_refl _)
  rw [this]
  simp

/-! ### roots; the extension -/
/-- a root, an even one; whether there is one -/
noncomputable def rootS (a : F) : F × Bool :=
  if pw a 536870717 * pw a 536870717 = a then ((if vz (pw a 536870717) % 2 = 1 then -pw a 536870717 else pw a 536870717), true) else (0, false)
theorem vz_neg (x : F) (h : vz x ≠ 0) : vz (-x) = 2147482867 - vz x := by
  have h1 := zf_vz x
  have h2 : -x = zf (2147482867 - vz x) := by
    rw [zf_sub, h1, show zf 2147482867 = 0 from rfl]
    grind -lia -linarith
  rw [h2, vz_zf]
  have := vz_nonneg x
  have := vz_lt x
  omega
abbrev F2 := F × F
def mul2 (a b : F2) : F2 := (a.1 * b.1 - a.2 * b.2, a.1 * b.2 + a.2 * b.1)
def pow2Bits (a : F2) (l : List Bool) : F2 := l.foldl (fun o b => if b then mul2 (mul2 o o) a else mul2 o o) (1, 0)
def pow2 (a : F2) (n : Int) : F2 := pow2Bits a (bitsUp n 64)
theorem pow2Bits_snoc (a : F2) (l : List Bool) (b : Bool) : pow2Bits a (l ++ [b]) = if b then mul2 (mul2 (pow2Bits a l) (pow2Bits a l)) a else mul2 (pow2Bits a l) (pow2Bits a l) := by simp [pow2Bits]
noncomputable def inv2 (a : F2) : F2 := (a.1 * inv (a.1 * a.1 + a.2 * a.2), -a.2 * inv (a.1 * a.1 + a.2 * a.2))

end Go.Phx
