/- Inverses, roots, and the extension: of the program and of the reference. Any numbers. -/
import Derived.Test.YtpmmjomejackkaaFld2
namespace Go.Proofs.Ytpmmjomejackkaa
open Go.RowKit Go.Phx Go.Shelf
attribute [local go_sem] Oper.semAt_some

theorem inv_calls (a : Int) (ha : 0 ≤ a) (w : World) : Calls Try.prog 31 #[.int .u64 a] w (Ret w (.int .u64 (vz (inv (zf a))))) := by
  go_enter Try.func31, Try.ntmps31
  go_wp2_with fail
  refine (pow_calls _ _ ha (by decide) (by decide) _).mono ?_
  rintro e w' ⟨rfl, hB⟩
  go_wp2_with fail
  go_ret
  exact ⟨rfl, hB⟩
theorem rinv_calls (a : Int) (ha : 0 ≤ a) (w : World) : Calls Try.prog 32 #[.int .u64 a] w fun e w' => e = .returned (.int .u64 (vz (inv (zf a)))) ∧ w = w' := by
  go_enter Try.func32, Try.ntmps32
  go_wp2_with fail
  refine (rpow_calls _ _ ha (by decide) (by decide) _).mono ?_
  rintro e w' ⟨rfl, rfl⟩
  go_wp2_with fail
  go_ret
  exact ⟨rfl, rfl⟩

theorem root_no (a : F) (h : pw a 536870717 * pw a 536870717 ≠ a) : rootS a = (0, false) := by unfold rootS; rw [if_neg h]
theorem root_odd (a : F) (h : pw a 536870717 * pw a 536870717 = a) (h2 : vz (pw a 536870717) % 2 = 1) : rootS a = (-pw a 536870717, true) := by unfold rootS; rw [if_pos h, if_pos h2]
theorem root_even (a : F) (h : pw a 536870717 * pw a 536870717 = a) (h2 : vz (pw a 536870717) % 2 ≠ 1) : rootS a = (pw a 536870717, true) := by unfold rootS; rw [if_pos h, if_neg h2]

set_option maxHeartbeats 1000000 in
theorem root_calls (a : Int) (ha : 0 ≤ a) (w : World) : Calls Try.prog 25 #[.int .u64 a] w (Ret w (.tuple #[.int .u64 (vz (rootS (zf a)).1), .bool (rootS (zf a)).2])) := by
  have q1 : 0 ≤ vz (pw (zf a) 536870717) := vz_nonneg _
  have q2 : vz (pw (zf a) 536870717) < 2147482867 := vz_lt _
  by_cases h1 : pw (zf a) 536870717 * pw (zf a) 536870717 = zf a
  · have t1 : (vz (pw (zf a) 536870717 * pw (zf a) 536870717) != a % 2147482867) = false := by rw [h1, vz_zf]; simp
    by_cases h2 : vz (pw (zf a) 536870717) % 2 = 1
    · have t2 : (vz (pw (zf a) 536870717) % 2 == 1) = true := by simp [h2]
      have e := vz_neg (pw (zf a) 536870717) (by omega)
      have hr := Lib.hid (root_odd _ h1 h2)
      have he := Lib.hid e
      clear h1 h2 e
      go_enter Try.func25, Try.ntmps25
      go_wp2_with fail
      refine (pow_calls _ _ ha (by decide) (by decide) _).mono ?_
      rintro e w' ⟨rfl, hB⟩
      rw [show (536870717 : Int).toNat = 536870717 from rfl]
      go_wp2_with fail
      refine (mul_calls _ _ (vz_nonneg _) (vz_nonneg _) _).mono ?_
      rintro e w' ⟨rfl, rfl⟩
      rw [zf_vz]
      go_wp2_with fail
      go_ret2
      refine ⟨?_, hB⟩
      rw [hr.out]
      show Ending.returned (.tuple #[.int .u64 (2147482867 - _), .bool true]) = Ending.returned (.tuple #[.int .u64 (vz (-pw (zf a) 536870717)), .bool true])
      rw [he.out]
    · have t2 : (vz (pw (zf a) 536870717) % 2 == 1) = false := by simp [h2]
      have hr := Lib.hid (root_even _ h1 h2)
      clear h1 h2
      go_enter Try.func25, Try.ntmps25
      go_wp2_with fail
      refine (pow_calls _ _ ha (by decide) (by decide) _).mono ?_
      rintro e w' ⟨rfl, hB⟩
      rw [show (536870717 : Int).toNat = 536870717 from rfl]
      go_wp2_with fail
      refine (mul_calls _ _ (vz_nonneg _) (vz_nonneg _) _).mono ?_
      rintro e w' ⟨rfl, rfl⟩
      rw [zf_vz]
      go_wp2_with fail
      go_ret2
      refine ⟨?_, hB⟩
      rw [hr.out]
      rfl
  · have t1 : (vz (pw (zf a) 536870717 * pw (zf a) 536870717) != a % 2147482867) = true := by
      rw [bne_iff_ne]
      intro h
      exact h1 (vz_inj (by rw [h, vz_zf]))
    have hr := Lib.hid (root_no _ h1)
    clear h1
    go_enter Try.func25, Try.ntmps25
    go_wp2_with fail
    refine (pow_calls _ _ ha (by decide) (by decide) _).mono ?_
    rintro e w' ⟨rfl, hB⟩
    rw [show (536870717 : Int).toNat = 536870717 from rfl]
    go_wp2_with fail
    refine (mul_calls _ _ (vz_nonneg _) (vz_nonneg _) _).mono ?_
    rintro e w' ⟨rfl, rfl⟩
    rw [zf_vz]
    go_wp2_with fail
    go_ret2
    refine ⟨?_, hB⟩
    rw [hr.out]
    rfl

set_option maxHeartbeats 1000000 in
theorem mul2_calls (a b c d : Int) (ha : 0 ≤ a) (hb : 0 ≤ b) (hc : 0 ≤ c) (hd : 0 ≤ d) (w : World) :
    Calls Try.prog 33 #[.agg #[.int .u64 a, .int .u64 b], .agg #[.int .u64 c, .int .u64 d]] w (Ret w (v2 (mul2 (zf a, zf b) (zf c, zf d)))) := by
  have hm0 : (zf a + zf b) * (zf c + zf d) - zf a * zf c - zf b * zf d = zf a * zf d + zf b * zf c := by
    generalize zf a = x, zf b = y, zf c = z, zf d = u
    grind -lia -linarith
  have hm := Lib.hid hm0
  clear hm0
  go_enter Try.func33, Try.ntmps33
  go_wp2_with fail
  go_quiet ((go_at_call 21; exact qs (mul_calls _ _ (by assumption) (by assumption) _)))
  go_wp2_with fail
  go_quiet ((first | (go_at_call 22; exact qa (add_calls _ _ (by assumption) (by assumption) _)) | (go_at_call 21; exact qa (mul_calls _ _ (vz_nonneg _) (vz_nonneg _) _))))
  go_wp2_with (go_at_call 23; refine (sub_calls _ _ (vz_nonneg _) (vz_nonneg _) _).mono ?_; rintro e w' ⟨rfl, rfl⟩)
  exact bodyPost_ret (v := v2 (mul2 (zf a, zf b) (zf c, zf d))) (by simp [results, Try.results33, go_sem, v2, mul2, hm.out]) rfl ⟨rfl, (by repeat (first | assumption | exact Below.refl _ _ | refine Below.setCell ?_ (by first | exact Nat.le_refl _ | (simp; done) | omega | (simp; omega)) _ | refine Below.alloc ?_ (by first | exact Nat.le_refl _ | (simp; done) | omega | (simp; omega)) _ | refine below_drewN ?_ _ | refine Below.drew ?_ | refine Below.on (by assumption) ?_ | refine Below.via (by assumption) (by first | exact Nat.le_refl _ | (simp; done) | omega | (simp; omega)) ?_))⟩

set_option maxHeartbeats 1000000 in
theorem rmul2_calls (a b c d : Int) (ha : 0 ≤ a) (hb : 0 ≤ b) (hc : 0 ≤ c) (hd : 0 ≤ d) (w : World) :
    Calls Try.prog 35 #[.agg #[.int .u64 a, .int .u64 b], .agg #[.int .u64 c, .int .u64 d]] w (Ret w (v2 (mul2 (zf a, zf b) (zf c, zf d)))) := by
  go_enter Try.func35, Try.ntmps35
  go_wp2_with fail
  go_region_held3 (fun w' => w'.cell? ⟨w.heap.size, 0, none⟩ = some (.int .u64 a) ∧ w'.cell? ⟨w.heap.size, 1, none⟩ = some (.int .u64 b) ∧ w'.cell? ⟨w.heap.size + 1, 0, none⟩ = some (.int .u64 c) ∧ w'.cell? ⟨w.heap.size + 1, 1, none⟩ = some (.int .u64 d)) (simp [go_sem]) (first
    | (go_at_call 29; refine (rmul_calls _ _ (by assumption) (by assumption) _).mono ?_; rintro e w' ⟨rfl, rfl⟩)
    | (go_at_call 27; refine (radd_calls _ _ (vz_nonneg _) (vz_nonneg _) _).mono ?_; rintro e w' ⟨rfl, rfl⟩)
    | (go_at_call 28; refine (rsub_calls _ _ (vz_nonneg _) (vz_nonneg _) _).mono ?_; rintro e w' ⟨rfl, rfl⟩))
  all_goals go_wp2_with fail
  exact bodyPost_ret (v := v2 (mul2 (zf a, zf b) (zf c, zf d))) (by simp [results, Try.results35, go_sem, v2, mul2]) rfl ⟨rfl, (by repeat (first | assumption | exact Below.refl _ _ | refine Below.setCell ?_ (by first | exact Nat.le_refl _ | (simp; done) | omega | (simp; omega)) _ | refine Below.alloc ?_ (by first | exact Nat.le_refl _ | (simp; done) | omega | (simp; omega)) _ | refine below_drewN ?_ _ | refine Below.drew ?_ | refine Below.on (by assumption) ?_ | refine Below.via (by assumption) (by first | exact Nat.le_refl _ | (simp; done) | omega | (simp; omega)) ?_))⟩

/-- over numbers of the extension -/
theorem mul2_v (x y : F2) (w : World) : Calls Try.prog 33 #[v2 x, v2 y] w (Ret w (v2 (mul2 x y))) := by
  have h := mul2_calls (vz x.1) (vz x.2) (vz y.1) (vz y.2) (vz_nonneg _) (vz_nonneg _) (vz_nonneg _) (vz_nonneg _) w
  simp only [zf_vz] at h
  exact h
theorem rmul2_v (x y : F2) (w : World) : Calls Try.prog 35 #[v2 x, v2 y] w (Ret w (v2 (mul2 x y))) := by
  have h := rmul2_calls (vz x.1) (vz x.2) (vz y.1) (vz y.2) (vz_nonneg _) (vz_nonneg _) (vz_nonneg _) (vz_nonneg _) w
  simp only [zf_vz] at h
  exact h

theorem mul2_one_l (x : F2) : mul2 (1, 0) x = x := by
  apply Prod.ext
  · show 1 * x.1 - 0 * x.2 = x.1
    grind -lia -linarith
  · show 1 * x.2 + 0 * x.1 = x.2
    grind -lia -linarith

theorem zf_mod (a : Int) : zf (a % 2147482867) = zf a := vz_inj (by rw [vz_zf, vz_zf, Int.emod_emod_of_dvd _ (Int.dvd_refl _)])
theorem zf_minus (y : Int) : zf (2147482867 - y) = -zf y := by
  rw [zf_sub, show zf 2147482867 = 0 from rfl]
  grind -lia -linarith

set_option maxHeartbeats 2000000 in
theorem inv2_some (a b x y : Int) (ha : 0 ≤ a) (hb : 0 ≤ b) (ex : a % 2147482867 = x) (ey : b % 2147482867 = y) (hx : 0 ≤ x) (hy : 0 ≤ y) (_hy2 : y < 2147482867) (h0 : ¬ x = 0 ∨ ¬ y = 0) (w : World) :
    Calls Try.prog 37 #[.agg #[.int .u64 a, .int .u64 b]] w (Ret w (v2 (zf x * inv (zf x * zf x + zf y * zf y), zf (2147482867 - y) * inv (zf x * zf x + zf y * zf y)))) := by
  have hy3 : 0 ≤ 2147482867 - y := by omega
  have hw : IntKind.u64.wrap (2147482867 - y) = 2147482867 - y := IntWalk.u64_in _ (by omega)
  by_cases hx0 : x = 0
  · subst hx0
    have hy0 : ¬ y = 0 := by rcases h0 with h | h <;> omega
    clear h0
    go_enter Try.func37, Try.ntmps37
    go_wp2_with fail
    go_region_held3 (fun w' => w'.cell? ⟨w.heap.size, 0, none⟩ = some (.int .u64 0) ∧ w'.cell? ⟨w.heap.size, 1, none⟩ = some (.int .u64 y)) (first | (simp [go_sem]; done) | (simp [go_sem, *]; done)) (first
      | (go_at_call 21; refine (mul_calls _ _ (by omega) (by omega) _).mono ?_; rintro e w' ⟨rfl, rfl⟩)
      | (go_at_call 22; refine (add_calls _ _ (vz_nonneg _) (vz_nonneg _) _).mono ?_; rintro e w' ⟨rfl, rfl⟩)
      | (go_at_call 31; refine (inv_calls _ (vz_nonneg _) _).mono ?_; rintro e w' ⟨rfl, hB⟩; obtain ⟨hc, hf⟩ := bcell hB; have hz := hB.size; (try simp at hz); (try simp at hc); (try simp at hf)))
    go_wp2_with fail
    go_region_held3 (fun w' => w'.cell? ⟨w.heap.size, 0, none⟩ = some (.int .u64 0) ∧ w'.cell? ⟨w.heap.size, 1, none⟩ = some (.int .u64 y)) (first | (simp [go_sem]; done) | (simp [go_sem, *]; done)) (first
      | (go_at_call 21; refine (mul_calls _ _ (by first | omega | exact vz_nonneg _) (vz_nonneg _) _).mono ?_; rintro e w' ⟨rfl, rfl⟩))
    go_wp2_with fail
    refine bodyPost_ret (v := v2 (zf 0 * inv (zf 0 * zf 0 + zf y * zf y), zf (2147482867 - y) * inv (zf 0 * zf 0 + zf y * zf y))) ?_ rfl ⟨rfl, (by repeat (first | assumption | exact Below.refl _ _ | refine Below.setCell ?_ (by first | exact Nat.le_refl _ | (simp; done) | omega | (simp; omega)) _ | refine Below.alloc ?_ (by first | exact Nat.le_refl _ | (simp; done) | omega | (simp; omega)) _ | refine below_drewN ?_ _ | refine Below.drew ?_ | refine Below.on (by assumption) ?_ | refine Below.via (by assumption) (by first | exact Nat.le_refl _ | (simp; done) | omega | (simp; omega)) ?_))⟩
    have h2 := hB.size
    simp at h2
    simp [results, Try.results37, go_sem, v2, *]
  · clear h0
    go_enter Try.func37, Try.ntmps37
    go_wp2_with fail
    go_region_held3 (fun w' => w'.cell? ⟨w.heap.size, 0, none⟩ = some (.int .u64 x) ∧ w'.cell? ⟨w.heap.size, 1, none⟩ = some (.int .u64 y)) (first | (simp [go_sem]; done) | (simp [go_sem, *]; done)) (first
      | (go_at_call 21; refine (mul_calls _ _ (by omega) (by omega) _).mono ?_; rintro e w' ⟨rfl, rfl⟩)
      | (go_at_call 22; refine (add_calls _ _ (vz_nonneg _) (vz_nonneg _) _).mono ?_; rintro e w' ⟨rfl, rfl⟩)
      | (go_at_call 31; refine (inv_calls _ (vz_nonneg _) _).mono ?_; rintro e w' ⟨rfl, hB⟩; obtain ⟨hc, hf⟩ := bcell hB; have hz := hB.size; (try simp at hz); (try simp at hc); (try simp at hf)))
    go_wp2_with fail
    go_region_held3 (fun w' => w'.cell? ⟨w.heap.size, 0, none⟩ = some (.int .u64 x) ∧ w'.cell? ⟨w.heap.size, 1, none⟩ = some (.int .u64 y)) (first | (simp [go_sem]; done) | (simp [go_sem, *]; done)) (first
      | (go_at_call 21; refine (mul_calls _ _ (by first | omega | exact vz_nonneg _) (vz_nonneg _) _).mono ?_; rintro e w' ⟨rfl, rfl⟩))
    go_wp2_with fail
    refine bodyPost_ret (v := v2 (zf x * inv (zf x * zf x + zf y * zf y), zf (2147482867 - y) * inv (zf x * zf x + zf y * zf y))) ?_ rfl ⟨rfl, (by repeat (first | assumption | exact Below.refl _ _ | refine Below.setCell ?_ (by first | exact Nat.le_refl _ | (simp; done) | omega | (simp; omega)) _ | refine Below.alloc ?_ (by first | exact Nat.le_refl _ | (simp; done) | omega | (simp; omega)) _ | refine below_drewN ?_ _ | refine Below.drew ?_ | refine Below.on (by assumption) ?_ | refine Below.via (by assumption) (by first | exact Nat.le_refl _ | (simp; done) | omega | (simp; omega)) ?_))⟩
    have h2 := hB.size
    simp at h2
    simp [results, Try.results37, go_sem, v2, *]

set_option maxHeartbeats 1000000 in
theorem inv2_none (a b : Int) (ha : 0 ≤ a) (hb : 0 ≤ b) (ex : a % 2147482867 = 0) (ey : b % 2147482867 = 0) (w : World) :
    Calls Try.prog 37 #[.agg #[.int .u64 a, .int .u64 b]] w (Ret w (.agg #[.int .u64 0, .int .u64 0])) := by
  go_enter Try.func37, Try.ntmps37
  go_wp2_with fail
  exact bodyPost_ret (v := .agg #[.int .u64 0, .int .u64 0]) (by simp [results, Try.results37, go_sem]) rfl ⟨rfl, (by repeat (first | assumption | exact Below.refl _ _ | refine Below.setCell ?_ (by first | exact Nat.le_refl _ | (simp; done) | omega | (simp; omega)) _ | refine Below.alloc ?_ (by first | exact Nat.le_refl _ | (simp; done) | omega | (simp; omega)) _ | refine below_drewN ?_ _ | refine Below.drew ?_ | refine Below.on (by assumption) ?_ | refine Below.via (by assumption) (by first | exact Nat.le_refl _ | (simp; done) | omega | (simp; omega)) ?_))⟩

theorem inv2_calls (a b : Int) (ha : 0 ≤ a) (hb : 0 ≤ b) (w : World) :
    Calls Try.prog 37 #[.agg #[.int .u64 a, .int .u64 b]] w (Ret w (v2 (inv2 (zf a, zf b)))) := by
  by_cases h0 : a % 2147482867 = 0 ∧ b % 2147482867 = 0
  · have e1 : zf a = 0 := by rw [← zf_mod, h0.1]; rfl
    have e2 : zf b = 0 := by rw [← zf_mod, h0.2]; rfl
    have e3 : inv2 (zf a, zf b) = (0, 0) := by
      rw [e1, e2]
      show (0 * inv (0 * 0 + 0 * 0), -0 * inv (0 * 0 + 0 * 0)) = ((0, 0) : F2)
      generalize inv (0 * 0 + 0 * 0) = z
      apply Prod.ext <;> grind -lia -linarith
    rw [e3]
    exact inv2_none a b ha hb h0.1 h0.2 w
  · have h := inv2_some a b _ _ ha hb rfl rfl (by omega) (by omega) (by omega) (by omega) w
    rw [zf_minus, zf_mod, zf_mod] at h
    exact h

set_option maxHeartbeats 2000000 in
theorem rinv2_calls (a b : Int) (ha : 0 ≤ a) (hb : 0 ≤ b) (w : World) :
    Calls Try.prog 38 #[.agg #[.int .u64 a, .int .u64 b]] w (Ret w (v2 (inv2 (zf a, zf b)))) := by
  have e0 : zf 0 - zf b = -zf b := by
    rw [show zf 0 = 0 from rfl]
    generalize zf b = z
    grind -lia -linarith
  go_enter Try.func38, Try.ntmps38
  go_wp2_with fail
  go_region_held3 (fun w' => w'.cell? ⟨w.heap.size, 0, none⟩ = some (.int .u64 a) ∧ w'.cell? ⟨w.heap.size, 1, none⟩ = some (.int .u64 b)) (first | (simp [go_sem]; done) | (simp [go_sem, *]; done)) (first
    | (go_at_call 29; refine (rmul_calls _ _ (by omega) (by omega) _).mono ?_; rintro e w' ⟨rfl, rfl⟩)
    | (go_at_call 27; refine (radd_calls _ _ (vz_nonneg _) (vz_nonneg _) _).mono ?_; rintro e w' ⟨rfl, rfl⟩)
    | (go_at_call 32; refine (rinv_calls _ (vz_nonneg _) _).mono ?_; rintro e w' ⟨rfl, rfl⟩))
  go_wp2_with fail
  go_region_held3 (fun w' => w'.cell? ⟨w.heap.size, 0, none⟩ = some (.int .u64 a) ∧ w'.cell? ⟨w.heap.size, 1, none⟩ = some (.int .u64 b)) (first | (simp [go_sem]; done) | (simp [go_sem, *]; done)) (first
    | (go_at_call 29; refine (rmul_calls _ _ (by first | omega | exact vz_nonneg _) (vz_nonneg _) _).mono ?_; rintro e w' ⟨rfl, rfl⟩)
    | (go_at_call 28; refine (rsub_calls _ _ (by omega) (by omega) _).mono ?_; rintro e w' ⟨rfl, rfl⟩))
  go_wp2_with fail
  exact bodyPost_ret (v := v2 (inv2 (zf a, zf b))) (by simp [results, Try.results38, go_sem, v2, inv2]) rfl ⟨rfl, (by repeat (first | assumption | exact Below.refl _ _ | refine Below.setCell ?_ (by first | exact Nat.le_refl _ | (simp; done) | omega | (simp; omega)) _ | refine Below.alloc ?_ (by first | exact Nat.le_refl _ | (simp; done) | omega | (simp; omega)) _ | refine below_drewN ?_ _ | refine Below.drew ?_ | refine Below.on (by assumption) ?_ | refine Below.via (by assumption) (by first | exact Nat.le_refl _ | (simp; done) | omega | (simp; omega)) ?_))⟩
end Go.Proofs.Ytpmmjomejackkaa
