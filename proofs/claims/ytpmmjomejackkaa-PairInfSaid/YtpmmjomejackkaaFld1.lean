/- The field's sums, differences and products, of the program and of the reference: what each call returns. Any two numbers. -/
import Derived.Test.YtpmmjomejackkaaIter
namespace Go.Proofs.Ytpmmjomejackkaa
open Go.RowKit Go.Phx

attribute [go_sem] zf_vz vz_nonneg

theorem ret_u64 {a b : Int} (h : a = b) : Ending.returned (.int .u64 a) = .returned (.int .u64 b) := by rw [h]

theorem add_calls (a b : Int) (ha : 0 ≤ a) (hb : 0 ≤ b) (w : World) :
    Calls Try.prog 22 #[.int .u64 a, .int .u64 b] w fun e w' => e = .returned (.int .u64 (vz (zf a + zf b))) ∧ w = w' := by
  have h1 : 0 ≤ a % 2147482867 := by omega
  have h2 : a % 2147482867 < 2147482867 := by omega
  have h3 : 0 ≤ b % 2147482867 := by omega
  have h4 : b % 2147482867 < 2147482867 := by omega
  go_enter Try.func22, Try.ntmps22
  go_wp2
  all_goals
    go_ret
    refine ⟨ret_u64 ?_, rfl⟩
    rw [vz_add]
    omega

theorem sub_calls (a b : Int) (ha : 0 ≤ a) (hb : 0 ≤ b) (w : World) :
    Calls Try.prog 23 #[.int .u64 a, .int .u64 b] w fun e w' => e = .returned (.int .u64 (vz (zf a - zf b))) ∧ w = w' := by
  have h3 : 0 ≤ b % 2147482867 := by omega
  have h4 : b % 2147482867 < 2147482867 := by omega
  go_enter Try.func23, Try.ntmps23
  go_wp2_with fail
  refine (add_calls _ _ ha (by omega) _).mono ?_
  rintro e w' ⟨rfl, rfl⟩
  go_wp2_with fail
  go_ret
  refine ⟨ret_u64 ?_, rfl⟩
  rw [vz_add, vz_sub]
  omega

theorem mul_calls (a b : Int) (ha : 0 ≤ a) (hb : 0 ≤ b) (w : World) :
    Calls Try.prog 21 #[.int .u64 a, .int .u64 b] w fun e w' => e = .returned (.int .u64 (vz (zf a * zf b))) ∧ w = w' := by
  have h1 : 0 ≤ a % 2147482867 := by omega
  have h2 : a % 2147482867 < 2147482867 := by omega
  have h3 : 0 ≤ b % 2147482867 := by omega
  have h4 : b % 2147482867 < 2147482867 := by omega
  have h5 : 0 ≤ a % 2147482867 * (b % 2147482867) := Int.mul_nonneg h1 h3
  have h6 : a % 2147482867 * (b % 2147482867) ≤ 2147482867 * 2147482867 := Int.mul_le_mul (by omega) (by omega) h3 (by omega)
  go_enter Try.func21, Try.ntmps21
  go_wp2
  go_ret
  refine ⟨ret_u64 ?_, rfl⟩
  rw [vz_mul, ← Int.mul_emod]

theorem radd_calls (a b : Int) (ha : 0 ≤ a) (hb : 0 ≤ b) (w : World) :
    Calls Try.prog 27 #[.int .u64 a, .int .u64 b] w fun e w' => e = .returned (.int .u64 (vz (zf a + zf b))) ∧ w = w' := by
  have h1 : 0 ≤ a % 2147482867 := by omega
  have h2 : a % 2147482867 < 2147482867 := by omega
  have h3 : 0 ≤ b % 2147482867 := by omega
  have h4 : b % 2147482867 < 2147482867 := by omega
  go_enter Try.func27, Try.ntmps27
  go_wp2
  go_ret
  refine ⟨ret_u64 ?_, rfl⟩
  rw [vz_add]
  omega

theorem rsub_calls (a b : Int) (ha : 0 ≤ a) (hb : 0 ≤ b) (w : World) :
    Calls Try.prog 28 #[.int .u64 a, .int .u64 b] w fun e w' => e = .returned (.int .u64 (vz (zf a - zf b))) ∧ w = w' := by
  have h1 : 0 ≤ a % 2147482867 := by omega
  have h2 : a % 2147482867 < 2147482867 := by omega
  have h3 : 0 ≤ b % 2147482867 := by omega
  have h4 : b % 2147482867 < 2147482867 := by omega
  go_enter Try.func28, Try.ntmps28
  go_wp2
  go_ret
  refine ⟨ret_u64 ?_, rfl⟩
  rw [vz_sub]
  omega

theorem rmul_calls (a b : Int) (ha : 0 ≤ a) (hb : 0 ≤ b) (w : World) :
    Calls Try.prog 29 #[.int .u64 a, .int .u64 b] w fun e w' => e = .returned (.int .u64 (vz (zf a * zf b))) ∧ w = w' := by
  have h1 : 0 ≤ a % 2147482867 := by omega
  have h2 : a % 2147482867 < 2147482867 := by omega
  have h3 : 0 ≤ b % 2147482867 := by omega
  have h4 : b % 2147482867 < 2147482867 := by omega
  have h5 : 0 ≤ a % 2147482867 * (b % 2147482867) := Int.mul_nonneg h1 h3
  have h6 : a % 2147482867 * (b % 2147482867) ≤ 2147482867 * 2147482867 := Int.mul_le_mul (by omega) (by omega) h3 (by omega)
  go_enter Try.func29, Try.ntmps29
  go_wp2
  go_ret
  refine ⟨ret_u64 ?_, rfl⟩
  rw [vz_mul, ← Int.mul_emod]
end Go.Proofs.Ytpmmjomejackkaa
