/- The reference's root, and what a root is. Any number. -/
import Derived.Test.YtpmmjomejackkaaFldS
namespace Go.Proofs.Ytpmmjomejackkaa
open Go.RowKit Go.Phx Go.Shelf

theorem rootS_cases (a : F) : ((rootS a).2 = false ∧ (rootS a).1 = 0) ∨ ((rootS a).2 = true ∧ (rootS a).1 * (rootS a).1 = a ∧ vz (rootS a).1 % 2 = 0) := by
  by_cases h : pw a 536870717 * pw a 536870717 = a
  · by_cases h2 : vz (pw a 536870717) % 2 = 1
    · rw [root_odd a h h2]
      refine .inr ⟨rfl, ?_, ?_⟩
      · show -pw a 536870717 * -pw a 536870717 = a
        generalize pw a 536870717 = x at h
        grind -lia -linarith
      · show vz (-pw a 536870717) % 2 = 0
        have h3 := vz_neg (pw a 536870717) (by omega)
        omega
    · rw [root_even a h h2]
      have := vz_nonneg (pw a 536870717)
      refine .inr ⟨rfl, h, ?_⟩
      show vz (pw a 536870717) % 2 = 0
      omega
  · rw [root_no a h]
    exact .inl ⟨rfl, rfl⟩

set_option maxHeartbeats 1000000 in
theorem rroot_calls (a : Int) (ha : 0 ≤ a) (w : World) : Calls Try.prog 26 #[.int .u64 a] w fun e w' => e = .returned (.tuple #[.int .u64 (vz (rootS (zf a)).1), .bool (rootS (zf a)).2]) ∧ w = w' := by
  have q1 : 0 ≤ vz (pw (zf a) 536870717) := vz_nonneg _
  have q2 : vz (pw (zf a) 536870717) < 2147482867 := vz_lt _
  by_cases h1 : pw (zf a) 536870717 * pw (zf a) 536870717 = zf a
  · have t1 : (vz (pw (zf a) 536870717 * pw (zf a) 536870717) != a % 2147482867) = false := by rw [h1, vz_zf]; simp
    by_cases h2 : vz (pw (zf a) 536870717) % 2 = 1
    · have t2 : (vz (pw (zf a) 536870717) % 2 == 1) = true := by simp [h2]
      have e := vz_neg (pw (zf a) 536870717) (by omega)
      have hr := Lib.hid (root_odd _ h1 h2)
      have he := Lib.hid e
      clear h1 h2 e
      go_enter Try.func26, Try.ntmps26
      go_wp2_with fail
      refine (rpow_calls _ _ ha (by decide) (by decide) _).mono ?_
      rintro e w' ⟨rfl, rfl⟩
      rw [show (536870717 : Int).toNat = 536870717 from rfl]
      go_wp2_with fail
      refine (rmul_calls _ _ (vz_nonneg _) (vz_nonneg _) _).mono ?_
      rintro e w' ⟨rfl, rfl⟩
      rw [zf_vz]
      go_wp2_with fail
      go_ret2
      refine ⟨?_, rfl⟩
      rw [hr.out]
      show Ending.returned (.tuple #[.int .u64 (2147482867 - _), .bool true]) = Ending.returned (.tuple #[.int .u64 (vz (-pw (zf a) 536870717)), .bool true])
      rw [he.out]
    · have t2 : (vz (pw (zf a) 536870717) % 2 == 1) = false := by simp [h2]
      have hr := Lib.hid (root_even _ h1 h2)
      clear h1 h2
      go_enter Try.func26, Try.ntmps26
      go_wp2_with fail
      refine (rpow_calls _ _ ha (by decide) (by decide) _).mono ?_
      rintro e w' ⟨rfl, rfl⟩
      rw [show (536870717 : Int).toNat = 536870717 from rfl]
      go_wp2_with fail
      refine (rmul_calls _ _ (vz_nonneg _) (vz_nonneg _) _).mono ?_
      rintro e w' ⟨rfl, rfl⟩
      rw [zf_vz]
      go_wp2_with fail
      go_ret2
      refine ⟨?_, rfl⟩
      rw [hr.out]
      rfl
  · have t1 : (vz (pw (zf a) 536870717 * pw (zf a) 536870717) != a % 2147482867) = true := by
      rw [bne_iff_ne]
      intro h
      exact h1 (vz_inj (by rw [h, vz_zf]))
    have hr := Lib.hid (root_no _ h1)
    clear h1
    go_enter Try.func26, Try.ntmps26
    go_wp2_with fail
    refine (rpow_calls _ _ ha (by decide) (by decide) _).mono ?_
    rintro e w' ⟨rfl, rfl⟩
    rw [show (536870717 : Int).toNat = 536870717 from rfl]
    go_wp2_with fail
    refine (rmul_calls _ _ (vz_nonneg _) (vz_nonneg _) _).mono ?_
    rintro e w' ⟨rfl, rfl⟩
    rw [zf_vz]
    go_wp2_with fail
    go_ret2
    refine ⟨?_, rfl⟩
    rw [hr.out]
    rfl
end Go.Proofs.Ytpmmjomejackkaa
