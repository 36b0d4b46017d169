/- The field's statements' own first test: -1 times -1 is 1, and the extension's root of -1. No conditions. -/
import Derived.Test.YtpmmjomejackkaaFld4
namespace Go.Proofs.Ytpmmjomejackkaa
open Go.RowKit Go.Phx Go.Shelf

set_option maxHeartbeats 1000000 in
theorem shown09 (w : World) : Calls Try.prog 20 #[] w (Ret w (.bool true)) := by
  have t1 : vz (zf 0 - zf 1) = 2147482866 := by decide +kernel
  have t2 : vz (zf 2147482866 * zf 2147482866) = 1 := by decide +kernel
  have t3 : vz (mul2 (zf 0, zf 1) (zf 0, zf 1)).1 = 2147482866 := by decide +kernel
  have t4 : vz (mul2 (zf 0, zf 1) (zf 0, zf 1)).2 = 0 := by decide +kernel
  go_enter Try.func20, Try.ntmps20
  go_wp2_with fail
  refine (sub_calls _ _ (by decide) (by decide) _).mono ?_
  rintro e w' ⟨rfl, rfl⟩
  rw [t1]
  go_wp2_with fail
  refine (mul_calls _ _ (by decide) (by decide) _).mono ?_
  rintro e w' ⟨rfl, rfl⟩
  rw [t2]
  go_wp2_with fail
  refine (mul2_calls _ _ _ _ (by decide) (by decide) (by decide) (by decide) _).mono ?_
  rintro e w' ⟨rfl, hB⟩
  unfold v2
  rw [t3, t4]
  go_wp2_with fail
  go_ret
  exact ⟨rfl, (by repeat (first | assumption | exact Below.refl _ _ | refine Below.setCell ?_ (by first | exact Nat.le_refl _ | (simp; done) | omega | (simp; omega)) _ | refine Below.alloc ?_ (by first | exact Nat.le_refl _ | (simp; done) | omega | (simp; omega)) _ | refine below_drewN ?_ _ | refine Below.drew ?_ | refine Below.on (by assumption) ?_ | refine Below.via (by assumption) (by first | exact Nat.le_refl _ | (simp; done) | omega | (simp; omega)) ?_))⟩
end Go.Proofs.Ytpmmjomejackkaa
