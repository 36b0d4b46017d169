/- Which points there are; sums: of the curve's package and of the reference. -/
import Derived.Test.YtpmmjomejackkaaCrv1
import Derived.Test.YtpmmjomejackkaaLater
set_option linter.unusedSimpArgs false
set_option linter.unusedVariables false
namespace Go.Proofs.Ytpmmjomejackkaa
open BigFrame Go.RowKit Go.Phx Go.Shelf
attribute [local go_sem] Oper.semAt_some

theorem none_x (w : World) : Calls Try.prog 66 #[] w (Ret w (.agg #[.int .u64 0, .int .u64 0, .bool true])) := none_calls w
theorem rnone_x (w : World) : Calls Try.prog 72 #[] w (Ret w (.agg #[.int .u64 0, .int .u64 0, .bool true])) := rnone_calls w

set_option maxRecDepth 100000 in
set_option maxHeartbeats 2000000 in
theorem on_calls (x y : Int) (i : Bool) (hx : 0 ≤ x) (hy : 0 ≤ y) (w : World) : Calls Try.prog 43 #[.agg #[.int .u64 x, .int .u64 y, .bool i]] w (Ret w (.bool (isOn x y i))) := by
  cases i
  · by_cases h1 : x < 2147482867
    · by_cases h2 : y < 2147482867
      · have d1 : decide (x < 2147482867) = true := decide_eq_true h1
        have d2 : decide (y < 2147482867) = true := decide_eq_true h2
        have hv : isOn x y false = (vz (zf y * zf y) == vz (zf x * zf x * zf x + zf x)) := by
          unfold isOn
          simp only [Bool.false_eq_true, if_false, h1, h2, true_and]
          by_cases h3 : zf y * zf y = zf x * zf x * zf x + zf x
          · rw [h3]; simp
          · have h4 : vz (zf y * zf y) ≠ vz (zf x * zf x * zf x + zf x) := fun h => h3 (vz_inj h)
            simp [h3, h4]
        rw [hv]
        clear h1 h2 hv
        go_enter Try.func43, Try.ntmps43
        go_wp2_with fail
        (refine wp_region_later (by kernel_rfl) (by kernel_rfl) ?_; (repeat (go_big_quiet_step ((first
          | (go_at_call 21; exact lw (mul_calls _ _ hy hy _))
          | (go_at_call 67; exact lw (side_calls _ hx _)))))); refine wpQuiet_nil ?_; intro w' hB)
        go_wp2_with fail
        go_ret
        exact ⟨rfl, (by repeat (first | assumption | exact Below.refl _ _ | refine Below.setCell ?_ (by first | exact Nat.le_refl _ | (simp; done) | omega | (simp; omega)) _ | refine Below.alloc ?_ (by first | exact Nat.le_refl _ | (simp; done) | omega | (simp; omega)) _ | refine below_drewN ?_ _ | refine Below.drew ?_ | refine Below.on (by assumption) ?_ | refine Below.via (by assumption) (by first | exact Nat.le_refl _ | (simp; done) | omega | (simp; omega)) ?_))⟩
      · have d1 : decide (x < 2147482867) = true := decide_eq_true h1
        have d2 : decide (y < 2147482867) = false := decide_eq_false h2
        have hv : isOn x y false = false := by unfold isOn; simp [h2]
        rw [hv]
        clear h1 h2 hv
        go_enter Try.func43, Try.ntmps43
        go_wp2_with fail
        (refine wp_region_later (by kernel_rfl) (by kernel_rfl) ?_; (repeat (go_big_quiet_step (fail))); refine wpQuiet_nil ?_; intro w' hB)
        go_wp2_with fail
        go_ret
        exact ⟨rfl, (by repeat (first | assumption | exact Below.refl _ _ | refine Below.setCell ?_ (by first | exact Nat.le_refl _ | (simp; done) | omega | (simp; omega)) _ | refine Below.alloc ?_ (by first | exact Nat.le_refl _ | (simp; done) | omega | (simp; omega)) _ | refine below_drewN ?_ _ | refine Below.drew ?_ | refine Below.on (by assumption) ?_ | refine Below.via (by assumption) (by first | exact Nat.le_refl _ | (simp; done) | omega | (simp; omega)) ?_))⟩
    · have d1 : decide (x < 2147482867) = false := decide_eq_false h1
      have hv : isOn x y false = false := by unfold isOn; simp [h1]
      rw [hv]
      clear h1 hv
      go_enter Try.func43, Try.ntmps43
      go_wp2_with fail
      (refine wp_region_later (by kernel_rfl) (by kernel_rfl) ?_; (repeat (go_big_quiet_step (fail))); refine wpQuiet_nil ?_; intro w' hB)
      go_wp2_with fail
      go_ret
      exact ⟨rfl, (by repeat (first | assumption | exact Below.refl _ _ | refine Below.setCell ?_ (by first | exact Nat.le_refl _ | (simp; done) | omega | (simp; omega)) _ | refine Below.alloc ?_ (by first | exact Nat.le_refl _ | (simp; done) | omega | (simp; omega)) _ | refine below_drewN ?_ _ | refine Below.drew ?_ | refine Below.on (by assumption) ?_ | refine Below.via (by assumption) (by first | exact Nat.le_refl _ | (simp; done) | omega | (simp; omega)) ?_))⟩
  · by_cases h1 : x = 0
    · by_cases h2 : y = 0
      · subst h1 h2
        rw [show isOn 0 0 true = true from by unfold isOn; simp]
        go_enter Try.func43, Try.ntmps43
        go_wp2_with fail
        (refine wp_region_later (by kernel_rfl) (by kernel_rfl) ?_; (repeat (go_big_quiet_step ((go_at_call 66; exact lq (none_x _))))); refine wpQuiet_nil ?_; intro w' hB)
        go_wp2_with fail
        go_ret
        exact ⟨rfl, (by repeat (first | assumption | exact Below.refl _ _ | refine Below.setCell ?_ (by first | exact Nat.le_refl _ | (simp; done) | omega | (simp; omega)) _ | refine Below.alloc ?_ (by first | exact Nat.le_refl _ | (simp; done) | omega | (simp; omega)) _ | refine below_drewN ?_ _ | refine Below.drew ?_ | refine Below.on (by assumption) ?_ | refine Below.via (by assumption) (by first | exact Nat.le_refl _ | (simp; done) | omega | (simp; omega)) ?_))⟩
      · subst h1
        rw [show isOn 0 y true = false from by unfold isOn; simp [h2]]
        have e : (y == 0) = false := by simp [h2]
        clear h2
        go_enter Try.func43, Try.ntmps43
        go_wp2_with fail
        (refine wp_region_later (by kernel_rfl) (by kernel_rfl) ?_; (repeat (go_big_quiet_step ((go_at_call 66; exact lq (none_x _))))); refine wpQuiet_nil ?_; intro w' hB)
        go_wp2_with fail
        go_ret
        exact ⟨rfl, (by repeat (first | assumption | exact Below.refl _ _ | refine Below.setCell ?_ (by first | exact Nat.le_refl _ | (simp; done) | omega | (simp; omega)) _ | refine Below.alloc ?_ (by first | exact Nat.le_refl _ | (simp; done) | omega | (simp; omega)) _ | refine below_drewN ?_ _ | refine Below.drew ?_ | refine Below.on (by assumption) ?_ | refine Below.via (by assumption) (by first | exact Nat.le_refl _ | (simp; done) | omega | (simp; omega)) ?_))⟩
    · rw [show isOn x y true = false from by unfold isOn; simp [h1]]
      have e : (x == 0) = false := by simp [h1]
      clear h1
      go_enter Try.func43, Try.ntmps43
      go_wp2_with fail
      (refine wp_region_later (by kernel_rfl) (by kernel_rfl) ?_; (repeat (go_big_quiet_step ((go_at_call 66; exact lq (none_x _))))); refine wpQuiet_nil ?_; intro w' hB)
      go_wp2_with fail
      go_ret
      exact ⟨rfl, (by repeat (first | assumption | exact Below.refl _ _ | refine Below.setCell ?_ (by first | exact Nat.le_refl _ | (simp; done) | omega | (simp; omega)) _ | refine Below.alloc ?_ (by first | exact Nat.le_refl _ | (simp; done) | omega | (simp; omega)) _ | refine below_drewN ?_ _ | refine Below.drew ?_ | refine Below.on (by assumption) ?_ | refine Below.via (by assumption) (by first | exact Nat.le_refl _ | (simp; done) | omega | (simp; omega)) ?_))⟩
end Go.Proofs.Ytpmmjomejackkaa
