/- Sums of points, by the reference. -/
import Derived.Test.YtpmmjomejackkaaCrv4
import Derived.Test.YtpmmjomejackkaaLater
set_option linter.unusedSimpArgs false
set_option linter.unusedVariables false
namespace Go.Proofs.Ytpmmjomejackkaa
open BigFrame Go.RowKit Go.Phx Go.Shelf
attribute [local go_sem] Oper.semAt_some

set_option maxRecDepth 100000 in
set_option maxHeartbeats 4000000 in
theorem rslope_same (x1 y1 : F) (w : World) : Calls Try.prog 81 #[.agg #[.int .u64 (vz x1), .int .u64 (vz y1), .bool false], .agg #[.int .u64 (vz x1), .int .u64 (vz y1), .bool false]] w (Ret w (.int .u64 (vz (slopeE (x1, y1) (x1, y1))))) := by
  have r1 : (zf 3 * (x1 * x1) + zf 1) * inv (zf 2 * y1) = slopeE (x1, y1) (x1, y1) := by
    unfold slopeE
    rw [if_pos rfl]
    rfl
  have r2 := True.intro
  have r3 := True.intro
  go_enter Try.func81, Try.ntmps81
  go_wp2_with fail
  (refine wp_region_later (by kernel_rfl) (by kernel_rfl) ?_; (repeat (go_big_quiet_step ((first
    | (go_at_call 29; exact lw (rmul_calls _ _ (by first | with_reducible exact vz_nonneg _ | with_reducible assumption | decide) (by first | with_reducible exact vz_nonneg _ | with_reducible assumption | decide) _))
    | (go_at_call 28; exact lw (rsub_calls _ _ (by first | with_reducible exact vz_nonneg _ | with_reducible assumption | decide) (by first | with_reducible exact vz_nonneg _ | with_reducible assumption | decide) _))
    | (go_at_call 27; exact lw (radd_calls _ _ (by first | with_reducible exact vz_nonneg _ | with_reducible assumption | decide) (by first | with_reducible exact vz_nonneg _ | with_reducible assumption | decide) _))
    | (go_at_call 32; exact lw (rinv_calls _ (by first | with_reducible exact vz_nonneg _ | with_reducible assumption | decide) _)))))); refine wpQuiet_nil ?_; intro w' hB)
  go_wp2_with fail
  simp only [zf_vz, r1, r2, r3]
  go_ret
  exact ⟨rfl, (by repeat (first | assumption | exact Below.refl _ _ | refine Below.setCell ?_ (by first | exact Nat.le_refl _ | (simp; done) | omega | (simp; omega)) _ | refine Below.alloc ?_ (by first | exact Nat.le_refl _ | (simp; done) | omega | (simp; omega)) _ | refine below_drewN ?_ _ | refine Below.drew ?_ | refine Below.on (by assumption) ?_ | refine Below.via (by assumption) (by first | exact Nat.le_refl _ | (simp; done) | omega | (simp; omega)) ?_))⟩
set_option maxRecDepth 100000 in
set_option maxHeartbeats 4000000 in
theorem rslope_over (x1 y1 x2 y2 : F) (h1 : x1 ≠ x2) (w : World) : Calls Try.prog 81 #[.agg #[.int .u64 (vz x1), .int .u64 (vz y1), .bool false], .agg #[.int .u64 (vz x2), .int .u64 (vz y2), .bool false]] w (Ret w (.int .u64 (vz (slopeE (x1, y1) (x2, y2))))) := by
  have r1 := slope_else (fun h => h1 (Prod.mk.inj h).1 : ¬ (x1, y1) = (x2, y2))
  have r2 := True.intro
  have r3 := True.intro
  have e1 : (vz x1 == vz x2) = false := by
    rw [beq_eq_false_iff_ne]
    intro h
    exact h1 (vz_inj h)
  clear h1
  go_enter Try.func81, Try.ntmps81
  go_wp2_with fail
  (refine wp_region_later (by kernel_rfl) (by kernel_rfl) ?_; (repeat (go_big_quiet_step ((first
    | (go_at_call 29; exact lw (rmul_calls _ _ (by first | with_reducible exact vz_nonneg _ | with_reducible assumption | decide) (by first | with_reducible exact vz_nonneg _ | with_reducible assumption | decide) _))
    | (go_at_call 28; exact lw (rsub_calls _ _ (by first | with_reducible exact vz_nonneg _ | with_reducible assumption | decide) (by first | with_reducible exact vz_nonneg _ | with_reducible assumption | decide) _))
    | (go_at_call 27; exact lw (radd_calls _ _ (by first | with_reducible exact vz_nonneg _ | with_reducible assumption | decide) (by first | with_reducible exact vz_nonneg _ | with_reducible assumption | decide) _))
    | (go_at_call 32; exact lw (rinv_calls _ (by first | with_reducible exact vz_nonneg _ | with_reducible assumption | decide) _)))))); refine wpQuiet_nil ?_; intro w' hB)
  go_wp2_with fail
  simp only [zf_vz, r1, r2, r3]
  go_ret
  exact ⟨rfl, (by repeat (first | assumption | exact Below.refl _ _ | refine Below.setCell ?_ (by first | exact Nat.le_refl _ | (simp; done) | omega | (simp; omega)) _ | refine Below.alloc ?_ (by first | exact Nat.le_refl _ | (simp; done) | omega | (simp; omega)) _ | refine below_drewN ?_ _ | refine Below.drew ?_ | refine Below.on (by assumption) ?_ | refine Below.via (by assumption) (by first | exact Nat.le_refl _ | (simp; done) | omega | (simp; omega)) ?_))⟩
set_option maxRecDepth 100000 in
set_option maxHeartbeats 4000000 in
theorem rslope_above (x2 y1 y2 : F) (h1 : y1 ≠ y2) (w : World) : Calls Try.prog 81 #[.agg #[.int .u64 (vz x2), .int .u64 (vz y1), .bool false], .agg #[.int .u64 (vz x2), .int .u64 (vz y2), .bool false]] w (Ret w (.int .u64 (vz (slopeE (x2, y1) (x2, y2))))) := by
  have r1 := slope_else (fun h => h1 (Prod.mk.inj h).2 : ¬ (x2, y1) = (x2, y2))
  have r2 : x2 - x2 = 0 := by grind -lia -linarith
  have r3 : (y2 - y1) * inv 0 = slopeE (x2, y1) (x2, y2) := by rw [← r1, r2]
  have e1 : (vz y1 == vz y2) = false := by
    rw [beq_eq_false_iff_ne]
    intro h
    exact h1 (vz_inj h)
  clear h1
  go_enter Try.func81, Try.ntmps81
  go_wp2_with fail
  (refine wp_region_later (by kernel_rfl) (by kernel_rfl) ?_; (repeat (go_big_quiet_step ((first
    | (go_at_call 29; exact lw (rmul_calls _ _ (by first | with_reducible exact vz_nonneg _ | with_reducible assumption | decide) (by first | with_reducible exact vz_nonneg _ | with_reducible assumption | decide) _))
    | (go_at_call 28; exact lw (rsub_calls _ _ (by first | with_reducible exact vz_nonneg _ | with_reducible assumption | decide) (by first | with_reducible exact vz_nonneg _ | with_reducible assumption | decide) _))
    | (go_at_call 27; exact lw (radd_calls _ _ (by first | with_reducible exact vz_nonneg _ | with_reducible assumption | decide) (by first | with_reducible exact vz_nonneg _ | with_reducible assumption | decide) _))
    | (go_at_call 32; exact lw (rinv_calls _ (by first | with_reducible exact vz_nonneg _ | with_reducible assumption | decide) _)))))); refine wpQuiet_nil ?_; intro w' hB)
  go_wp2_with fail
  simp only [zf_vz, r1, r2, r3]
  go_ret
  exact ⟨rfl, (by repeat (first | assumption | exact Below.refl _ _ | refine Below.setCell ?_ (by first | exact Nat.le_refl _ | (simp; done) | omega | (simp; omega)) _ | refine Below.alloc ?_ (by first | exact Nat.le_refl _ | (simp; done) | omega | (simp; omega)) _ | refine below_drewN ?_ _ | refine Below.drew ?_ | refine Below.on (by assumption) ?_ | refine Below.via (by assumption) (by first | exact Nat.le_refl _ | (simp; done) | omega | (simp; omega)) ?_))⟩
theorem rslope_calls (x1 y1 x2 y2 : F) (w : World) : Calls Try.prog 81 #[.agg #[.int .u64 (vz x1), .int .u64 (vz y1), .bool false], .agg #[.int .u64 (vz x2), .int .u64 (vz y2), .bool false]] w (Ret w (.int .u64 (vz (slopeE (x1, y1) (x2, y2))))) := by
  by_cases h1 : x1 = x2
  · subst h1
    by_cases h2 : y1 = y2
    · subst h2
      exact rslope_same x1 y1 w
    · exact rslope_above x1 y1 y2 h2 w
  · exact rslope_over x1 y1 x2 y2 h1 w
end Go.Proofs.Ytpmmjomejackkaa
