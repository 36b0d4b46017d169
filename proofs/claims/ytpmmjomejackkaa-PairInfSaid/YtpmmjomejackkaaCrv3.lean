/- Sums of points, by the curve's package: none, and negatives. -/
import Derived.Test.YtpmmjomejackkaaCrv2
import Derived.Test.YtpmmjomejackkaaLater
set_option linter.unusedSimpArgs false
set_option linter.unusedVariables false
namespace Go.Proofs.Ytpmmjomejackkaa
open BigFrame Go.RowKit Go.Phx Go.Shelf
attribute [local go_sem] Oper.semAt_some

theorem plus_val (x1 y1 x2 y2 L : F) (h : L = slopeE (x1, y1) (x2, y2)) :
    (some (slopeE (x1, y1) (x2, y2) * slopeE (x1, y1) (x2, y2) - x1 - x2, slopeE (x1, y1) (x2, y2) * (x1 - (slopeE (x1, y1) (x2, y2) * slopeE (x1, y1) (x2, y2) - x1 - x2)) - y1) : E) = some (L * L - (x1 + x2), L * (x1 - (L * L - (x1 + x2))) - y1) := by
  rw [← h]
  have e : L * L - x1 - x2 = L * L - (x1 + x2) := by clear h; grind -lia -linarith
  rw [e]
theorem slope_same (x y : F) : (zf 3 * (x * x) + zf 1) * inv (y + y) = slopeE (x, y) (x, y) := by
  unfold slopeE
  rw [if_pos rfl, show zf 3 = 3 from rfl, show zf 1 = 1 from rfl, show y + y = 2 * y from by grind -lia -linarith]
theorem slope_else {x1 y1 x2 y2 : F} (h : ¬ (x1, y1) = (x2, y2)) : (y2 - y1) * inv (x2 - x1) = slopeE (x1, y1) (x2, y2) := by
  unfold slopeE
  rw [if_neg h]

theorem minus_of (x y : F) : ∀ w, Calls Try.prog 69 #[.agg #[.int .u64 (vz x), .int .u64 (vz y), .bool false]] w (Ret w (.agg #[.int .u64 (vz x), .int .u64 (vz (-y)), .bool false])) := fun w => by
  have h := minus_calls (vz x) (vz y) false (vz_nonneg _) (vz_nonneg _) w
  rw [zf_vz] at h
  exact h

set_option maxRecDepth 100000 in
set_option maxHeartbeats 8000000 in
theorem plus_neg (x2 y1 : F) (w : World) : Calls Try.prog 65 #[.agg #[.int .u64 (vz x2), .int .u64 (vz y1), .bool false], .agg #[.int .u64 (vz x2), .int .u64 (vz (-y1)), .bool false]] w (Ret w (vp none)) := by
  have t : - -y1 = y1 := by grind -lia -linarith
  have m := minus_of x2 (-y1)
  rw [t] at m
  clear t
  go_enter Try.func65, Try.ntmps65
  go_wp2_with fail
  (refine wp_region_later (by kernel_rfl) (by kernel_rfl) ?_; (repeat (go_big_quiet_step ((go_at_call 69; exact lq (m _))))); refine wpQuiet_nil ?_; intro w' hB)
  (obtain ⟨hc, hf⟩ := bcell hB; have hz := hB.size; (try simp at hz); (try simp at hc); (try simp at hf))
  go_wp2_with fail
  refine (none_x _).mono ?_
  rintro e w2 ⟨rfl, hB2⟩; obtain ⟨hc2, hf2⟩ := bcell hB2; have hz2 := hB2.size; (try simp at hz2); (try simp at hc2); (try simp at hf2)
  have g1 : w.heap.size < w2.heap.size := by omega
  have g2 : w.heap.size + 1 < w2.heap.size := by omega
  have g3 : w.heap.size + 1 + 1 < w2.heap.size := by omega
  have g4 : w.heap.size < w'.heap.size := by omega
  have g5 : w.heap.size + 1 < w'.heap.size := by omega
  have g6 : w.heap.size + 1 + 1 < w'.heap.size := by omega
  go_wp2_with fail
  exact bodyPost_ret (v := vp none) (by simp (maxDischargeDepth := 9) [results, Try.results65, go_sem, vp, v2, *]) rfl ⟨rfl, (by repeat (first | assumption | exact Below.refl _ _ | refine Below.setCell ?_ (by first | exact Nat.le_refl _ | (simp; done) | omega | (simp; omega)) _ | refine Below.alloc ?_ (by first | exact Nat.le_refl _ | (simp; done) | omega | (simp; omega)) _ | refine below_drewN ?_ _ | refine Below.drew ?_ | refine Below.on (by assumption) ?_ | refine Below.via (by assumption) (by first | exact Nat.le_refl _ | (simp; done) | omega | (simp; omega)) ?_))⟩
end Go.Proofs.Ytpmmjomejackkaa
