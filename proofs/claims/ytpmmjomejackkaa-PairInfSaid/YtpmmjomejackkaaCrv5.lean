/- Sums of points, by the curve's package: any two. -/
import Derived.Test.YtpmmjomejackkaaCrv4
import Derived.Test.YtpmmjomejackkaaLater
set_option linter.unusedSimpArgs false
set_option linter.unusedVariables false
namespace Go.Proofs.Ytpmmjomejackkaa
open BigFrame Go.RowKit Go.Phx Go.Shelf
attribute [local go_sem] Oper.semAt_some

set_option maxRecDepth 100000 in
set_option maxHeartbeats 4000000 in
theorem plus_none (x y : Int) (i : Bool) (w : World) : Calls Try.prog 65 #[.agg #[.int .u64 0, .int .u64 0, .bool true], .agg #[.int .u64 x, .int .u64 y, .bool i]] w (Ret w (.agg #[.int .u64 x, .int .u64 y, .bool i])) := by
  go_enter Try.func65, Try.ntmps65
  go_wp2_with fail
  exact bodyPost_ret (v := .agg #[.int .u64 x, .int .u64 y, .bool i]) (by simp (maxDischargeDepth := 9) [results, Try.results65, go_sem, vp, v2, *]) rfl ⟨rfl, (by repeat (first | assumption | exact Below.refl _ _ | refine Below.setCell ?_ (by first | exact Nat.le_refl _ | (simp; done) | omega | (simp; omega)) _ | refine Below.alloc ?_ (by first | exact Nat.le_refl _ | (simp; done) | omega | (simp; omega)) _ | refine below_drewN ?_ _ | refine Below.drew ?_ | refine Below.on (by assumption) ?_ | refine Below.via (by assumption) (by first | exact Nat.le_refl _ | (simp; done) | omega | (simp; omega)) ?_))⟩
set_option maxRecDepth 100000 in
set_option maxHeartbeats 4000000 in
theorem plus_other (x y : Int) (w : World) : Calls Try.prog 65 #[.agg #[.int .u64 x, .int .u64 y, .bool false], .agg #[.int .u64 0, .int .u64 0, .bool true]] w (Ret w (.agg #[.int .u64 x, .int .u64 y, .bool false])) := by
  go_enter Try.func65, Try.ntmps65
  go_wp2_with fail
  exact bodyPost_ret (v := .agg #[.int .u64 x, .int .u64 y, .bool false]) (by simp (maxDischargeDepth := 9) [results, Try.results65, go_sem, vp, v2, *]) rfl ⟨rfl, (by repeat (first | assumption | exact Below.refl _ _ | refine Below.setCell ?_ (by first | exact Nat.le_refl _ | (simp; done) | omega | (simp; omega)) _ | refine Below.alloc ?_ (by first | exact Nat.le_refl _ | (simp; done) | omega | (simp; omega)) _ | refine below_drewN ?_ _ | refine Below.drew ?_ | refine Below.on (by assumption) ?_ | refine Below.via (by assumption) (by first | exact Nat.le_refl _ | (simp; done) | omega | (simp; omega)) ?_))⟩

theorem plus_calls (p q : E) (w : World) : Calls Try.prog 65 #[vp p, vp q] w (Ret w (vp (addE p q))) := by
  rcases p with _ | ⟨x1, y1⟩
  · rcases q with _ | ⟨x2, y2⟩
    · exact plus_none 0 0 true w
    · exact plus_none (vz x2) (vz y2) false w
  · rcases q with _ | ⟨x2, y2⟩
    · exact plus_other (vz x1) (vz y1) w
    · by_cases h1 : x1 = x2
      · subst h1
        by_cases h2 : y1 = -y2
        · have h3 : y2 = -y1 := by rw [h2]; grind -lia -linarith
          rw [addE_some, if_pos (by rw [← h3]), h3]
          exact plus_neg x1 y1 w
        · by_cases h3 : y1 = y2
          · subst h3
            exact plus_same x1 y1 h2 w
          · exact plus_above x1 y1 y2 h2 h3 w
      · exact plus_over x1 y1 x2 y2 h1 w
end Go.Proofs.Ytpmmjomejackkaa
