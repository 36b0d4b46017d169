/- Points: of the curve's package and of the reference: which they are, negatives, sums. Any numbers; any two points. -/
import Derived.Test.YtpmmjomejackkaaFldU
import Derived.Test.YtpmmjomejackkaaCurve
set_option linter.unusedSimpArgs false
set_option linter.unusedVariables false
namespace Go.Proofs.Ytpmmjomejackkaa
open Go.RowKit Go.Phx Go.Shelf
attribute [local go_sem] Oper.semAt_some

/-- a point as a value -/
def vp : E → Value
  | none => .agg #[.int .u64 0, .int .u64 0, .bool true]
  | some (x, y) => .agg #[.int .u64 (vz x), .int .u64 (vz y), .bool false]
/-- is what these say a point? -/
noncomputable def isOn (x y : Int) (i : Bool) : Bool :=
  if i then decide (x = 0 ∧ y = 0) else decide (x < 2147482867 ∧ y < 2147482867 ∧ zf y * zf y = zf x * zf x * zf x + zf x)
/-- the point that these say -/
noncomputable def ptOf (x y : Int) (i : Bool) : E := if i then none else some (zf x, zf y)
theorem isOn_pt {x y : Int} {i : Bool} (hx : 0 ≤ x) (hy : 0 ≤ y) (h : isOn x y i = true) : Value.agg #[.int .u64 x, .int .u64 y, .bool i] = vp (ptOf x y i) ∧ onE (ptOf x y i) = true := by
  unfold isOn at h
  cases i
  · simp only [Bool.false_eq_true, if_false, decide_eq_true_eq] at h
    obtain ⟨h1, h2, h3⟩ := h
    refine ⟨?_, ?_⟩
    · show _ = Value.agg #[.int .u64 (vz (zf x)), .int .u64 (vz (zf y)), .bool false]
      rw [vz_zf, vz_zf, Int.emod_eq_of_lt hx h1, Int.emod_eq_of_lt hy h2]
    · exact (onE_some _ _).2 h3
  · simp only [if_true, decide_eq_true_eq] at h
    obtain ⟨h1, h2⟩ := h
    exact ⟨by rw [h1, h2]; rfl, rfl⟩
theorem isOn_vp (x y : F) : isOn (vz x) (vz y) false = onE (some (x, y)) := by
  have h1 := vz_lt x
  have h2 := vz_lt y
  unfold isOn onE
  simp only [Bool.false_eq_true, if_false, zf_vz]
  rw [decide_eq_decide]
  exact ⟨fun h => h.2.2, fun h => ⟨h1, h2, h⟩⟩

theorem none_calls (w : World) : Calls Try.prog 66 #[] w (Ret w (vp none)) := by
  go_enter Try.func66, Try.ntmps66
  go_wp2_with fail
  exact bodyPost_ret (v := vp none) (by simp (maxDischargeDepth := 9) [results, Try.results66, go_sem, vp, v2, *]) rfl ⟨rfl, (by repeat (first | assumption | exact Below.refl _ _ | refine Below.setCell ?_ (by first | exact Nat.le_refl _ | (simp; done) | omega | (simp; omega)) _ | refine Below.alloc ?_ (by first | exact Nat.le_refl _ | (simp; done) | omega | (simp; omega)) _ | refine below_drewN ?_ _ | refine Below.drew ?_ | refine Below.on (by assumption) ?_ | refine Below.via (by assumption) (by first | exact Nat.le_refl _ | (simp; done) | omega | (simp; omega)) ?_))⟩
theorem rnone_calls (w : World) : Calls Try.prog 72 #[] w (Ret w (vp none)) := by
  go_enter Try.func72, Try.ntmps72
  go_wp2_with fail
  exact bodyPost_ret (v := vp none) (by simp (maxDischargeDepth := 9) [results, Try.results72, go_sem, vp, v2, *]) rfl ⟨rfl, (by repeat (first | assumption | exact Below.refl _ _ | refine Below.setCell ?_ (by first | exact Nat.le_refl _ | (simp; done) | omega | (simp; omega)) _ | refine Below.alloc ?_ (by first | exact Nat.le_refl _ | (simp; done) | omega | (simp; omega)) _ | refine below_drewN ?_ _ | refine Below.drew ?_ | refine Below.on (by assumption) ?_ | refine Below.via (by assumption) (by first | exact Nat.le_refl _ | (simp; done) | omega | (simp; omega)) ?_))⟩

theorem side_calls (x : Int) (hx : 0 ≤ x) (w : World) : Calls Try.prog 67 #[.int .u64 x] w fun e w' => e = .returned (.int .u64 (vz (zf x * zf x * zf x + zf x))) ∧ w = w' := by
  have t : zf x * (zf x * zf x + 1) = zf x * zf x * zf x + zf x := by generalize zf x = a; grind -lia -linarith
  have z1 : zf 1 = 1 := rfl
  go_enter Try.func67, Try.ntmps67
  go_wp2_with fail
  refine (mul_calls _ _ hx hx _).mono ?_
  rintro e w' ⟨rfl, rfl⟩
  go_wp2_with fail
  refine (add_calls _ _ (vz_nonneg _) (by decide) _).mono ?_
  rintro e w' ⟨rfl, rfl⟩
  go_wp2_with fail
  refine (mul_calls _ _ hx (vz_nonneg _) _).mono ?_
  rintro e w' ⟨rfl, rfl⟩
  rw [zf_vz, t]
  go_wp2_with fail
  go_ret
  exact ⟨rfl, rfl⟩
theorem rside_calls (x : Int) (hx : 0 ≤ x) (w : World) : Calls Try.prog 71 #[.int .u64 x] w fun e w' => e = .returned (.int .u64 (vz (zf x * zf x * zf x + zf x))) ∧ w = w' := by
  have t : zf x * (zf x * zf x) + zf x = zf x * zf x * zf x + zf x := by generalize zf x = a; grind -lia -linarith
  go_enter Try.func71, Try.ntmps71
  go_wp2_with fail
  refine (rmul_calls _ _ hx hx _).mono ?_
  rintro e w' ⟨rfl, rfl⟩
  go_wp2_with fail
  refine (rmul_calls _ _ hx (vz_nonneg _) _).mono ?_
  rintro e w' ⟨rfl, rfl⟩
  go_wp2_with fail
  refine (radd_calls _ _ (vz_nonneg _) hx _).mono ?_
  rintro e w' ⟨rfl, rfl⟩
  rw [zf_vz, t]
  go_wp2_with fail
  go_ret
  exact ⟨rfl, rfl⟩

theorem minus_calls (x y : Int) (i : Bool) (hx : 0 ≤ x) (hy : 0 ≤ y) (w : World) : Calls Try.prog 69 #[.agg #[.int .u64 x, .int .u64 y, .bool i]] w (Ret w (.agg #[.int .u64 x, .int .u64 (vz (-zf y)), .bool i])) := by
  have t : zf 0 - zf y = -zf y := by rw [show zf 0 = 0 from rfl]; generalize zf y = a; grind -lia -linarith
  go_enter Try.func69, Try.ntmps69
  go_wp2_with fail
  refine (sub_calls _ _ (by decide) hy _).mono ?_
  rintro e w' ⟨rfl, rfl⟩
  rw [t]
  go_wp2_with fail
  exact bodyPost_ret (v := .agg #[.int .u64 x, .int .u64 (vz (-zf y)), .bool i]) (by simp (maxDischargeDepth := 9) [results, Try.results69, go_sem, vp, v2, *]) rfl ⟨rfl, (by repeat (first | assumption | exact Below.refl _ _ | refine Below.setCell ?_ (by first | exact Nat.le_refl _ | (simp; done) | omega | (simp; omega)) _ | refine Below.alloc ?_ (by first | exact Nat.le_refl _ | (simp; done) | omega | (simp; omega)) _ | refine below_drewN ?_ _ | refine Below.drew ?_ | refine Below.on (by assumption) ?_ | refine Below.via (by assumption) (by first | exact Nat.le_refl _ | (simp; done) | omega | (simp; omega)) ?_))⟩
theorem minus_vp (p : E) (w : World) : Calls Try.prog 69 #[vp p] w (Ret w (vp (negE p))) := by
  rcases p with _ | ⟨x, y⟩
  · exact minus_calls 0 0 true (by decide) (by decide) w
  · have h := minus_calls (vz x) (vz y) false (vz_nonneg _) (vz_nonneg _) w
    rw [zf_vz] at h
    exact h
theorem rminus_vp (p : E) (w : World) : Calls Try.prog 70 #[vp p] w (Ret w (vp (negE p))) := by
  rcases p with _ | ⟨x, y⟩
  · show Calls Try.prog 70 #[.agg #[.int .u64 0, .int .u64 0, .bool true]] w (Ret w (vp none))
    go_enter Try.func70, Try.ntmps70
    go_wp2_with fail
    exact bodyPost_ret (v := vp none) (by simp (maxDischargeDepth := 9) [results, Try.results70, go_sem, vp, v2, *]) rfl ⟨rfl, (by repeat (first | assumption | exact Below.refl _ _ | refine Below.setCell ?_ (by first | exact Nat.le_refl _ | (simp; done) | omega | (simp; omega)) _ | refine Below.alloc ?_ (by first | exact Nat.le_refl _ | (simp; done) | omega | (simp; omega)) _ | refine below_drewN ?_ _ | refine Below.drew ?_ | refine Below.on (by assumption) ?_ | refine Below.via (by assumption) (by first | exact Nat.le_refl _ | (simp; done) | omega | (simp; omega)) ?_))⟩
  · show Calls Try.prog 70 #[.agg #[.int .u64 (vz x), .int .u64 (vz y), .bool false]] w (Ret w (.agg #[.int .u64 (vz x), .int .u64 (vz (-y)), .bool false]))
    have t : zf 0 - zf (vz y) = -y := by rw [zf_vz, show zf 0 = 0 from rfl]; grind -lia -linarith
    go_enter Try.func70, Try.ntmps70
    go_wp2_with fail
    go_region_held3 (fun w' => w'.cell? ⟨w.heap.size, 0, none⟩ = some (.int .u64 (vz x)) ∧ w'.cell? ⟨w.heap.size, 1, none⟩ = some (.int .u64 (vz y))) (simp [go_sem]) (
      (go_at_call 28; refine (rsub_calls 0 (vz y) (by decide) (vz_nonneg _) _).mono ?_; rintro e w' ⟨rfl, rfl⟩; rw [t]))
    all_goals go_wp2_with fail
    exact bodyPost_ret (v := .agg #[.int .u64 (vz x), .int .u64 (vz (-y)), .bool false]) (by simp (maxDischargeDepth := 9) [results, Try.results70, go_sem, vp, v2, *]) rfl ⟨rfl, (by repeat (first | assumption | exact Below.refl _ _ | refine Below.setCell ?_ (by first | exact Nat.le_refl _ | (simp; done) | omega | (simp; omega)) _ | refine Below.alloc ?_ (by first | exact Nat.le_refl _ | (simp; done) | omega | (simp; omega)) _ | refine below_drewN ?_ _ | refine Below.drew ?_ | refine Below.on (by assumption) ?_ | refine Below.via (by assumption) (by first | exact Nat.le_refl _ | (simp; done) | omega | (simp; omega)) ?_))⟩
end Go.Proofs.Ytpmmjomejackkaa
