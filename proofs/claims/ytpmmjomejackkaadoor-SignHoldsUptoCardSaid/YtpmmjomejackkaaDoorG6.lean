/- What the later texts stand on (Crv1, Crv2, Crv3, Crv4, Crv5, Crv6): plain laws and walks, each by its own conditions. -/
import Derived.Test.YtpmmjomejackkaaDoorG4
import Derived.Test.YtpmmjomejackkaaDoorG1
import Derived.Test.YtpmmjomejackkaaDoorG3
set_option linter.unusedSimpArgs false
set_option linter.unusedVariables false
section
set_option linter.unusedSimpArgs false
set_option linter.unusedVariables false
namespace Go.Proofs.YtpmmjomejackkaaDoor
open Go.RowKit Go.Phx Go.Shelf
attribute [local go_sem] Oper.semAt_some

/-- a point as a value -/
def vp : E → Value
  | none => .agg #[.int .u64 0, .int .u64 0, .bool true]
  | some (x, y) => .agg #[.int .u64 (vz x), .int .u64 (vz y), .bool false]
/-- is what these say a point? -/
noncomputable def isOn (x y : Int) (i : Bool) : Bool :=
  if i then decide (x = 0 ∧ y = 0) else decide (x < 2147482867 ∧ y < 2147482867 ∧ zf y * zf y = zf x * zf x * zf x + zf x)
/-- the point that these say -/
noncomputable def ptOf (x y : Int) (i : Bool) : E := if i then none else some (zf x, zf y)
theorem isOn_pt {x y : Int} {i : Bool} (hx : 0 ≤ x) (hy : 0 ≤ y) (h : isOn x y i = true) : Value.agg #[.int .u64 x, .int .u64 y, .bool i] = vp (ptOf x y i) ∧ onE (ptOf x y i) = true := by
  unfold isOn at h
  cases i
  · simp only [Bool.false_eq_true, if_false, decide_eq_true_eq] at h
    obtain ⟨h1, h2, h3⟩ := h
    refine ⟨?_, ?_⟩
    · show _ = Value.agg #[.int .u64 (vz (zf x)), .int .u64 (vz (zf y)), .bool false]
      rw [vz_zf, vz_zf, Int.emod_eq_of_lt hx h1, Int.emod_eq_of_lt hy h2]
    · exact (onE_some _ _).2 h3
  · simp only [if_true, decide_eq_true_eq] at h
    obtain ⟨h1, h2⟩ := h
    exact ⟨by rw [h1, h2]; rfl, rfl⟩
theorem isOn_vp (x y : F) : isOn (vz x) (vz y) false = onE (some (x, y)) := by
  have h1 := vz_lt x
  have h2 := vz_lt y
  unfold isOn onE
  simp only [Bool.false_eq_true, if_false, zf_vz]
  rw [decide_eq_decide]
  exact ⟨fun h => h.2.2, fun h => ⟨h1, h2, h⟩⟩

theorem none_calls (w : World) : Calls Tryd.prog 120 #[] w (Ret w (vp none)) := by
  go_enter Tryd.func120, Tryd.ntmps120
  go_wp2_with fail
  exact bodyPost_ret (v := vp none) (by simp (maxDischargeDepth := 9) [results, Tryd.results120, go_sem, vp, v2, *]) rfl ⟨rfl, (by repeat (first | assumption | exact Below.refl _ _ | refine Below.setCell ?_ (by first | exact Nat.le_refl _ | (simp; done) | omega | (simp; omega)) _ | refine Below.alloc ?_ (by first | exact Nat.le_refl _ | (simp; done) | omega | (simp; omega)) _ | refine below_drewN ?_ _ | refine Below.drew ?_ | refine Below.on (by assumption) ?_ | refine Below.via (by assumption) (by first | exact Nat.le_refl _ | (simp; done) | omega | (simp; omega)) ?_))⟩
theorem rnone_calls (w : World) : Calls Tryd.prog 117 #[] w (Ret w (vp none)) := by
  go_enter Tryd.func117, Tryd.ntmps117
  go_wp2_with fail
  exact bodyPost_ret (v := vp none) (by simp (maxDischargeDepth := 9) [results, Tryd.results117, go_sem, vp, v2, *]) rfl ⟨rfl, (by repeat (first | assumption | exact Below.refl _ _ | refine Below.setCell ?_ (by first | exact Nat.le_refl _ | (simp; done) | omega | (simp; omega)) _ | refine Below.alloc ?_ (by first | exact Nat.le_refl _ | (simp; done) | omega | (simp; omega)) _ | refine below_drewN ?_ _ | refine Below.drew ?_ | refine Below.on (by assumption) ?_ | refine Below.via (by assumption) (by first | exact Nat.le_refl _ | (simp; done) | omega | (simp; omega)) ?_))⟩

theorem side_calls (x : Int) (hx : 0 ≤ x) (w : World) : Calls Tryd.prog 121 #[.int .u64 x] w fun e w' => e = .returned (.int .u64 (vz (zf x * zf x * zf x + zf x))) ∧ w = w' := by
  have t : zf x * (zf x * zf x + 1) = zf x * zf x * zf x + zf x := by generalize zf x = a; grind -lia -linarith
  have z1 : zf 1 = 1 := rfl
  go_enter Tryd.func121, Tryd.ntmps121
  go_wp2_with fail
  refine (mul_calls _ _ hx hx _).mono ?_
  rintro e w' ⟨rfl, rfl⟩
  go_wp2_with fail
  refine (add_calls _ _ (vz_nonneg _) (by decide) _).mono ?_
  rintro e w' ⟨rfl, rfl⟩
  go_wp2_with fail
  refine (mul_calls _ _ hx (vz_nonneg _) _).mono ?_
  rintro e w' ⟨rfl, rfl⟩
  rw [zf_vz, t]
  go_wp2_with fail
  go_ret
  exact ⟨rfl, rfl⟩
theorem rside_calls (x : Int) (hx : 0 ≤ x) (w : World) : Calls Tryd.prog 125 #[.int .u64 x] w fun e w' => e = .returned (.int .u64 (vz (zf x * zf x * zf x + zf x))) ∧ w = w' := by
  have t : zf x * (zf x * zf x) + zf x = zf x * zf x * zf x + zf x := by generalize zf x = a; grind -lia -linarith
  go_enter Tryd.func125, Tryd.ntmps125
  go_wp2_with fail
  refine (rmul_calls _ _ hx hx _).mono ?_
  rintro e w' ⟨rfl, rfl⟩
  go_wp2_with fail
  refine (rmul_calls _ _ hx (vz_nonneg _) _).mono ?_
  rintro e w' ⟨rfl, rfl⟩
  go_wp2_with fail
  refine (radd_calls _ _ (vz_nonneg _) hx _).mono ?_
  rintro e w' ⟨rfl, rfl⟩
  rw [zf_vz, t]
  go_wp2_with fail
  go_ret
  exact ⟨rfl, rfl⟩

theorem minus_calls (x y : Int) (i : Bool) (hx : 0 ≤ x) (hy : 0 ≤ y) (w : World) : Calls Tryd.prog 122 #[.agg #[.int .u64 x, .int .u64 y, .bool i]] w (Ret w (.agg #[.int .u64 x, .int .u64 (vz (-zf y)), .bool i])) := by
  have t : zf 0 - zf y = -zf y := by rw [show zf 0 = 0 from rfl]; generalize zf y = a; grind -lia -linarith
  go_enter Tryd.func122, Tryd.ntmps122
  go_wp2_with fail
  refine (sub_calls _ _ (by decide) hy _).mono ?_
  rintro e w' ⟨rfl, rfl⟩
  rw [t]
  go_wp2_with fail
  exact bodyPost_ret (v := .agg #[.int .u64 x, .int .u64 (vz (-zf y)), .bool i]) (by simp (maxDischargeDepth := 9) [results, Tryd.results122, go_sem, vp, v2, *]) rfl ⟨rfl, (by repeat (first | assumption | exact Below.refl _ _ | refine Below.setCell ?_ (by first | exact Nat.le_refl _ | (simp; done) | omega | (simp; omega)) _ | refine Below.alloc ?_ (by first | exact Nat.le_refl _ | (simp; done) | omega | (simp; omega)) _ | refine below_drewN ?_ _ | refine Below.drew ?_ | refine Below.on (by assumption) ?_ | refine Below.via (by assumption) (by first | exact Nat.le_refl _ | (simp; done) | omega | (simp; omega)) ?_))⟩
theorem minus_vp (p : E) (w : World) : Calls Tryd.prog 122 #[vp p] w (Ret w (vp (negE p))) := by
  rcases p with _ | ⟨x, y⟩
  · exact minus_calls 0 0 true (by decide) (by decide) w
  · have h := minus_calls (vz x) (vz y) false (vz_nonneg _) (vz_nonneg _) w
    rw [zf_vz] at h
    exact h
theorem rminus_vp (p : E) (w : World) : Calls Tryd.prog 141 #[vp p] w (Ret w (vp (negE p))) := by
  rcases p with _ | ⟨x, y⟩
  · show Calls Tryd.prog 141 #[.agg #[.int .u64 0, .int .u64 0, .bool true]] w (Ret w (vp none))
    go_enter Tryd.func141, Tryd.ntmps141
    go_wp2_with fail
    exact bodyPost_ret (v := vp none) (by simp (maxDischargeDepth := 9) [results, Tryd.results141, go_sem, vp, v2, *]) rfl ⟨rfl, (by repeat (first | assumption | exact Below.refl _ _ | refine Below.setCell ?_ (by first | exact Nat.le_refl _ | (simp; done) | omega | (simp; omega)) _ | refine Below.alloc ?_ (by first | exact Nat.le_refl _ | (simp; done) | omega | (simp; omega)) _ | refine below_drewN ?_ _ | refine Below.drew ?_ | refine Below.on (by assumption) ?_ | refine Below.via (by assumption) (by first | exact Nat.le_refl _ | (simp; done) | omega | (simp; omega)) ?_))⟩
  · show Calls Tryd.prog 141 #[.agg #[.int .u64 (vz x), .int .u64 (vz y), .bool false]] w (Ret w (.agg #[.int .u64 (vz x), .int .u64 (vz (-y)), .bool false]))
    have t : zf 0 - zf (vz y) = -y := by rw [zf_vz, show zf 0 = 0 from rfl]; grind -lia -linarith
    go_enter Tryd.func141, Tryd.ntmps141
    go_wp2_with fail
    go_region_held3 (fun w' => w'.cell? ⟨w.heap.size, 0, none⟩ = some (.int .u64 (vz x)) ∧ w'.cell? ⟨w.heap.size, 1, none⟩ = some (.int .u64 (vz y))) (simp [go_sem]) (
      (go_at_call 126; refine (rsub_calls 0 (vz y) (by decide) (vz_nonneg _) _).mono ?_; rintro e w' ⟨rfl, rfl⟩; rw [t]))
    all_goals go_wp2_with fail
    exact bodyPost_ret (v := .agg #[.int .u64 (vz x), .int .u64 (vz (-y)), .bool false]) (by simp (maxDischargeDepth := 9) [results, Tryd.results141, go_sem, vp, v2, *]) rfl ⟨rfl, (by repeat (first | assumption | exact Below.refl _ _ | refine Below.setCell ?_ (by first | exact Nat.le_refl _ | (simp; done) | omega | (simp; omega)) _ | refine Below.alloc ?_ (by first | exact Nat.le_refl _ | (simp; done) | omega | (simp; omega)) _ | refine below_drewN ?_ _ | refine Below.drew ?_ | refine Below.on (by assumption) ?_ | refine Below.via (by assumption) (by first | exact Nat.le_refl _ | (simp; done) | omega | (simp; omega)) ?_))⟩
end Go.Proofs.YtpmmjomejackkaaDoor
end
section
set_option linter.unusedSimpArgs false
set_option linter.unusedVariables false
namespace Go.Proofs.YtpmmjomejackkaaDoor
open BigFrame Go.RowKit Go.Phx Go.Shelf
attribute [local go_sem] Oper.semAt_some

theorem none_x (w : World) : Calls Tryd.prog 120 #[] w (Ret w (.agg #[.int .u64 0, .int .u64 0, .bool true])) := none_calls w
theorem rnone_x (w : World) : Calls Tryd.prog 117 #[] w (Ret w (.agg #[.int .u64 0, .int .u64 0, .bool true])) := rnone_calls w

set_option maxRecDepth 100000 in
set_option maxHeartbeats 2000000 in
theorem on_calls (x y : Int) (i : Bool) (hx : 0 ≤ x) (hy : 0 ≤ y) (w : World) : Calls Tryd.prog 114 #[.agg #[.int .u64 x, .int .u64 y, .bool i]] w (Ret w (.bool (isOn x y i))) := by
  cases i
  · by_cases h1 : x < 2147482867
    · by_cases h2 : y < 2147482867
      · have d1 : decide (x < 2147482867) = true := decide_eq_true h1
        have d2 : decide (y < 2147482867) = true := decide_eq_true h2
        have hv : isOn x y false = (vz (zf y * zf y) == vz (zf x * zf x * zf x + zf x)) := by
          unfold isOn
          simp only [Bool.false_eq_true, if_false, h1, h2, true_and]
          by_cases h3 : zf y * zf y = zf x * zf x * zf x + zf x
          · rw [h3]; simp
          · have h4 : vz (zf y * zf y) ≠ vz (zf x * zf x * zf x + zf x) := fun h => h3 (vz_inj h)
            simp [h3, h4]
        rw [hv]
        clear h1 h2 hv
        go_enter Tryd.func114, Tryd.ntmps114
        go_wp2_with fail
        (refine wp_region_later (by kernel_rfl) (by kernel_rfl) ?_; (repeat (go_big_quiet_step ((first
          | (go_at_call 113; exact lw (mul_calls _ _ hy hy _))
          | (go_at_call 121; exact lw (side_calls _ hx _)))))); refine wpQuiet_nil ?_; intro w' hB)
        go_wp2_with fail
        go_ret
        exact ⟨rfl, (by repeat (first | assumption | exact Below.refl _ _ | refine Below.setCell ?_ (by first | exact Nat.le_refl _ | (simp; done) | omega | (simp; omega)) _ | refine Below.alloc ?_ (by first | exact Nat.le_refl _ | (simp; done) | omega | (simp; omega)) _ | refine below_drewN ?_ _ | refine Below.drew ?_ | refine Below.on (by assumption) ?_ | refine Below.via (by assumption) (by first | exact Nat.le_refl _ | (simp; done) | omega | (simp; omega)) ?_))⟩
      · have d1 : decide (x < 2147482867) = true := decide_eq_true h1
        have d2 : decide (y < 2147482867) = false := decide_eq_false h2
        have hv : isOn x y false = false := by unfold isOn; simp [h2]
        rw [hv]
        clear h1 h2 hv
        go_enter Tryd.func114, Tryd.ntmps114
        go_wp2_with fail
        (refine wp_region_later (by kernel_rfl) (by kernel_rfl) ?_; (repeat (go_big_quiet_step (fail))); refine wpQuiet_nil ?_; intro w' hB)
        go_wp2_with fail
        go_ret
        exact ⟨rfl, (by repeat (first | assumption | exact Below.refl _ _ | refine Below.setCell ?_ (by first | exact Nat.le_refl _ | (simp; done) | omega | (simp; omega)) _ | refine Below.alloc ?_ (by first | exact Nat.le_refl _ | (simp; done) | omega | (simp; omega)) _ | refine below_drewN ?_ _ | refine Below.drew ?_ | refine Below.on (by assumption) ?_ | refine Below.via (by assumption) (by first | exact Nat.le_refl _ | (simp; done) | omega | (simp; omega)) ?_))⟩
    · have d1 : decide (x < 2147482867) = false := decide_eq_false h1
      have hv : isOn x y false = false := by unfold isOn; simp [h1]
      rw [hv]
      clear h1 hv
      go_enter Tryd.func114, Tryd.ntmps114
      go_wp2_with fail
      (refine wp_region_later (by kernel_rfl) (by kernel_rfl) ?_; (repeat (go_big_quiet_step (fail))); refine wpQuiet_nil ?_; intro w' hB)
      go_wp2_with fail
      go_ret
      exact ⟨rfl, (by repeat (first | assumption | exact Below.refl _ _ | refine Below.setCell ?_ (by first | exact Nat.le_refl _ | (simp; done) | omega | (simp; omega)) _ | refine Below.alloc ?_ (by first | exact Nat.le_refl _ | (simp; done) | omega | (simp; omega)) _ | refine below_drewN ?_ _ | refine Below.drew ?_ | refine Below.on (by assumption) ?_ | refine Below.via (by assumption) (by first | exact Nat.le_refl _ | (simp; done) | omega | (simp; omega)) ?_))⟩
  · by_cases h1 : x = 0
    · by_cases h2 : y = 0
      · subst h1 h2
        rw [show isOn 0 0 true = true from by unfold isOn; simp]
        go_enter Tryd.func114, Tryd.ntmps114
        go_wp2_with fail
        (refine wp_region_later (by kernel_rfl) (by kernel_rfl) ?_; (repeat (go_big_quiet_step ((go_at_call 120; exact lq (none_x _))))); refine wpQuiet_nil ?_; intro w' hB)
        go_wp2_with fail
        go_ret
        exact ⟨rfl, (by repeat (first | assumption | exact Below.refl _ _ | refine Below.setCell ?_ (by first | exact Nat.le_refl _ | (simp; done) | omega | (simp; omega)) _ | refine Below.alloc ?_ (by first | exact Nat.le_refl _ | (simp; done) | omega | (simp; omega)) _ | refine below_drewN ?_ _ | refine Below.drew ?_ | refine Below.on (by assumption) ?_ | refine Below.via (by assumption) (by first | exact Nat.le_refl _ | (simp; done) | omega | (simp; omega)) ?_))⟩
      · subst h1
        rw [show isOn 0 y true = false from by unfold isOn; simp [h2]]
        have e : (y == 0) = false := by simp [h2]
        clear h2
        go_enter Tryd.func114, Tryd.ntmps114
        go_wp2_with fail
        (refine wp_region_later (by kernel_rfl) (by kernel_rfl) ?_; (repeat (go_big_quiet_step ((go_at_call 120; exact lq (none_x _))))); refine wpQuiet_nil ?_; intro w' hB)
        go_wp2_with fail
        go_ret
        exact ⟨rfl, (by repeat (first | assumption | exact Below.refl _ _ | refine Below.setCell ?_ (by first | exact Nat.le_refl _ | (simp; done) | omega | (simp; omega)) _ | refine Below.alloc ?_ (by first | exact Nat.le_refl _ | (simp; done) | omega | (simp; omega)) _ | refine below_drewN ?_ _ | refine Below.drew ?_ | refine Below.on (by assumption) ?_ | refine Below.via (by assumption) (by first | exact Nat.le_refl _ | (simp; done) | omega | (simp; omega)) ?_))⟩
    · rw [show isOn x y true = false from by unfold isOn; simp [h1]]
      have e : (x == 0) = false := by simp [h1]
      clear h1
      go_enter Tryd.func114, Tryd.ntmps114
      go_wp2_with fail
      (refine wp_region_later (by kernel_rfl) (by kernel_rfl) ?_; (repeat (go_big_quiet_step ((go_at_call 120; exact lq (none_x _))))); refine wpQuiet_nil ?_; intro w' hB)
      go_wp2_with fail
      go_ret
      exact ⟨rfl, (by repeat (first | assumption | exact Below.refl _ _ | refine Below.setCell ?_ (by first | exact Nat.le_refl _ | (simp; done) | omega | (simp; omega)) _ | refine Below.alloc ?_ (by first | exact Nat.le_refl _ | (simp; done) | omega | (simp; omega)) _ | refine below_drewN ?_ _ | refine Below.drew ?_ | refine Below.on (by assumption) ?_ | refine Below.via (by assumption) (by first | exact Nat.le_refl _ | (simp; done) | omega | (simp; omega)) ?_))⟩
end Go.Proofs.YtpmmjomejackkaaDoor
end
section
set_option linter.unusedSimpArgs false
set_option linter.unusedVariables false
namespace Go.Proofs.YtpmmjomejackkaaDoor
open BigFrame Go.RowKit Go.Phx Go.Shelf
attribute [local go_sem] Oper.semAt_some

theorem plus_val (x1 y1 x2 y2 L : F) (h : L = slopeE (x1, y1) (x2, y2)) :
    (some (slopeE (x1, y1) (x2, y2) * slopeE (x1, y1) (x2, y2) - x1 - x2, slopeE (x1, y1) (x2, y2) * (x1 - (slopeE (x1, y1) (x2, y2) * slopeE (x1, y1) (x2, y2) - x1 - x2)) - y1) : E) = some (L * L - (x1 + x2), L * (x1 - (L * L - (x1 + x2))) - y1) := by
  rw [← h]
  have e : L * L - x1 - x2 = L * L - (x1 + x2) := by clear h; grind -lia -linarith
  rw [e]
theorem slope_same (x y : F) : (zf 3 * (x * x) + zf 1) * inv (y + y) = slopeE (x, y) (x, y) := by
  unfold slopeE
  rw [if_pos rfl, show zf 3 = 3 from rfl, show zf 1 = 1 from rfl, show y + y = 2 * y from by grind -lia -linarith]
theorem slope_else {x1 y1 x2 y2 : F} (h : ¬ (x1, y1) = (x2, y2)) : (y2 - y1) * inv (x2 - x1) = slopeE (x1, y1) (x2, y2) := by
  unfold slopeE
  rw [if_neg h]

theorem minus_of (x y : F) : ∀ w, Calls Tryd.prog 122 #[.agg #[.int .u64 (vz x), .int .u64 (vz y), .bool false]] w (Ret w (.agg #[.int .u64 (vz x), .int .u64 (vz (-y)), .bool false])) := fun w => by
  have h := minus_calls (vz x) (vz y) false (vz_nonneg _) (vz_nonneg _) w
  rw [zf_vz] at h
  exact h

set_option maxRecDepth 100000 in
set_option maxHeartbeats 8000000 in
theorem plus_neg (x2 y1 : F) (w : World) : Calls Tryd.prog 140 #[.agg #[.int .u64 (vz x2), .int .u64 (vz y1), .bool false], .agg #[.int .u64 (vz x2), .int .u64 (vz (-y1)), .bool false]] w (Ret w (vp none)) := by
  have t : - -y1 = y1 := by grind -lia -linarith
  have m := minus_of x2 (-y1)
  rw [t] at m
  clear t
  go_enter Tryd.func140, Tryd.ntmps140
  go_wp2_with fail
  (refine wp_region_later (by kernel_rfl) (by kernel_rfl) ?_; (repeat (go_big_quiet_step ((go_at_call 122; exact lq (m _))))); refine wpQuiet_nil ?_; intro w' hB)
  (obtain ⟨hc, hf⟩ := bcell hB; have hz := hB.size; (try simp at hz); (try simp at hc); (try simp at hf))
  go_wp2_with fail
  refine (none_x _).mono ?_
  rintro e w2 ⟨rfl, hB2⟩; obtain ⟨hc2, hf2⟩ := bcell hB2; have hz2 := hB2.size; (try simp at hz2); (try simp at hc2); (try simp at hf2)
  have g1 : w.heap.size < w2.heap.size := by omega
  have g2 : w.heap.size + 1 < w2.heap.size := by omega
  have g3 : w.heap.size + 1 + 1 < w2.heap.size := by omega
  have g4 : w.heap.size < w'.heap.size := by omega
  have g5 : w.heap.size + 1 < w'.heap.size := by omega
  have g6 : w.heap.size + 1 + 1 < w'.heap.size := by omega
  go_wp2_with fail
  exact bodyPost_ret (v := vp none) (by simp (maxDischargeDepth := 9) [results, Tryd.results140, go_sem, vp, v2, *]) rfl ⟨rfl, (by repeat (first | assumption | exact Below.refl _ _ | refine Below.setCell ?_ (by first | exact Nat.le_refl _ | (simp; done) | omega | (simp; omega)) _ | refine Below.alloc ?_ (by first | exact Nat.le_refl _ | (simp; done) | omega | (simp; omega)) _ | refine below_drewN ?_ _ | refine Below.drew ?_ | refine Below.on (by assumption) ?_ | refine Below.via (by assumption) (by first | exact Nat.le_refl _ | (simp; done) | omega | (simp; omega)) ?_))⟩
end Go.Proofs.YtpmmjomejackkaaDoor
end
section
set_option linter.unusedSimpArgs false
set_option linter.unusedVariables false
namespace Go.Proofs.YtpmmjomejackkaaDoor
open BigFrame Go.RowKit Go.Phx Go.Shelf
attribute [local go_sem] Oper.semAt_some

/-- three points in cells of their own, and what came later -/
theorem boxes3 {x1 y1 x2 y2 x3 y3 : Int} {i1 i2 i3 : Bool} {t : TypeId} {w w' : World}
    (hB : Below (((w.alloc (.cells #[.int .u64 x1, .int .u64 y1, .bool i1] t)).alloc (.cells #[.int .u64 x2, .int .u64 y2, .bool i2] t)).alloc (.cells #[.int .u64 x3, .int .u64 y3, .bool i3] t)).heap.size
      (((w.alloc (.cells #[.int .u64 x1, .int .u64 y1, .bool i1] t)).alloc (.cells #[.int .u64 x2, .int .u64 y2, .bool i2] t)).alloc (.cells #[.int .u64 x3, .int .u64 y3, .bool i3] t)) w') :
    (w'.cell? ⟨w.heap.size, 0, none⟩ = some (.int .u64 x1) ∧ w'.cell? ⟨w.heap.size, 1, none⟩ = some (.int .u64 y1) ∧ w'.cell? ⟨w.heap.size, 2, none⟩ = some (.bool i1)) ∧
    (w'.cell? ⟨w.heap.size + 1, 0, none⟩ = some (.int .u64 x2) ∧ w'.cell? ⟨w.heap.size + 1, 1, none⟩ = some (.int .u64 y2) ∧ w'.cell? ⟨w.heap.size + 1, 2, none⟩ = some (.bool i2)) ∧
    (w'.cell? ⟨w.heap.size + 1 + 1, 0, none⟩ = some (.int .u64 x3) ∧ w'.cell? ⟨w.heap.size + 1 + 1, 1, none⟩ = some (.int .u64 y3) ∧ w'.cell? ⟨w.heap.size + 1 + 1, 2, none⟩ = some (.bool i3)) ∧
    (w'.frozen? ⟨w.heap.size + 1 + 1, 0, none⟩ = false ∧ w'.frozen? ⟨w.heap.size + 1 + 1, 1, none⟩ = false ∧ w'.frozen? ⟨w.heap.size + 1 + 1, 2, none⟩ = false) ∧
    w.heap.size + 1 + 1 < w'.heap.size ∧ Below w.heap.size w w' := by
  obtain ⟨hc, hf⟩ := bcell hB
  have hz := hB.size
  have hB0 : Below w.heap.size w w' := (by repeat (first | assumption | exact Below.refl _ _ | refine Below.setCell ?_ (by first | exact Nat.le_refl _ | (simp; done) | omega | (simp; omega)) _ | refine Below.alloc ?_ (by first | exact Nat.le_refl _ | (simp; done) | omega | (simp; omega)) _ | refine below_drewN ?_ _ | refine Below.drew ?_ | refine Below.on (by assumption) ?_ | refine Below.via (by assumption) (by first | exact Nat.le_refl _ | (simp; done) | omega | (simp; omega)) ?_))
  refine ⟨⟨?_, ?_, ?_⟩, ⟨?_, ?_, ?_⟩, ⟨?_, ?_, ?_⟩, ⟨?_, ?_, ?_⟩, ?_, hB0⟩
  all_goals first | (rw [hc _ _ (by first | (simp; done) | (simp; omega))]; simp [go_sem]; done) | (rw [hf _ _ (by first | (simp; done) | (simp; omega))]; simp [go_sem]; done) | (simp at hz; omega)

/-- two points in cells, and a third one, 0 -/
def Three (n : Nat) (x1 y1 x2 y2 : Int) (W : World) : Prop :=
  (W.cell? ⟨n, 0, none⟩ = some (.int .u64 x1) ∧ W.cell? ⟨n, 1, none⟩ = some (.int .u64 y1) ∧ W.cell? ⟨n, 2, none⟩ = some (.bool false)) ∧
  (W.cell? ⟨n + 1, 0, none⟩ = some (.int .u64 x2) ∧ W.cell? ⟨n + 1, 1, none⟩ = some (.int .u64 y2) ∧ W.cell? ⟨n + 1, 2, none⟩ = some (.bool false)) ∧
  (W.cell? ⟨n + 1 + 1, 0, none⟩ = some (.int .u64 0) ∧ W.cell? ⟨n + 1 + 1, 1, none⟩ = some (.int .u64 0) ∧ W.cell? ⟨n + 1 + 1, 2, none⟩ = some (.bool false)) ∧
  (W.frozen? ⟨n + 1 + 1, 0, none⟩ = false ∧ W.frozen? ⟨n + 1 + 1, 1, none⟩ = false ∧ W.frozen? ⟨n + 1 + 1, 2, none⟩ = false) ∧
  n + 1 + 1 < W.heap.size
theorem Three.on {n : Nat} {x1 y1 x2 y2 : Int} {W W2 : World} (h : Three n x1 y1 x2 y2 W) (hB : Below W.heap.size W W2) : Three n x1 y1 x2 y2 W2 := by
  obtain ⟨⟨c0, c1, c2⟩, ⟨d0, d1, d2⟩, ⟨r0, r1, r2⟩, ⟨f0, f1, f2⟩, hz⟩ := h
  obtain ⟨hc, hf⟩ := bcell hB
  have hz2 := hB.size
  refine ⟨⟨?_, ?_, ?_⟩, ⟨?_, ?_, ?_⟩, ⟨?_, ?_, ?_⟩, ⟨?_, ?_, ?_⟩, ?_⟩
  all_goals first | (rw [hc _ _ (by omega)]; assumption) | (rw [hf _ _ (by omega)]; assumption) | omega

theorem Three.drew {n : Nat} {x1 y1 x2 y2 : Int} {W : World} (h : Three n x1 y1 x2 y2 W) (k : Nat) : Three n x1 y1 x2 y2 (W.drewN k) := by
  obtain ⟨⟨c0, c1, c2⟩, ⟨d0, d1, d2⟩, ⟨r0, r1, r2⟩, ⟨f0, f1, f2⟩, hz⟩ := h
  refine ⟨⟨?_, ?_, ?_⟩, ⟨?_, ?_, ?_⟩, ⟨?_, ?_, ?_⟩, ⟨?_, ?_, ?_⟩, ?_⟩
  all_goals (simp [go_sem]; assumption)

set_option maxRecDepth 100000 in
set_option maxHeartbeats 8000000 in
theorem plus_same (x1 y1 : F) (hn : y1 ≠ -y1) (w : World) : Calls Tryd.prog 140 #[.agg #[.int .u64 (vz x1), .int .u64 (vz y1), .bool false], .agg #[.int .u64 (vz x1), .int .u64 (vz y1), .bool false]] w (Ret w (vp (addE (some (x1, y1)) (some (x1, y1))))) := by
  rw [addE_some, if_neg (fun h => hn (Prod.mk.inj h).2)]
  have m := minus_of x1 y1
  have e1 : (vz y1 == vz (-y1)) = false := by
    rw [beq_eq_false_iff_ne]
    intro h
    exact hn (vz_inj h)
  clear hn
  rw [plus_val x1 y1 x1 y1 _ (slope_same x1 y1)]
  obtain ⟨L, hL⟩ : ∃ L, L = (zf 3 * (x1 * x1) + zf 1) * inv (y1 + y1) := ⟨_, rfl⟩
  rw [← hL]
  obtain ⟨X, hX⟩ : ∃ X, X = L * L - (x1 + x1) := ⟨_, rfl⟩
  rw [← hX]
  go_enter Tryd.func140, Tryd.ntmps140
  go_wp2_with fail
  (refine wp_region_later (by kernel_rfl) (by kernel_rfl) ?_; (repeat (go_big_quiet_step ((go_at_call 122; exact lq (m _))))); refine wpQuiet_nil ?_; intro w' hB)
  obtain ⟨⟨c0, c1, c2⟩, ⟨d0, d1, d2⟩, ⟨r0, r1, r2⟩, ⟨f0, f1, f2⟩, hz, hB0⟩ := boxes3 hB
  clear hB m
  go_wp2_with fail
  go_quiet ((go_at_call 144; exact qs (sub_calls _ _ (vz_nonneg _) (vz_nonneg _) _)))
  go_wp2_with fail
  go_quiet ((first
    | (go_at_call 113; exact qa (mul_calls _ _ (by first | with_reducible exact vz_nonneg _ | with_reducible assumption | decide) (by first | with_reducible exact vz_nonneg _ | with_reducible assumption | decide) _))
    | (go_at_call 112; exact qa (add_calls _ _ (by first | with_reducible exact vz_nonneg _ | with_reducible assumption | decide) (by first | with_reducible exact vz_nonneg _ | with_reducible assumption | decide) _))))
  go_wp2_with fail
  refine (inv_calls _ (vz_nonneg _) _).mono ?_
  rintro e w2 ⟨rfl, hB2⟩
  have hB3 : Below w.heap.size w w2 := by clear c0 c1 c2 d0 d1 d2 r0 r1 r2 f0 f1 f2; exact (by repeat (first | assumption | exact Below.refl _ _ | refine Below.setCell ?_ (by first | exact Nat.le_refl _ | (simp; done) | omega | (simp; omega)) _ | refine Below.alloc ?_ (by first | exact Nat.le_refl _ | (simp; done) | omega | (simp; omega)) _ | refine below_drewN ?_ _ | refine Below.drew ?_ | refine Below.on (by assumption) ?_ | refine Below.via (by assumption) (by first | exact Nat.le_refl _ | (simp; done) | omega | (simp; omega)) ?_))
  obtain ⟨⟨a0, a1, a2⟩, ⟨b0, b1, b2⟩, ⟨s0, s1, s2⟩, ⟨g0, g1, g2⟩, hz2⟩ := (Three.drew (n := w.heap.size) ⟨⟨c0, c1, c2⟩, ⟨d0, d1, d2⟩, ⟨r0, r1, r2⟩, ⟨f0, f1, f2⟩, hz⟩ _).on hB2
  clear hB2 c0 c1 c2 d0 d1 d2 r0 r1 r2 f0 f1 f2 hB0 hz
  go_wp2_with fail
  refine (mul_calls _ _ (by first | with_reducible exact vz_nonneg _ | with_reducible assumption | decide) (by first | with_reducible exact vz_nonneg _ | with_reducible assumption | decide) _).mono ?_
  rintro e w' ⟨rfl, rfl⟩
  go_wp2_with fail
  go_quiet ((first
    | (go_at_call 113; exact qs (mul_calls _ _ (by first | with_reducible exact vz_nonneg _ | with_reducible assumption | decide) (by first | with_reducible exact vz_nonneg _ | with_reducible assumption | decide) _))
    | (go_at_call 112; exact qs (add_calls _ _ (by first | with_reducible exact vz_nonneg _ | with_reducible assumption | decide) (by first | with_reducible exact vz_nonneg _ | with_reducible assumption | decide) _))
    | (go_at_call 144; exact qs (sub_calls _ _ (by first | with_reducible exact vz_nonneg _ | with_reducible assumption | decide) (by first | with_reducible exact vz_nonneg _ | with_reducible assumption | decide) _))))
  go_wp2_with fail
  simp only [zf_vz]
  rw [← hL, ← hX]
  go_region_held3 (fun W => W.cell? ⟨w.heap.size, 0, none⟩ = some (.int .u64 (vz x1)) ∧ W.cell? ⟨w.heap.size, 1, none⟩ = some (.int .u64 (vz y1))) (simp [go_sem, a0, a1]) ((first
    | (go_at_call 113; refine (mul_calls _ _ (by first | with_reducible exact vz_nonneg _ | with_reducible assumption | decide) (by first | with_reducible exact vz_nonneg _ | with_reducible assumption | decide) _).mono ?_; rintro e w' ⟨rfl, rfl⟩; simp only [zf_vz])
    | (go_at_call 144; refine (sub_calls _ _ (by first | with_reducible exact vz_nonneg _ | with_reducible assumption | decide) (by first | with_reducible exact vz_nonneg _ | with_reducible assumption | decide) _).mono ?_; rintro e w' ⟨rfl, rfl⟩; simp only [zf_vz])))
  all_goals go_wp2_with fail
  subst hX hL
  exact bodyPost_ret (v := vp (some _)) (by simp (maxDischargeDepth := 9) [results, Tryd.results140, go_sem, vp, v2, *]) rfl ⟨rfl, (by repeat (first | assumption | exact Below.refl _ _ | refine Below.setCell ?_ (by first | exact Nat.le_refl _ | (simp; done) | omega | (simp; omega)) _ | refine Below.alloc ?_ (by first | exact Nat.le_refl _ | (simp; done) | omega | (simp; omega)) _ | refine below_drewN ?_ _ | refine Below.drew ?_ | refine Below.on (by assumption) ?_ | refine Below.via (by assumption) (by first | exact Nat.le_refl _ | (simp; done) | omega | (simp; omega)) ?_))⟩

set_option maxRecDepth 100000 in
set_option maxHeartbeats 8000000 in
theorem plus_over (x1 y1 x2 y2 : F) (h1 : x1 ≠ x2) (w : World) : Calls Tryd.prog 140 #[.agg #[.int .u64 (vz x1), .int .u64 (vz y1), .bool false], .agg #[.int .u64 (vz x2), .int .u64 (vz y2), .bool false]] w (Ret w (vp (addE (some (x1, y1)) (some (x2, y2))))) := by
  rw [addE_some, if_neg (fun h => h1 (Prod.mk.inj h).1.symm), plus_val x1 y1 x2 y2 _ (slope_else (fun h => h1 (Prod.mk.inj h).1))]
  have m := minus_of x2 y2
  have e1 : (vz x1 == vz x2) = false := by
    rw [beq_eq_false_iff_ne]
    intro h
    exact h1 (vz_inj h)
  clear h1
  obtain ⟨L, hL⟩ : ∃ L, L = (y2 - y1) * inv (x2 - x1) := ⟨_, rfl⟩
  rw [← hL]
  obtain ⟨X, hX⟩ : ∃ X, X = L * L - (x1 + x2) := ⟨_, rfl⟩
  rw [← hX]
  go_enter Tryd.func140, Tryd.ntmps140
  go_wp2_with fail
  (refine wp_region_later (by kernel_rfl) (by kernel_rfl) ?_; (repeat (go_big_quiet_step ((go_at_call 122; exact lq (m _))))); refine wpQuiet_nil ?_; intro w' hB)
  obtain ⟨⟨c0, c1, c2⟩, ⟨d0, d1, d2⟩, ⟨r0, r1, r2⟩, ⟨f0, f1, f2⟩, hz, hB0⟩ := boxes3 hB
  clear hB m
  go_wp2_with fail
  go_quiet ((go_at_call 144; exact qs (sub_calls _ _ (vz_nonneg _) (vz_nonneg _) _)))
  go_wp2_with fail
  refine (inv_calls _ (vz_nonneg _) _).mono ?_
  rintro e w2 ⟨rfl, hB2⟩
  have hB3 : Below w.heap.size w w2 := by clear c0 c1 c2 d0 d1 d2 r0 r1 r2 f0 f1 f2; exact (by repeat (first | assumption | exact Below.refl _ _ | refine Below.setCell ?_ (by first | exact Nat.le_refl _ | (simp; done) | omega | (simp; omega)) _ | refine Below.alloc ?_ (by first | exact Nat.le_refl _ | (simp; done) | omega | (simp; omega)) _ | refine below_drewN ?_ _ | refine Below.drew ?_ | refine Below.on (by assumption) ?_ | refine Below.via (by assumption) (by first | exact Nat.le_refl _ | (simp; done) | omega | (simp; omega)) ?_))
  obtain ⟨⟨a0, a1, a2⟩, ⟨b0, b1, b2⟩, ⟨s0, s1, s2⟩, ⟨g0, g1, g2⟩, hz2⟩ := (Three.drew (n := w.heap.size) ⟨⟨c0, c1, c2⟩, ⟨d0, d1, d2⟩, ⟨r0, r1, r2⟩, ⟨f0, f1, f2⟩, hz⟩ _).on hB2
  clear hB2 c0 c1 c2 d0 d1 d2 r0 r1 r2 f0 f1 f2 hB0 hz
  go_wp2_with fail
  refine (mul_calls _ _ (by first | with_reducible exact vz_nonneg _ | with_reducible assumption | decide) (by first | with_reducible exact vz_nonneg _ | with_reducible assumption | decide) _).mono ?_
  rintro e w' ⟨rfl, rfl⟩
  go_wp2_with fail
  go_quiet ((first
    | (go_at_call 113; exact qs (mul_calls _ _ (by first | with_reducible exact vz_nonneg _ | with_reducible assumption | decide) (by first | with_reducible exact vz_nonneg _ | with_reducible assumption | decide) _))
    | (go_at_call 112; exact qs (add_calls _ _ (by first | with_reducible exact vz_nonneg _ | with_reducible assumption | decide) (by first | with_reducible exact vz_nonneg _ | with_reducible assumption | decide) _))
    | (go_at_call 144; exact qs (sub_calls _ _ (by first | with_reducible exact vz_nonneg _ | with_reducible assumption | decide) (by first | with_reducible exact vz_nonneg _ | with_reducible assumption | decide) _))))
  go_wp2_with fail
  simp only [zf_vz]
  rw [← hL, ← hX]
  go_region_held3 (fun W => W.cell? ⟨w.heap.size, 0, none⟩ = some (.int .u64 (vz x1)) ∧ W.cell? ⟨w.heap.size, 1, none⟩ = some (.int .u64 (vz y1))) (simp [go_sem, a0, a1]) ((first
    | (go_at_call 113; refine (mul_calls _ _ (by first | with_reducible exact vz_nonneg _ | with_reducible assumption | decide) (by first | with_reducible exact vz_nonneg _ | with_reducible assumption | decide) _).mono ?_; rintro e w' ⟨rfl, rfl⟩; simp only [zf_vz])
    | (go_at_call 144; refine (sub_calls _ _ (by first | with_reducible exact vz_nonneg _ | with_reducible assumption | decide) (by first | with_reducible exact vz_nonneg _ | with_reducible assumption | decide) _).mono ?_; rintro e w' ⟨rfl, rfl⟩; simp only [zf_vz])))
  all_goals go_wp2_with fail
  subst hX hL
  exact bodyPost_ret (v := vp (some _)) (by simp (maxDischargeDepth := 9) [results, Tryd.results140, go_sem, vp, v2, *]) rfl ⟨rfl, (by repeat (first | assumption | exact Below.refl _ _ | refine Below.setCell ?_ (by first | exact Nat.le_refl _ | (simp; done) | omega | (simp; omega)) _ | refine Below.alloc ?_ (by first | exact Nat.le_refl _ | (simp; done) | omega | (simp; omega)) _ | refine below_drewN ?_ _ | refine Below.drew ?_ | refine Below.on (by assumption) ?_ | refine Below.via (by assumption) (by first | exact Nat.le_refl _ | (simp; done) | omega | (simp; omega)) ?_))⟩
set_option maxRecDepth 100000 in
set_option maxHeartbeats 8000000 in
theorem plus_above (x2 y1 y2 : F) (h1 : y1 ≠ -y2) (h2 : y1 ≠ y2) (w : World) : Calls Tryd.prog 140 #[.agg #[.int .u64 (vz x2), .int .u64 (vz y1), .bool false], .agg #[.int .u64 (vz x2), .int .u64 (vz y2), .bool false]] w (Ret w (vp (addE (some (x2, y1)) (some (x2, y2))))) := by
  have h3 : y2 ≠ -y1 := fun h => h1 (by rw [h]; clear h h1 h2; grind -lia -linarith)
  rw [addE_some, if_neg (fun h => h3 (Prod.mk.inj h).2), plus_val x2 y1 x2 y2 _ (slope_else (fun h => h2 (Prod.mk.inj h).2))]
  have m := minus_of x2 y2
  have e1 : (vz y1 == vz (-y2)) = false := by
    rw [beq_eq_false_iff_ne]
    intro h
    exact h1 (vz_inj h)
  have e2 : (vz y1 == vz y2) = false := by
    rw [beq_eq_false_iff_ne]
    intro h
    exact h2 (vz_inj h)
  clear h1 h2 h3
  rw [show x2 - x2 = 0 from by grind -lia -linarith]
  obtain ⟨L, hL⟩ : ∃ L, L = (y2 - y1) * inv 0 := ⟨_, rfl⟩
  rw [← hL]
  obtain ⟨X, hX⟩ : ∃ X, X = L * L - (x2 + x2) := ⟨_, rfl⟩
  rw [← hX]
  go_enter Tryd.func140, Tryd.ntmps140
  go_wp2_with fail
  (refine wp_region_later (by kernel_rfl) (by kernel_rfl) ?_; (repeat (go_big_quiet_step ((go_at_call 122; exact lq (m _))))); refine wpQuiet_nil ?_; intro w' hB)
  obtain ⟨⟨c0, c1, c2⟩, ⟨d0, d1, d2⟩, ⟨r0, r1, r2⟩, ⟨f0, f1, f2⟩, hz, hB0⟩ := boxes3 hB
  clear hB m
  go_wp2_with fail
  go_quiet ((go_at_call 144; exact qs (sub_calls _ _ (vz_nonneg _) (vz_nonneg _) _)))
  go_wp2_with fail
  refine (inv_calls _ (vz_nonneg _) _).mono ?_
  rintro e w2 ⟨rfl, hB2⟩
  have hB3 : Below w.heap.size w w2 := by clear c0 c1 c2 d0 d1 d2 r0 r1 r2 f0 f1 f2; exact (by repeat (first | assumption | exact Below.refl _ _ | refine Below.setCell ?_ (by first | exact Nat.le_refl _ | (simp; done) | omega | (simp; omega)) _ | refine Below.alloc ?_ (by first | exact Nat.le_refl _ | (simp; done) | omega | (simp; omega)) _ | refine below_drewN ?_ _ | refine Below.drew ?_ | refine Below.on (by assumption) ?_ | refine Below.via (by assumption) (by first | exact Nat.le_refl _ | (simp; done) | omega | (simp; omega)) ?_))
  obtain ⟨⟨a0, a1, a2⟩, ⟨b0, b1, b2⟩, ⟨s0, s1, s2⟩, ⟨g0, g1, g2⟩, hz2⟩ := (Three.drew (n := w.heap.size) ⟨⟨c0, c1, c2⟩, ⟨d0, d1, d2⟩, ⟨r0, r1, r2⟩, ⟨f0, f1, f2⟩, hz⟩ _).on hB2
  clear hB2 c0 c1 c2 d0 d1 d2 r0 r1 r2 f0 f1 f2 hB0 hz
  go_wp2_with fail
  refine (mul_calls _ _ (by first | with_reducible exact vz_nonneg _ | with_reducible assumption | decide) (by first | with_reducible exact vz_nonneg _ | with_reducible assumption | decide) _).mono ?_
  rintro e w' ⟨rfl, rfl⟩
  go_wp2_with fail
  go_quiet ((first
    | (go_at_call 113; exact qs (mul_calls _ _ (by first | with_reducible exact vz_nonneg _ | with_reducible assumption | decide) (by first | with_reducible exact vz_nonneg _ | with_reducible assumption | decide) _))
    | (go_at_call 112; exact qs (add_calls _ _ (by first | with_reducible exact vz_nonneg _ | with_reducible assumption | decide) (by first | with_reducible exact vz_nonneg _ | with_reducible assumption | decide) _))
    | (go_at_call 144; exact qs (sub_calls _ _ (by first | with_reducible exact vz_nonneg _ | with_reducible assumption | decide) (by first | with_reducible exact vz_nonneg _ | with_reducible assumption | decide) _))))
  go_wp2_with fail
  simp only [zf_vz]
  rw [← hL, ← hX]
  go_region_held3 (fun W => W.cell? ⟨w.heap.size, 0, none⟩ = some (.int .u64 (vz x2)) ∧ W.cell? ⟨w.heap.size, 1, none⟩ = some (.int .u64 (vz y1))) (simp [go_sem, a0, a1]) ((first
    | (go_at_call 113; refine (mul_calls _ _ (by first | with_reducible exact vz_nonneg _ | with_reducible assumption | decide) (by first | with_reducible exact vz_nonneg _ | with_reducible assumption | decide) _).mono ?_; rintro e w' ⟨rfl, rfl⟩; simp only [zf_vz])
    | (go_at_call 144; refine (sub_calls _ _ (by first | with_reducible exact vz_nonneg _ | with_reducible assumption | decide) (by first | with_reducible exact vz_nonneg _ | with_reducible assumption | decide) _).mono ?_; rintro e w' ⟨rfl, rfl⟩; simp only [zf_vz])))
  all_goals go_wp2_with fail
  subst hX hL
  exact bodyPost_ret (v := vp (some _)) (by simp (maxDischargeDepth := 9) [results, Tryd.results140, go_sem, vp, v2, *]) rfl ⟨rfl, (by repeat (first | assumption | exact Below.refl _ _ | refine Below.setCell ?_ (by first | exact Nat.le_refl _ | (simp; done) | omega | (simp; omega)) _ | refine Below.alloc ?_ (by first | exact Nat.le_refl _ | (simp; done) | omega | (simp; omega)) _ | refine below_drewN ?_ _ | refine Below.drew ?_ | refine Below.on (by assumption) ?_ | refine Below.via (by assumption) (by first | exact Nat.le_refl _ | (simp; done) | omega | (simp; omega)) ?_))⟩
end Go.Proofs.YtpmmjomejackkaaDoor
end
section
set_option linter.unusedSimpArgs false
set_option linter.unusedVariables false
namespace Go.Proofs.YtpmmjomejackkaaDoor
open BigFrame Go.RowKit Go.Phx Go.Shelf
attribute [local go_sem] Oper.semAt_some

set_option maxRecDepth 100000 in
set_option maxHeartbeats 4000000 in
theorem plus_none (x y : Int) (i : Bool) (w : World) : Calls Tryd.prog 140 #[.agg #[.int .u64 0, .int .u64 0, .bool true], .agg #[.int .u64 x, .int .u64 y, .bool i]] w (Ret w (.agg #[.int .u64 x, .int .u64 y, .bool i])) := by
  go_enter Tryd.func140, Tryd.ntmps140
  go_wp2_with fail
  exact bodyPost_ret (v := .agg #[.int .u64 x, .int .u64 y, .bool i]) (by simp (maxDischargeDepth := 9) [results, Tryd.results140, go_sem, vp, v2, *]) rfl ⟨rfl, (by repeat (first | assumption | exact Below.refl _ _ | refine Below.setCell ?_ (by first | exact Nat.le_refl _ | (simp; done) | omega | (simp; omega)) _ | refine Below.alloc ?_ (by first | exact Nat.le_refl _ | (simp; done) | omega | (simp; omega)) _ | refine below_drewN ?_ _ | refine Below.drew ?_ | refine Below.on (by assumption) ?_ | refine Below.via (by assumption) (by first | exact Nat.le_refl _ | (simp; done) | omega | (simp; omega)) ?_))⟩
set_option maxRecDepth 100000 in
set_option maxHeartbeats 4000000 in
theorem plus_other (x y : Int) (w : World) : Calls Tryd.prog 140 #[.agg #[.int .u64 x, .int .u64 y, .bool false], .agg #[.int .u64 0, .int .u64 0, .bool true]] w (Ret w (.agg #[.int .u64 x, .int .u64 y, .bool false])) := by
  go_enter Tryd.func140, Tryd.ntmps140
  go_wp2_with fail
  exact bodyPost_ret (v := .agg #[.int .u64 x, .int .u64 y, .bool false]) (by simp (maxDischargeDepth := 9) [results, Tryd.results140, go_sem, vp, v2, *]) rfl ⟨rfl, (by repeat (first | assumption | exact Below.refl _ _ | refine Below.setCell ?_ (by first | exact Nat.le_refl _ | (simp; done) | omega | (simp; omega)) _ | refine Below.alloc ?_ (by first | exact Nat.le_refl _ | (simp; done) | omega | (simp; omega)) _ | refine below_drewN ?_ _ | refine Below.drew ?_ | refine Below.on (by assumption) ?_ | refine Below.via (by assumption) (by first | exact Nat.le_refl _ | (simp; done) | omega | (simp; omega)) ?_))⟩

theorem plus_calls (p q : E) (w : World) : Calls Tryd.prog 140 #[vp p, vp q] w (Ret w (vp (addE p q))) := by
  rcases p with _ | ⟨x1, y1⟩
  · rcases q with _ | ⟨x2, y2⟩
    · exact plus_none 0 0 true w
    · exact plus_none (vz x2) (vz y2) false w
  · rcases q with _ | ⟨x2, y2⟩
    · exact plus_other (vz x1) (vz y1) w
    · by_cases h1 : x1 = x2
      · subst h1
        by_cases h2 : y1 = -y2
        · have h3 : y2 = -y1 := by rw [h2]; grind -lia -linarith
          rw [addE_some, if_pos (by rw [← h3]), h3]
          exact plus_neg x1 y1 w
        · by_cases h3 : y1 = y2
          · subst h3
            exact plus_same x1 y1 h2 w
          · exact plus_above x1 y1 y2 h2 h3 w
      · exact plus_over x1 y1 x2 y2 h1 w
end Go.Proofs.YtpmmjomejackkaaDoor
end
section
set_option linter.unusedSimpArgs false
set_option linter.unusedVariables false
namespace Go.Proofs.YtpmmjomejackkaaDoor
open BigFrame Go.RowKit Go.Phx Go.Shelf
attribute [local go_sem] Oper.semAt_some

set_option maxRecDepth 100000 in
set_option maxHeartbeats 4000000 in
theorem rslope_same (x1 y1 : F) (w : World) : Calls Tryd.prog 142 #[.agg #[.int .u64 (vz x1), .int .u64 (vz y1), .bool false], .agg #[.int .u64 (vz x1), .int .u64 (vz y1), .bool false]] w (Ret w (.int .u64 (vz (slopeE (x1, y1) (x1, y1))))) := by
  have r1 : (zf 3 * (x1 * x1) + zf 1) * inv (zf 2 * y1) = slopeE (x1, y1) (x1, y1) := by
    unfold slopeE
    rw [if_pos rfl]
    rfl
  have r2 := True.intro
  have r3 := True.intro
  go_enter Tryd.func142, Tryd.ntmps142
  go_wp2_with fail
  (refine wp_region_later (by kernel_rfl) (by kernel_rfl) ?_; (repeat (go_big_quiet_step ((first
    | (go_at_call 81; exact lw (rmul_calls _ _ (by first | with_reducible exact vz_nonneg _ | with_reducible assumption | decide) (by first | with_reducible exact vz_nonneg _ | with_reducible assumption | decide) _))
    | (go_at_call 126; exact lw (rsub_calls _ _ (by first | with_reducible exact vz_nonneg _ | with_reducible assumption | decide) (by first | with_reducible exact vz_nonneg _ | with_reducible assumption | decide) _))
    | (go_at_call 80; exact lw (radd_calls _ _ (by first | with_reducible exact vz_nonneg _ | with_reducible assumption | decide) (by first | with_reducible exact vz_nonneg _ | with_reducible assumption | decide) _))
    | (go_at_call 157; exact lw (rinv_calls _ (by first | with_reducible exact vz_nonneg _ | with_reducible assumption | decide) _)))))); refine wpQuiet_nil ?_; intro w' hB)
  go_wp2_with fail
  simp only [zf_vz, r1, r2, r3]
  go_ret
  exact ⟨rfl, (by repeat (first | assumption | exact Below.refl _ _ | refine Below.setCell ?_ (by first | exact Nat.le_refl _ | (simp; done) | omega | (simp; omega)) _ | refine Below.alloc ?_ (by first | exact Nat.le_refl _ | (simp; done) | omega | (simp; omega)) _ | refine below_drewN ?_ _ | refine Below.drew ?_ | refine Below.on (by assumption) ?_ | refine Below.via (by assumption) (by first | exact Nat.le_refl _ | (simp; done) | omega | (simp; omega)) ?_))⟩
set_option maxRecDepth 100000 in
set_option maxHeartbeats 4000000 in
theorem rslope_over (x1 y1 x2 y2 : F) (h1 : x1 ≠ x2) (w : World) : Calls Tryd.prog 142 #[.agg #[.int .u64 (vz x1), .int .u64 (vz y1), .bool false], .agg #[.int .u64 (vz x2), .int .u64 (vz y2), .bool false]] w (Ret w (.int .u64 (vz (slopeE (x1, y1) (x2, y2))))) := by
  have r1 := slope_else (fun h => h1 (Prod.mk.inj h).1 : ¬ (x1, y1) = (x2, y2))
  have r2 := True.intro
  have r3 := True.intro
  have e1 : (vz x1 == vz x2) = false := by
    rw [beq_eq_false_iff_ne]
    intro h
    exact h1 (vz_inj h)
  clear h1
  go_enter Tryd.func142, Tryd.ntmps142
  go_wp2_with fail
  (refine wp_region_later (by kernel_rfl) (by kernel_rfl) ?_; (repeat (go_big_quiet_step ((first
    | (go_at_call 81; exact lw (rmul_calls _ _ (by first | with_reducible exact vz_nonneg _ | with_reducible assumption | decide) (by first | with_reducible exact vz_nonneg _ | with_reducible assumption | decide) _))
    | (go_at_call 126; exact lw (rsub_calls _ _ (by first | with_reducible exact vz_nonneg _ | with_reducible assumption | decide) (by first | with_reducible exact vz_nonneg _ | with_reducible assumption | decide) _))
    | (go_at_call 80; exact lw (radd_calls _ _ (by first | with_reducible exact vz_nonneg _ | with_reducible assumption | decide) (by first | with_reducible exact vz_nonneg _ | with_reducible assumption | decide) _))
    | (go_at_call 157; exact lw (rinv_calls _ (by first | with_reducible exact vz_nonneg _ | with_reducible assumption | decide) _)))))); refine wpQuiet_nil ?_; intro w' hB)
  go_wp2_with fail
  simp only [zf_vz, r1, r2, r3]
  go_ret
  exact ⟨rfl, (by repeat (first | assumption | exact Below.refl _ _ | refine Below.setCell ?_ (by first | exact Nat.le_refl _ | (simp; done) | omega | (simp; omega)) _ | refine Below.alloc ?_ (by first | exact Nat.le_refl _ | (simp; done) | omega | (simp; omega)) _ | refine below_drewN ?_ _ | refine Below.drew ?_ | refine Below.on (by assumption) ?_ | refine Below.via (by assumption) (by first | exact Nat.le_refl _ | (simp; done) | omega | (simp; omega)) ?_))⟩
set_option maxRecDepth 100000 in
set_option maxHeartbeats 4000000 in
theorem rslope_above (x2 y1 y2 : F) (h1 : y1 ≠ y2) (w : World) : Calls Tryd.prog 142 #[.agg #[.int .u64 (vz x2), .int .u64 (vz y1), .bool false], .agg #[.int .u64 (vz x2), .int .u64 (vz y2), .bool false]] w (Ret w (.int .u64 (vz (slopeE (x2, y1) (x2, y2))))) := by
  have r1 := slope_else (fun h => h1 (Prod.mk.inj h).2 : ¬ (x2, y1) = (x2, y2))
  have r2 : x2 - x2 = 0 := by grind -lia -linarith
  have r3 : (y2 - y1) * inv 0 = slopeE (x2, y1) (x2, y2) := by rw [← r1, r2]
  have e1 : (vz y1 == vz y2) = false := by
    rw [beq_eq_false_iff_ne]
    intro h
    exact h1 (vz_inj h)
  clear h1
  go_enter Tryd.func142, Tryd.ntmps142
  go_wp2_with fail
  (refine wp_region_later (by kernel_rfl) (by kernel_rfl) ?_; (repeat (go_big_quiet_step ((first
    | (go_at_call 81; exact lw (rmul_calls _ _ (by first | with_reducible exact vz_nonneg _ | with_reducible assumption | decide) (by first | with_reducible exact vz_nonneg _ | with_reducible assumption | decide) _))
    | (go_at_call 126; exact lw (rsub_calls _ _ (by first | with_reducible exact vz_nonneg _ | with_reducible assumption | decide) (by first | with_reducible exact vz_nonneg _ | with_reducible assumption | decide) _))
    | (go_at_call 80; exact lw (radd_calls _ _ (by first | with_reducible exact vz_nonneg _ | with_reducible assumption | decide) (by first | with_reducible exact vz_nonneg _ | with_reducible assumption | decide) _))
    | (go_at_call 157; exact lw (rinv_calls _ (by first | with_reducible exact vz_nonneg _ | with_reducible assumption | decide) _)))))); refine wpQuiet_nil ?_; intro w' hB)
  go_wp2_with fail
  simp only [zf_vz, r1, r2, r3]
  go_ret
  exact ⟨rfl, (by repeat (first | assumption | exact Below.refl _ _ | refine Below.setCell ?_ (by first | exact Nat.le_refl _ | (simp; done) | omega | (simp; omega)) _ | refine Below.alloc ?_ (by first | exact Nat.le_refl _ | (simp; done) | omega | (simp; omega)) _ | refine below_drewN ?_ _ | refine Below.drew ?_ | refine Below.on (by assumption) ?_ | refine Below.via (by assumption) (by first | exact Nat.le_refl _ | (simp; done) | omega | (simp; omega)) ?_))⟩
theorem rslope_calls (x1 y1 x2 y2 : F) (w : World) : Calls Tryd.prog 142 #[.agg #[.int .u64 (vz x1), .int .u64 (vz y1), .bool false], .agg #[.int .u64 (vz x2), .int .u64 (vz y2), .bool false]] w (Ret w (.int .u64 (vz (slopeE (x1, y1) (x2, y2))))) := by
  by_cases h1 : x1 = x2
  · subst h1
    by_cases h2 : y1 = y2
    · subst h2
      exact rslope_same x1 y1 w
    · exact rslope_above x1 y1 y2 h2 w
  · exact rslope_over x1 y1 x2 y2 h1 w
end Go.Proofs.YtpmmjomejackkaaDoor
end
