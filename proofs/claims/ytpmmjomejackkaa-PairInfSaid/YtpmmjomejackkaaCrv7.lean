/- Sums of points, by the reference: two points, neither none. -/
import Derived.Test.YtpmmjomejackkaaCrv6
import Derived.Test.YtpmmjomejackkaaLater
set_option linter.unusedSimpArgs false
set_option linter.unusedVariables false
namespace Go.Proofs.Ytpmmjomejackkaa
open BigFrame Go.RowKit Go.Phx Go.Shelf
attribute [local go_sem] Oper.semAt_some

theorem rminus_of (x y : F) : ∀ w, Calls Try.prog 70 #[.agg #[.int .u64 (vz x), .int .u64 (vz y), .bool false]] w (Ret w (.agg #[.int .u64 (vz x), .int .u64 (vz (-y)), .bool false])) := fun w => rminus_vp (some (x, y)) w

set_option maxRecDepth 100000 in
set_option maxHeartbeats 8000000 in
theorem rplus_neg (x1 y1 : F) (w : World) : Calls Try.prog 68 #[.agg #[.int .u64 (vz x1), .int .u64 (vz y1), .bool false], .agg #[.int .u64 (vz x1), .int .u64 (vz (-y1)), .bool false]] w (Ret w (vp none)) := by
  have m := rminus_of x1 y1
  go_enter Try.func68, Try.ntmps68
  go_wp2_with fail
  (refine wp_region_later (by kernel_rfl) (by kernel_rfl) ?_; (repeat (go_big_quiet_step ((go_at_call 70; exact lq (m _))))); refine wpQuiet_nil ?_; intro w' hB)
  obtain ⟨⟨c0, c1, c2⟩, ⟨d0, d1, d2⟩, ⟨r0, r1, r2⟩, ⟨f0, f1, f2⟩, hz, hB0⟩ := boxes3 hB
  clear hB m
  go_wp2_with fail
  refine (rnone_x _).mono ?_
  rintro e w2 ⟨rfl, hB2⟩
  have hB3 : Below w.heap.size w w2 := by clear c0 c1 c2 d0 d1 d2 r0 r1 r2 f0 f1 f2; exact (by repeat (first | assumption | exact Below.refl _ _ | refine Below.setCell ?_ (by first | exact Nat.le_refl _ | (simp; done) | omega | (simp; omega)) _ | refine Below.alloc ?_ (by first | exact Nat.le_refl _ | (simp; done) | omega | (simp; omega)) _ | refine below_drewN ?_ _ | refine Below.drew ?_ | refine Below.on (by assumption) ?_ | refine Below.via (by assumption) (by first | exact Nat.le_refl _ | (simp; done) | omega | (simp; omega)) ?_))
  obtain ⟨⟨a0, a1, a2⟩, ⟨b0, b1, b2⟩, ⟨s0, s1, s2⟩, ⟨g0, g1, g2⟩, hz2⟩ := Three.on (n := w.heap.size) ⟨⟨c0, c1, c2⟩, ⟨d0, d1, d2⟩, ⟨r0, r1, r2⟩, ⟨f0, f1, f2⟩, hz⟩ hB2
  clear hB2 c0 c1 c2 d0 d1 d2 r0 r1 r2 f0 f1 f2 hB0 hz
  go_wp2_with fail
  exact bodyPost_ret (v := vp none) (by simp (maxDischargeDepth := 9) [results, Try.results68, go_sem, vp, v2, *]) rfl ⟨rfl, (by repeat (first | assumption | exact Below.refl _ _ | refine Below.setCell ?_ (by first | exact Nat.le_refl _ | (simp; done) | omega | (simp; omega)) _ | refine Below.alloc ?_ (by first | exact Nat.le_refl _ | (simp; done) | omega | (simp; omega)) _ | refine below_drewN ?_ _ | refine Below.drew ?_ | refine Below.on (by assumption) ?_ | refine Below.via (by assumption) (by first | exact Nat.le_refl _ | (simp; done) | omega | (simp; omega)) ?_))⟩
set_option maxRecDepth 100000 in
set_option maxHeartbeats 8000000 in
theorem rplus_none (x y : Int) (i : Bool) (w : World) : Calls Try.prog 68 #[.agg #[.int .u64 0, .int .u64 0, .bool true], .agg #[.int .u64 x, .int .u64 y, .bool i]] w (Ret w (.agg #[.int .u64 x, .int .u64 y, .bool i])) := by
  go_enter Try.func68, Try.ntmps68
  go_wp2_with fail
  exact bodyPost_ret (v := .agg #[.int .u64 x, .int .u64 y, .bool i]) (by simp (maxDischargeDepth := 9) [results, Try.results68, go_sem, vp, v2, *]) rfl ⟨rfl, (by repeat (first | assumption | exact Below.refl _ _ | refine Below.setCell ?_ (by first | exact Nat.le_refl _ | (simp; done) | omega | (simp; omega)) _ | refine Below.alloc ?_ (by first | exact Nat.le_refl _ | (simp; done) | omega | (simp; omega)) _ | refine below_drewN ?_ _ | refine Below.drew ?_ | refine Below.on (by assumption) ?_ | refine Below.via (by assumption) (by first | exact Nat.le_refl _ | (simp; done) | omega | (simp; omega)) ?_))⟩
set_option maxRecDepth 100000 in
set_option maxHeartbeats 8000000 in
theorem rplus_other (x y : Int) (w : World) : Calls Try.prog 68 #[.agg #[.int .u64 x, .int .u64 y, .bool false], .agg #[.int .u64 0, .int .u64 0, .bool true]] w (Ret w (.agg #[.int .u64 x, .int .u64 y, .bool false])) := by
  go_enter Try.func68, Try.ntmps68
  go_wp2_with fail
  exact bodyPost_ret (v := .agg #[.int .u64 x, .int .u64 y, .bool false]) (by simp (maxDischargeDepth := 9) [results, Try.results68, go_sem, vp, v2, *]) rfl ⟨rfl, (by repeat (first | assumption | exact Below.refl _ _ | refine Below.setCell ?_ (by first | exact Nat.le_refl _ | (simp; done) | omega | (simp; omega)) _ | refine Below.alloc ?_ (by first | exact Nat.le_refl _ | (simp; done) | omega | (simp; omega)) _ | refine below_drewN ?_ _ | refine Below.drew ?_ | refine Below.on (by assumption) ?_ | refine Below.via (by assumption) (by first | exact Nat.le_refl _ | (simp; done) | omega | (simp; omega)) ?_))⟩

set_option maxRecDepth 100000 in
set_option maxHeartbeats 8000000 in
theorem rplus_over (p q : F × F) (h1 : q.1 ≠ p.1) (w : World) : Calls Try.prog 68 #[.agg #[.int .u64 (vz p.1), .int .u64 (vz p.2), .bool false], .agg #[.int .u64 (vz q.1), .int .u64 (vz q.2), .bool false]] w (Ret w (vp (addE (some p) (some q)))) := by
  rw [addE_some, if_neg (show ¬ q = (p.1, -p.2) from fun h => h1 (by rw [h]))]
  have e1 : (vz q.1 == vz p.1) = false := by
    rw [beq_eq_false_iff_ne]
    intro h
    exact h1 (vz_inj h)
  clear h1
  obtain ⟨L, hL⟩ : ∃ L, L = slopeE p q := ⟨_, rfl⟩
  have S := rslope_calls p.1 p.2 q.1 q.2
  change ∀ w, Calls _ _ _ w (Ret w (.int .u64 (vz (slopeE p q)))) at S
  rw [← hL] at S ⊢
  clear hL
  obtain ⟨X, hX⟩ : ∃ X, L * L - p.1 - q.1 = X := ⟨_, rfl⟩
  rw [hX]
  have m := rminus_of p.1 p.2
  go_enter Try.func68, Try.ntmps68
  go_wp2_with fail
  (refine wp_region_later (by kernel_rfl) (by kernel_rfl) ?_; (repeat (go_big_quiet_step ((go_at_call 70; exact lq (m _))))); refine wpQuiet_nil ?_; intro w' hB)
  obtain ⟨⟨c0, c1, c2⟩, ⟨d0, d1, d2⟩, ⟨r0, r1, r2⟩, ⟨f0, f1, f2⟩, hz, hB0⟩ := boxes3 hB
  clear hB m
  go_wp2_with fail
  refine (S _).mono ?_
  rintro e w2 ⟨rfl, hB2⟩
  have hB3 : Below w.heap.size w w2 := by clear c0 c1 c2 d0 d1 d2 r0 r1 r2 f0 f1 f2; exact (by repeat (first | assumption | exact Below.refl _ _ | refine Below.setCell ?_ (by first | exact Nat.le_refl _ | (simp; done) | omega | (simp; omega)) _ | refine Below.alloc ?_ (by first | exact Nat.le_refl _ | (simp; done) | omega | (simp; omega)) _ | refine below_drewN ?_ _ | refine Below.drew ?_ | refine Below.on (by assumption) ?_ | refine Below.via (by assumption) (by first | exact Nat.le_refl _ | (simp; done) | omega | (simp; omega)) ?_))
  obtain ⟨⟨a0, a1, a2⟩, ⟨b0, b1, b2⟩, ⟨s0, s1, s2⟩, ⟨g0, g1, g2⟩, hz2⟩ := Three.on (n := w.heap.size) ⟨⟨c0, c1, c2⟩, ⟨d0, d1, d2⟩, ⟨r0, r1, r2⟩, ⟨f0, f1, f2⟩, hz⟩ hB2
  clear hB2 c0 c1 c2 d0 d1 d2 r0 r1 r2 f0 f1 f2 hB0 hz S
  go_wp2_with fail
  go_quiet ((first
    | (go_at_call 29; exact qs (rmul_calls _ _ (by first | with_reducible exact vz_nonneg _ | with_reducible assumption | decide) (by first | with_reducible exact vz_nonneg _ | with_reducible assumption | decide) _))
    | (go_at_call 28; exact qs (rsub_calls _ _ (by first | with_reducible exact vz_nonneg _ | with_reducible assumption | decide) (by first | with_reducible exact vz_nonneg _ | with_reducible assumption | decide) _))))
  go_wp2_with fail
  simp only [zf_vz, hX]
  go_quiet ((first
    | (go_at_call 29; exact qa (rmul_calls _ _ (by first | with_reducible exact vz_nonneg _ | with_reducible assumption | decide) (by first | with_reducible exact vz_nonneg _ | with_reducible assumption | decide) _))
    | (go_at_call 28; exact qa (rsub_calls _ _ (by first | with_reducible exact vz_nonneg _ | with_reducible assumption | decide) (by first | with_reducible exact vz_nonneg _ | with_reducible assumption | decide) _))))
  go_wp2_with fail
  simp only [zf_vz]
  exact bodyPost_ret (v := vp (some (X, L * (p.1 - X) - p.2))) (by simp (maxDischargeDepth := 9) [results, Try.results68, go_sem, vp, v2, *]) rfl ⟨rfl, (by repeat (first | assumption | exact Below.refl _ _ | refine Below.setCell ?_ (by first | exact Nat.le_refl _ | (simp; done) | omega | (simp; omega)) _ | refine Below.alloc ?_ (by first | exact Nat.le_refl _ | (simp; done) | omega | (simp; omega)) _ | refine below_drewN ?_ _ | refine Below.drew ?_ | refine Below.on (by assumption) ?_ | refine Below.via (by assumption) (by first | exact Nat.le_refl _ | (simp; done) | omega | (simp; omega)) ?_))⟩
set_option maxRecDepth 100000 in
set_option maxHeartbeats 8000000 in
theorem rplus_above (p q : F × F) (h1 : q.1 = p.1) (h2 : q.2 ≠ -p.2) (w : World) : Calls Try.prog 68 #[.agg #[.int .u64 (vz p.1), .int .u64 (vz p.2), .bool false], .agg #[.int .u64 (vz q.1), .int .u64 (vz q.2), .bool false]] w (Ret w (vp (addE (some p) (some q)))) := by
  rw [addE_some, if_neg (fun h : q = (p.1, -p.2) => h2 (congrArg Prod.snd h))]
  have e1 : (vz q.1 == vz p.1) = true := by rw [h1]; exact beq_self_eq_true _
  have e2 : (vz q.2 == vz (-p.2)) = false := by
    rw [beq_eq_false_iff_ne]
    intro h
    exact h2 (vz_inj h)
  clear h1 h2
  obtain ⟨L, hL⟩ : ∃ L, L = slopeE p q := ⟨_, rfl⟩
  have S := rslope_calls p.1 p.2 q.1 q.2
  change ∀ w, Calls _ _ _ w (Ret w (.int .u64 (vz (slopeE p q)))) at S
  rw [← hL] at S ⊢
  clear hL
  obtain ⟨X, hX⟩ : ∃ X, L * L - p.1 - q.1 = X := ⟨_, rfl⟩
  rw [hX]
  have m := rminus_of p.1 p.2
  go_enter Try.func68, Try.ntmps68
  go_wp2_with fail
  (refine wp_region_later (by kernel_rfl) (by kernel_rfl) ?_; (repeat (go_big_quiet_step ((go_at_call 70; exact lq (m _))))); refine wpQuiet_nil ?_; intro w' hB)
  obtain ⟨⟨c0, c1, c2⟩, ⟨d0, d1, d2⟩, ⟨r0, r1, r2⟩, ⟨f0, f1, f2⟩, hz, hB0⟩ := boxes3 hB
  clear hB m
  go_wp2_with fail
  refine (S _).mono ?_
  rintro e w2 ⟨rfl, hB2⟩
  have hB3 : Below w.heap.size w w2 := by clear c0 c1 c2 d0 d1 d2 r0 r1 r2 f0 f1 f2; exact (by repeat (first | assumption | exact Below.refl _ _ | refine Below.setCell ?_ (by first | exact Nat.le_refl _ | (simp; done) | omega | (simp; omega)) _ | refine Below.alloc ?_ (by first | exact Nat.le_refl _ | (simp; done) | omega | (simp; omega)) _ | refine below_drewN ?_ _ | refine Below.drew ?_ | refine Below.on (by assumption) ?_ | refine Below.via (by assumption) (by first | exact Nat.le_refl _ | (simp; done) | omega | (simp; omega)) ?_))
  obtain ⟨⟨a0, a1, a2⟩, ⟨b0, b1, b2⟩, ⟨s0, s1, s2⟩, ⟨g0, g1, g2⟩, hz2⟩ := Three.on (n := w.heap.size) ⟨⟨c0, c1, c2⟩, ⟨d0, d1, d2⟩, ⟨r0, r1, r2⟩, ⟨f0, f1, f2⟩, hz⟩ hB2
  clear hB2 c0 c1 c2 d0 d1 d2 r0 r1 r2 f0 f1 f2 hB0 hz S
  go_wp2_with fail
  go_quiet ((first
    | (go_at_call 29; exact qs (rmul_calls _ _ (by first | with_reducible exact vz_nonneg _ | with_reducible assumption | decide) (by first | with_reducible exact vz_nonneg _ | with_reducible assumption | decide) _))
    | (go_at_call 28; exact qs (rsub_calls _ _ (by first | with_reducible exact vz_nonneg _ | with_reducible assumption | decide) (by first | with_reducible exact vz_nonneg _ | with_reducible assumption | decide) _))))
  go_wp2_with fail
  simp only [zf_vz, hX]
  go_quiet ((first
    | (go_at_call 29; exact qa (rmul_calls _ _ (by first | with_reducible exact vz_nonneg _ | with_reducible assumption | decide) (by first | with_reducible exact vz_nonneg _ | with_reducible assumption | decide) _))
    | (go_at_call 28; exact qa (rsub_calls _ _ (by first | with_reducible exact vz_nonneg _ | with_reducible assumption | decide) (by first | with_reducible exact vz_nonneg _ | with_reducible assumption | decide) _))))
  go_wp2_with fail
  simp only [zf_vz]
  exact bodyPost_ret (v := vp (some (X, L * (p.1 - X) - p.2))) (by simp (maxDischargeDepth := 9) [results, Try.results68, go_sem, vp, v2, *]) rfl ⟨rfl, (by repeat (first | assumption | exact Below.refl _ _ | refine Below.setCell ?_ (by first | exact Nat.le_refl _ | (simp; done) | omega | (simp; omega)) _ | refine Below.alloc ?_ (by first | exact Nat.le_refl _ | (simp; done) | omega | (simp; omega)) _ | refine below_drewN ?_ _ | refine Below.drew ?_ | refine Below.on (by assumption) ?_ | refine Below.via (by assumption) (by first | exact Nat.le_refl _ | (simp; done) | omega | (simp; omega)) ?_))⟩

theorem rplus_calls (p q : E) (w : World) : Calls Try.prog 68 #[vp p, vp q] w (Ret w (vp (addE p q))) := by
  rcases p with _ | ⟨x1, y1⟩
  · rcases q with _ | ⟨x2, y2⟩
    · exact rplus_none 0 0 true w
    · exact rplus_none (vz x2) (vz y2) false w
  · rcases q with _ | ⟨x2, y2⟩
    · exact rplus_other (vz x1) (vz y1) w
    · by_cases h1 : x2 = x1
      · by_cases h2 : y2 = -y1
        · subst h1 h2
          rw [addE_some, if_pos rfl]
          exact rplus_neg x2 y1 w
        · exact rplus_above (x1, y1) (x2, y2) h1 h2 w
      · exact rplus_over (x1, y1) (x2, y2) h1 w
end Go.Proofs.Ytpmmjomejackkaa
