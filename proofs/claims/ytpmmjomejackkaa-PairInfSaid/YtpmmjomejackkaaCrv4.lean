/- Sums of points, by the curve's package: a point's double. -/
import Derived.Test.YtpmmjomejackkaaCrv3
import Derived.Test.YtpmmjomejackkaaLater
set_option linter.unusedSimpArgs false
set_option linter.unusedVariables false
namespace Go.Proofs.Ytpmmjomejackkaa
open BigFrame Go.RowKit Go.Phx Go.Shelf
attribute [local go_sem] Oper.semAt_some

/-- three points in cells of their own, and what came later -/
theorem boxes3 {x1 y1 x2 y2 x3 y3 : Int} {i1 i2 i3 : Bool} {t : TypeId} {w w' : World}
    (hB : Below (((w.alloc (.cells #[.int .u64 x1, .int .u64 y1, .bool i1] t)).alloc (.cells #[.int .u64 x2, .int .u64 y2, .bool i2] t)).alloc (.cells #[.int .u64 x3, .int .u64 y3, .bool i3] t)).heap.size
      (((w.alloc (.cells #[.int .u64 x1, .int .u64 y1, .bool i1] t)).alloc (.cells #[.int .u64 x2, .int .u64 y2, .bool i2] t)).alloc (.cells #[.int .u64 x3, .int .u64 y3, .bool i3] t)) w') :
    (w'.cell? ⟨w.heap.size, 0, none⟩ = some (.int .u64 x1) ∧ w'.cell? ⟨w.heap.size, 1, none⟩ = some (.int .u64 y1) ∧ w'.cell? ⟨w.heap.size, 2, none⟩ = some (.bool i1)) ∧
    (w'.cell? ⟨w.heap.size + 1, 0, none⟩ = some (.int .u64 x2) ∧ w'.cell? ⟨w.heap.size + 1, 1, none⟩ = some (.int .u64 y2) ∧ w'.cell? ⟨w.heap.size + 1, 2, none⟩ = some (.bool i2)) ∧
    (w'.cell? ⟨w.heap.size + 1 + 1, 0, none⟩ = some (.int .u64 x3) ∧ w'.cell? ⟨w.heap.size + 1 + 1, 1, none⟩ = some (.int .u64 y3) ∧ w'.cell? ⟨w.heap.size + 1 + 1, 2, none⟩ = some (.bool i3)) ∧
    (w'.frozen? ⟨w.heap.size + 1 + 1, 0, none⟩ = false ∧ w'.frozen? ⟨w.heap.size + 1 + 1, 1, none⟩ = false ∧ w'.frozen? ⟨w.heap.size + 1 + 1, 2, none⟩ = false) ∧
    w.heap.size + 1 + 1 < w'.heap.size ∧ Below w.heap.size w w' := by
  obtain ⟨hc, hf⟩ := bcell hB
  have hz := hB.size
  have hB0 : Below w.heap.size w w' := (by repeat (first | assumption | exact Below.refl _ _ | refine Below.setCell ?_ (by first | exact Nat.le_refl _ | (simp; done) | omega | (simp; omega)) _ | refine Below.alloc ?_ (by first | exact Nat.le_refl _ | (simp; done) | omega | (simp; omega)) _ | refine below_drewN ?_ _ | refine Below.drew ?_ | refine Below.on (by assumption) ?_ | refine Below.via (by assumption) (by first | exact Nat.le_refl _ | (simp; done) | omega | (simp; omega)) ?_))
  refine ⟨⟨?_, ?_, ?_⟩, ⟨?_, ?_, ?_⟩, ⟨?_, ?_, ?_⟩, ⟨?_, ?_, ?_⟩, ?_, hB0⟩
  all_goals first | (rw [hc _ _ (by first | (simp; done) | (simp; omega))]; simp [go_sem]; done) | (rw [hf _ _ (by first | (simp; done) | (simp; omega))]; simp [go_sem]; done) | (simp at hz; omega)

/-- two points in cells, and a third one, 0 -/
def Three (n : Nat) (x1 y1 x2 y2 : Int) (W : World) : Prop :=
  (W.cell? ⟨n, 0, none⟩ = some (.int .u64 x1) ∧ W.cell? ⟨n, 1, none⟩ = some (.int .u64 y1) ∧ W.cell? ⟨n, 2, none⟩ = some (.bool false)) ∧
  (W.cell? ⟨n + 1, 0, none⟩ = some (.int .u64 x2) ∧ W.cell? ⟨n + 1, 1, none⟩ = some (.int .u64 y2) ∧ W.cell? ⟨n + 1, 2, none⟩ = some (.bool false)) ∧
  (W.cell? ⟨n + 1 + 1, 0, none⟩ = some (.int .u64 0) ∧ W.cell? ⟨n + 1 + 1, 1, none⟩ = some (.int .u64 0) ∧ W.cell? ⟨n + 1 + 1, 2, none⟩ = some (.bool false)) ∧
  (W.frozen? ⟨n + 1 + 1, 0, none⟩ = false ∧ W.frozen? ⟨n + 1 + 1, 1, none⟩ = false ∧ W.frozen? ⟨n + 1 + 1, 2, none⟩ = false) ∧
  n + 1 + 1 < W.heap.size
theorem Three.on {n : Nat} {x1 y1 x2 y2 : Int} {W W2 : World} (h : Three n x1 y1 x2 y2 W) (hB : Below W.heap.size W W2) : Three n x1 y1 x2 y2 W2 := by
  obtain ⟨⟨c0, c1, c2⟩, ⟨d0, d1, d2⟩, ⟨r0, r1, r2⟩, ⟨f0, f1, f2⟩, hz⟩ := h
  obtain ⟨hc, hf⟩ := bcell hB
  have hz2 := hB.size
  refine ⟨⟨?_, ?_, ?_⟩, ⟨?_, ?_, ?_⟩, ⟨?_, ?_, ?_⟩, ⟨?_, ?_, ?_⟩, ?_⟩
  all_goals first | (rw [hc _ _ (by omega)]; assumption) | (rw [hf _ _ (by omega)]; assumption) | omega

theorem Three.drew {n : Nat} {x1 y1 x2 y2 : Int} {W : World} (h : Three n x1 y1 x2 y2 W) (k : Nat) : Three n x1 y1 x2 y2 (W.drewN k) := by
  obtain ⟨⟨c0, c1, c2⟩, ⟨d0, d1, d2⟩, ⟨r0, r1, r2⟩, ⟨f0, f1, f2⟩, hz⟩ := h
  refine ⟨⟨?_, ?_, ?_⟩, ⟨?_, ?_, ?_⟩, ⟨?_, ?_, ?_⟩, ⟨?_, ?_, ?_⟩, ?_⟩
  all_goals (simp [go_sem]; assumption)

set_option maxRecDepth 100000 in
set_option maxHeartbeats 8000000 in
theorem plus_same (x1 y1 : F) (hn : y1 ≠ -y1) (w : World) : Calls Try.prog 65 #[.agg #[.int .u64 (vz x1), .int .u64 (vz y1), .bool false], .agg #[.int .u64 (vz x1), .int .u64 (vz y1), .bool false]] w (Ret w (vp (addE (some (x1, y1)) (some (x1, y1))))) := by
  rw [addE_some, if_neg (fun h => hn (Prod.mk.inj h).2)]
  have m := minus_of x1 y1
  have e1 : (vz y1 == vz (-y1)) = false := by
    rw [beq_eq_false_iff_ne]
    intro h
    exact hn (vz_inj h)
  clear hn
  rw [plus_val x1 y1 x1 y1 _ (slope_same x1 y1)]
  obtain ⟨L, hL⟩ : ∃ L, L = (zf 3 * (x1 * x1) + zf 1) * inv (y1 + y1) := ⟨_, rfl⟩
  rw [← hL]
  obtain ⟨X, hX⟩ : ∃ X, X = L * L - (x1 + x1) := ⟨_, rfl⟩
  rw [← hX]
  go_enter Try.func65, Try.ntmps65
  go_wp2_with fail
  (refine wp_region_later (by kernel_rfl) (by kernel_rfl) ?_; (repeat (go_big_quiet_step ((go_at_call 69; exact lq (m _))))); refine wpQuiet_nil ?_; intro w' hB)
  obtain ⟨⟨c0, c1, c2⟩, ⟨d0, d1, d2⟩, ⟨r0, r1, r2⟩, ⟨f0, f1, f2⟩, hz, hB0⟩ := boxes3 hB
  clear hB m
  go_wp2_with fail
  go_quiet ((go_at_call 23; exact qs (sub_calls _ _ (vz_nonneg _) (vz_nonneg _) _)))
  go_wp2_with fail
  go_quiet ((first
    | (go_at_call 21; exact qa (mul_calls _ _ (by first | with_reducible exact vz_nonneg _ | with_reducible assumption | decide) (by first | with_reducible exact vz_nonneg _ | with_reducible assumption | decide) _))
    | (go_at_call 22; exact qa (add_calls _ _ (by first | with_reducible exact vz_nonneg _ | with_reducible assumption | decide) (by first | with_reducible exact vz_nonneg _ | with_reducible assumption | decide) _))))
  go_wp2_with fail
  refine (inv_calls _ (vz_nonneg _) _).mono ?_
  rintro e w2 ⟨rfl, hB2⟩
  have hB3 : Below w.heap.size w w2 := by clear c0 c1 c2 d0 d1 d2 r0 r1 r2 f0 f1 f2; exact (by repeat (first | assumption | exact Below.refl _ _ | refine Below.setCell ?_ (by first | exact Nat.le_refl _ | (simp; done) | omega | (simp; omega)) _ | refine Below.alloc ?_ (by first | exact Nat.le_refl _ | (simp; done) | omega | (simp; omega)) _ | refine below_drewN ?_ _ | refine Below.drew ?_ | refine Below.on (by assumption) ?_ | refine Below.via (by assumption) (by first | exact Nat.le_refl _ | (simp; done) | omega | (simp; omega)) ?_))
  obtain ⟨⟨a0, a1, a2⟩, ⟨b0, b1, b2⟩, ⟨s0, s1, s2⟩, ⟨g0, g1, g2⟩, hz2⟩ := (Three.drew (n := w.heap.size) ⟨⟨c0, c1, c2⟩, ⟨d0, d1, d2⟩, ⟨r0, r1, r2⟩, ⟨f0, f1, f2⟩, hz⟩ _).on hB2
  clear hB2 c0 c1 c2 d0 d1 d2 r0 r1 r2 f0 f1 f2 hB0 hz
  go_wp2_with fail
  refine (mul_calls _ _ (by first | with_reducible exact vz_nonneg _ | with_reducible assumption | decide) (by first | with_reducible exact vz_nonneg _ | with_reducible assumption | decide) _).mono ?_
  rintro e w' ⟨rfl, rfl⟩
  go_wp2_with fail
  go_quiet ((first
    | (go_at_call 21; exact qs (mul_calls _ _ (by first | with_reducible exact vz_nonneg _ | with_reducible assumption | decide) (by first | with_reducible exact vz_nonneg _ | with_reducible assumption | decide) _))
    | (go_at_call 22; exact qs (add_calls _ _ (by first | with_reducible exact vz_nonneg _ | with_reducible assumption | decide) (by first | with_reducible exact vz_nonneg _ | with_reducible assumption | decide) _))
    | (go_at_call 23; exact qs (sub_calls _ _ (by first | with_reducible exact vz_nonneg _ | with_reducible assumption | decide) (by first | with_reducible exact vz_nonneg _ | with_reducible assumption | decide) _))))
  go_wp2_with fail
  simp only [zf_vz]
  rw [← hL, ← hX]
  go_region_held3 (fun W => W.cell? ⟨w.heap.size, 0, none⟩ = some (.int .u64 (vz x1)) ∧ W.cell? ⟨w.heap.size, 1, none⟩ = some (.int .u64 (vz y1))) (simp [go_sem, a0, a1]) ((first
    | (go_at_call 21; refine (mul_calls _ _ (by first | with_reducible exact vz_nonneg _ | with_reducible assumption | decide) (by first | with_reducible exact vz_nonneg _ | with_reducible assumption | decide) _).mono ?_; rintro e w' ⟨rfl, rfl⟩; simp only [zf_vz])
    | (go_at_call 23; refine (sub_calls _ _ (by first | with_reducible exact vz_nonneg _ | with_reducible assumption | decide) (by first | with_reducible exact vz_nonneg _ | with_reducible assumption | decide) _).mono ?_; rintro e w' ⟨rfl, rfl⟩; simp only [zf_vz])))
  all_goals go_wp2_with fail
  subst hX hL
  exact bodyPost_ret (v := vp (some _)) (by simp (maxDischargeDepth := 9) [results, Try.results65, go_sem, vp, v2, *]) rfl ⟨rfl, (by repeat (first | assumption | exact Below.refl _ _ | refine Below.setCell ?_ (by first | exact Nat.le_refl _ | (simp; done) | omega | (simp; omega)) _ | refine Below.alloc ?_ (by first | exact Nat.le_refl _ | (simp; done) | omega | (simp; omega)) _ | refine below_drewN ?_ _ | refine Below.drew ?_ | refine Below.on (by assumption) ?_ | refine Below.via (by assumption) (by first | exact Nat.le_refl _ | (simp; done) | omega | (simp; omega)) ?_))⟩

set_option maxRecDepth 100000 in
set_option maxHeartbeats 8000000 in
theorem plus_over (x1 y1 x2 y2 : F) (h1 : x1 ≠ x2) (w : World) : Calls Try.prog 65 #[.agg #[.int .u64 (vz x1), .int .u64 (vz y1), .bool false], .agg #[.int .u64 (vz x2), .int .u64 (vz y2), .bool false]] w (Ret w (vp (addE (some (x1, y1)) (some (x2, y2))))) := by
  rw [addE_some, if_neg (fun h => h1 (Prod.mk.inj h).1.symm), plus_val x1 y1 x2 y2 _ (slope_else (fun h => h1 (Prod.mk.inj h).1))]
  have m := minus_of x2 y2
  have e1 : (vz x1 == vz x2) = false := by
    rw [beq_eq_false_iff_ne]
    intro h
    exact h1 (vz_inj h)
  clear h1
  obtain ⟨L, hL⟩ : ∃ L, L = (y2 - y1) * inv (x2 - x1) := ⟨_, rfl⟩
  rw [← hL]
  obtain ⟨X, hX⟩ : ∃ X, X = L * L - (x1 + x2) := ⟨_, rfl⟩
  rw [← hX]
  go_enter Try.func65, Try.ntmps65
  go_wp2_with fail
  (refine wp_region_later (by kernel_rfl) (by kernel_rfl) ?_; (repeat (go_big_quiet_step ((go_at_call 69; exact lq (m _))))); refine wpQuiet_nil ?_; intro w' hB)
  obtain ⟨⟨c0, c1, c2⟩, ⟨d0, d1, d2⟩, ⟨r0, r1, r2⟩, ⟨f0, f1, f2⟩, hz, hB0⟩ := boxes3 hB
  clear hB m
  go_wp2_with fail
  go_quiet ((go_at_call 23; exact qs (sub_calls _ _ (vz_nonneg _) (vz_nonneg _) _)))
  go_wp2_with fail
  refine (inv_calls _ (vz_nonneg _) _).mono ?_
  rintro e w2 ⟨rfl, hB2⟩
  have hB3 : Below w.heap.size w w2 := by clear c0 c1 c2 d0 d1 d2 r0 r1 r2 f0 f1 f2; exact (by repeat (first | assumption | exact Below.refl _ _ | refine Below.setCell ?_ (by first | exact Nat.le_refl _ | (simp; done) | omega | (simp; omega)) _ | refine Below.alloc ?_ (by first | exact Nat.le_refl _ | (simp; done) | omega | (simp; omega)) _ | refine below_drewN ?_ _ | refine Below.drew ?_ | refine Below.on (by assumption) ?_ | refine Below.via (by assumption) (by first | exact Nat.le_refl _ | (simp; done) | omega | (simp; omega)) ?_))
  obtain ⟨⟨a0, a1, a2⟩, ⟨b0, b1, b2⟩, ⟨s0, s1, s2⟩, ⟨g0, g1, g2⟩, hz2⟩ := (Three.drew (n := w.heap.size) ⟨⟨c0, c1, c2⟩, ⟨d0, d1, d2⟩, ⟨r0, r1, r2⟩, ⟨f0, f1, f2⟩, hz⟩ _).on hB2
  clear hB2 c0 c1 c2 d0 d1 d2 r0 r1 r2 f0 f1 f2 hB0 hz
  go_wp2_with fail
  refine (mul_calls _ _ (by first | with_reducible exact vz_nonneg _ | with_reducible assumption | decide) (by first | with_reducible exact vz_nonneg _ | with_reducible assumption | decide) _).mono ?_
  rintro e w' ⟨rfl, rfl⟩
  go_wp2_with fail
  go_quiet ((first
    | (go_at_call 21; exact qs (mul_calls _ _ (by first | with_reducible exact vz_nonneg _ | with_reducible assumption | decide) (by first | with_reducible exact vz_nonneg _ | with_reducible assumption | decide) _))
    | (go_at_call 22; exact qs (add_calls _ _ (by first | with_reducible exact vz_nonneg _ | with_reducible assumption | decide) (by first | with_reducible exact vz_nonneg _ | with_reducible assumption | decide) _))
    | (go_at_call 23; exact qs (sub_calls _ _ (by first | with_reducible exact vz_nonneg _ | with_reducible assumption | decide) (by first | with_reducible exact vz_nonneg _ | with_reducible assumption | decide) _))))
  go_wp2_with fail
  simp only [zf_vz]
  rw [← hL, ← hX]
  go_region_held3 (fun W => W.cell? ⟨w.heap.size, 0, none⟩ = some (.int .u64 (vz x1)) ∧ W.cell? ⟨w.heap.size, 1, none⟩ = some (.int .u64 (vz y1))) (simp [go_sem, a0, a1]) ((first
    | (go_at_call 21; refine (mul_calls _ _ (by first | with_reducible exact vz_nonneg _ | with_reducible assumption | decide) (by first | with_reducible exact vz_nonneg _ | with_reducible assumption | decide) _).mono ?_; rintro e w' ⟨rfl, rfl⟩; simp only [zf_vz])
    | (go_at_call 23; refine (sub_calls _ _ (by first | with_reducible exact vz_nonneg _ | with_reducible assumption | decide) (by first | with_reducible exact vz_nonneg _ | with_reducible assumption | decide) _).mono ?_; rintro e w' ⟨rfl, rfl⟩; simp only [zf_vz])))
  all_goals go_wp2_with fail
  subst hX hL
  exact bodyPost_ret (v := vp (some _)) (by simp (maxDischargeDepth := 9) [results, Try.results65, go_sem, vp, v2, *]) rfl ⟨rfl, (by repeat (first | assumption | exact Below.refl _ _ | refine Below.setCell ?_ (by first | exact Nat.le_refl _ | (simp; done) | omega | (simp; omega)) _ | refine Below.alloc ?_ (by first | exact Nat.le_refl _ | (simp; done) | omega | (simp; omega)) _ | refine below_drewN ?_ _ | refine Below.drew ?_ | refine Below.on (by assumption) ?_ | refine Below.via (by assumption) (by first | exact Nat.le_refl _ | (simp; done) | omega | (simp; omega)) ?_))⟩
set_option maxRecDepth 100000 in
set_option maxHeartbeats 8000000 in
theorem plus_above (x2 y1 y2 : F) (h1 : y1 ≠ -y2) (h2 : y1 ≠ y2) (w : World) : Calls Try.prog 65 #[.agg #[.int .u64 (vz x2), .int .u64 (vz y1), .bool false], .agg #[.int .u64 (vz x2), .int .u64 (vz y2), .bool false]] w (Ret w (vp (addE (some (x2, y1)) (some (x2, y2))))) := by
  have h3 : y2 ≠ -y1 := fun h => h1 (by rw [h]; clear h h1 h2; grind -lia -linarith)
  rw [addE_some, if_neg (fun h => h3 (Prod.mk.inj h).2), plus_val x2 y1 x2 y2 _ (slope_else (fun h => h2 (Prod.mk.inj h).2))]
  have m := minus_of x2 y2
  have e1 : (vz y1 == vz (-y2)) = false := by
    rw [beq_eq_false_iff_ne]
    intro h
    exact h1 (vz_inj h)
  have e2 : (vz y1 == vz y2) = false := by
    rw [beq_eq_false_iff_ne]
    intro h
    exact h2 (vz_inj h)
  clear h1 h2 h3
  rw [show x2 - x2 = 0 from by grind -lia -linarith]
  obtain ⟨L, hL⟩ : ∃ L, L = (y2 - y1) * inv 0 := ⟨_, rfl⟩
  rw [← hL]
  obtain ⟨X, hX⟩ : ∃ X, X = L * L - (x2 + x2) := ⟨_, rfl⟩
  rw [← hX]
  go_enter Try.func65, Try.ntmps65
  go_wp2_with fail
  (refine wp_region_later (by kernel_rfl) (by kernel_rfl) ?_; (repeat (go_big_quiet_step ((go_at_call 69; exact lq (m _))))); refine wpQuiet_nil ?_; intro w' hB)
  obtain ⟨⟨c0, c1, c2⟩, ⟨d0, d1, d2⟩, ⟨r0, r1, r2⟩, ⟨f0, f1, f2⟩, hz, hB0⟩ := boxes3 hB
  clear hB m
  go_wp2_with fail
  go_quiet ((go_at_call 23; exact qs (sub_calls _ _ (vz_nonneg _) (vz_nonneg _) _)))
  go_wp2_with fail
  refine (inv_calls _ (vz_nonneg _) _).mono ?_
  rintro e w2 ⟨rfl, hB2⟩
  have hB3 : Below w.heap.size w w2 := by clear c0 c1 c2 d0 d1 d2 r0 r1 r2 f0 f1 f2; exact (by repeat (first | assumption | exact Below.refl _ _ | refine Below.setCell ?_ (by first | exact Nat.le_refl _ | (simp; done) | omega | (simp; omega)) _ | refine Below.alloc ?_ (by first | exact Nat.le_refl _ | (simp; done) | omega | (simp; omega)) _ | refine below_drewN ?_ _ | refine Below.drew ?_ | refine Below.on (by assumption) ?_ | refine Below.via (by assumption) (by first | exact Nat.le_refl _ | (simp; done) | omega | (simp; omega)) ?_))
  obtain ⟨⟨a0, a1, a2⟩, ⟨b0, b1, b2⟩, ⟨s0, s1, s2⟩, ⟨g0, g1, g2⟩, hz2⟩ := (Three.drew (n := w.heap.size) ⟨⟨c0, c1, c2⟩, ⟨d0, d1, d2⟩, ⟨r0, r1, r2⟩, ⟨f0, f1, f2⟩, hz⟩ _).on hB2
  clear hB2 c0 c1 c2 d0 d1 d2 r0 r1 r2 f0 f1 f2 hB0 hz
  go_wp2_with fail
  refine (mul_calls _ _ (by first | with_reducible exact vz_nonneg _ | with_reducible assumption | decide) (by first | with_reducible exact vz_nonneg _ | with_reducible assumption | decide) _).mono ?_
  rintro e w' ⟨rfl, rfl⟩
  go_wp2_with fail
  go_quiet ((first
    | (go_at_call 21; exact qs (mul_calls _ _ (by first | with_reducible exact vz_nonneg _ | with_reducible assumption | decide) (by first | with_reducible exact vz_nonneg _ | with_reducible assumption | decide) _))
    | (go_at_call 22; exact qs (add_calls _ _ (by first | with_reducible exact vz_nonneg _ | with_reducible assumption | decide) (by first | with_reducible exact vz_nonneg _ | with_reducible assumption | decide) _))
    | (go_at_call 23; exact qs (sub_calls _ _ (by first | with_reducible exact vz_nonneg _ | with_reducible assumption | decide) (by first | with_reducible exact vz_nonneg _ | with_reducible assumption | decide) _))))
  go_wp2_with fail
  simp only [zf_vz]
  rw [← hL, ← hX]
  go_region_held3 (fun W => W.cell? ⟨w.heap.size, 0, none⟩ = some (.int .u64 (vz x2)) ∧ W.cell? ⟨w.heap.size, 1, none⟩ = some (.int .u64 (vz y1))) (simp [go_sem, a0, a1]) ((first
    | (go_at_call 21; refine (mul_calls _ _ (by first | with_reducible exact vz_nonneg _ | with_reducible assumption | decide) (by first | with_reducible exact vz_nonneg _ | with_reducible assumption | decide) _).mono ?_; rintro e w' ⟨rfl, rfl⟩; simp only [zf_vz])
    | (go_at_call 23; refine (sub_calls _ _ (by first | with_reducible exact vz_nonneg _ | with_reducible assumption | decide) (by first | with_reducible exact vz_nonneg _ | with_reducible assumption | decide) _).mono ?_; rintro e w' ⟨rfl, rfl⟩; simp only [zf_vz])))
  all_goals go_wp2_with fail
  subst hX hL
  exact bodyPost_ret (v := vp (some _)) (by simp (maxDischargeDepth := 9) [results, Try.results65, go_sem, vp, v2, *]) rfl ⟨rfl, (by repeat (first | assumption | exact Below.refl _ _ | refine Below.setCell ?_ (by first | exact Nat.le_refl _ | (simp; done) | omega | (simp; omega)) _ | refine Below.alloc ?_ (by first | exact Nat.le_refl _ | (simp; done) | omega | (simp; omega)) _ | refine below_drewN ?_ _ | refine Below.drew ?_ | refine Below.on (by assumption) ?_ | refine Below.via (by assumption) (by first | exact Nat.le_refl _ | (simp; done) | omega | (simp; omega)) ?_))⟩
end Go.Proofs.Ytpmmjomejackkaa
