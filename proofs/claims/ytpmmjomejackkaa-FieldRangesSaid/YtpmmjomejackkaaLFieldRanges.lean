/- The statement FieldRanges: all that is told is below the prime; a difference is the other one's, from 0. Any two numbers, two of the extension: no conditions. -/
import Derived.Test.YtpmmjomejackkaaRow
import Derived.Test.YtpmmjomejackkaaFldU
import Derived.Test.YtpmmjomejackkaaLater
namespace Go.Proofs.Ytpmmjomejackkaa.lawFieldRanges
open BigFrame Go.ChangeShapes Go.WideShapes Go.ChangeAt Go.RowKit Go.Phx Go.Shelf

@[go_sem] theorem below_p (x : F) : decide (2147482867 ≤ vz x) = false := by have := vz_lt x; simp; omega

set_option maxRecDepth 100000 in
set_option maxHeartbeats 4000000 in
theorem walk (a0 a1 a2 b2 a3 b3 : Int) (wa0 : (Lit.int .u64 a0).wf = true) (wa1 : (Lit.int .u64 a1).wf = true) (wa2 : (Lit.int .u64 a2).wf = true) (wb2 : (Lit.int .u64 b2).wf = true) (wa3 : (Lit.int .u64 a3).wf = true) (wb3 : (Lit.int .u64 b3).wf = true) (w : World) :
    Calls Try.prog 8 #[.int .u64 a0, .int .u64 a1, .agg #[.int .u64 a2, .int .u64 b2], .agg #[.int .u64 a3, .int .u64 b3]] w (Ret w (.bool true)) := by
  obtain ⟨ha0, _⟩ := bounds_u64 wa0
  obtain ⟨ha1, hx1⟩ := bounds_u64 wa1
  obtain ⟨ha2, _⟩ := bounds_u64 wa2
  obtain ⟨hb2, _⟩ := bounds_u64 wb2
  obtain ⟨ha3, _⟩ := bounds_u64 wa3
  obtain ⟨hb3, _⟩ := bounds_u64 wb3
  clear wa0 wa1 wa2 wb2 wa3 wb3
  have n0 : 0 ≤ a1 % 50 := by omega
  have n1 : a1 % 50 ≤ 18446744073709551615 := by omega
  have l1 := vz_lt (rootS (zf a0)).1
  have l2 := vz_lt (zf a0 + zf a1)
  have l3 := vz_lt (zf a0 - zf a1)
  have l4 := vz_lt (zf a0 * zf a1)
  have l5 := vz_lt (pw (zf a0) a1.toNat)
  have l6 := vz_lt (inv (zf a0))
  have p1 := vz_lt (mul2 (zf a2, zf b2) (zf a3, zf b3)).1
  have p2 := vz_lt (mul2 (zf a2, zf b2) (zf a3, zf b3)).2
  have p3 := vz_lt (inv2 (zf a2, zf b2)).1
  have p4 := vz_lt (inv2 (zf a2, zf b2)).2
  have p5 := vz_lt (pow2 (zf a2, zf b2) (a1 % 50)).1
  have p6 := vz_lt (pow2 (zf a2, zf b2) (a1 % 50)).2
  have t1 : (vz (zf a0 - zf a1) == vz (zf 0 - (zf a1 - zf a0))) = true := by
    rw [beq_iff_eq, show zf 0 = 0 from rfl]
    congr 1
    generalize zf a0 = x
    generalize zf a1 = y
    grind -lia -linarith
  have t2 : mul2 (zf a3, zf b3) (zf a2, zf b2) = mul2 (zf a2, zf b2) (zf a3, zf b3) := mul2_comm _ _
  go_enter Try.func8, Try.ntmps8
  go_wp2_with fail
  refine (shown09 _).mono ?_
  rintro e w1 ⟨rfl, hB1⟩
  obtain ⟨hc1, _⟩ := bcell hB1
  have hz1 := hB1.size
  simp at hz1 hc1
  go_wp2_with fail
  refine (root_calls _ ha0 _).mono ?_
  rintro e w2 ⟨rfl, hB2⟩
  have hB2' := Below.on hB2 hB1
  obtain ⟨hc2, _⟩ := bcell hB2'
  have hz2 := hB2'.size
  simp at hz2 hc2
  go_wp2_with fail
  refine (mul2_x _ _ _ _ ha2 hb2 ha3 hb3 _).mono ?_
  rintro e w3 ⟨rfl, hB3⟩
  have hB3' := Below.on hB3 hB2'
  obtain ⟨hc3, _⟩ := bcell hB3'
  have hz3 := hB3'.size
  simp at hz3 hc3
  have g3 : w.heap.size < w3.heap.size := by omega
  have g3' : w.heap.size + 1 < w3.heap.size := by omega
  have g3'' : w.heap.size + 1 < w3.heap.size + 1 := by omega
  have g3a : w.heap.size < w3.heap.size + 1 := by omega
  have x3 : w3.cell? ⟨w.heap.size, 0, none⟩ = some (.int .u64 a2) := by rw [hc3 _ _ (by omega)]; simp [go_sem]
  have x3' : w3.cell? ⟨w.heap.size, 1, none⟩ = some (.int .u64 b2) := by rw [hc3 _ _ (by omega)]; simp [go_sem]
  have y3 : w3.cell? ⟨w.heap.size + 1, 0, none⟩ = some (.int .u64 a3) := by rw [hc3 _ _ (by omega)]; simp [go_sem]
  have y3' : w3.cell? ⟨w.heap.size + 1, 1, none⟩ = some (.int .u64 b3) := by rw [hc3 _ _ (by omega)]; simp [go_sem]
  have hBx : Below w.heap.size w w3 := by
    have h1 : Below w.heap.size w ((w.alloc (.cells #[.int .u64 a2, .int .u64 b2] 32)).alloc (.cells #[.int .u64 a3, .int .u64 b3] 32)) := (by repeat (first | assumption | exact Below.refl _ _ | refine Below.setCell ?_ (by first | exact Nat.le_refl _ | (simp; done) | omega | (simp; omega)) _ | refine Below.alloc ?_ (by first | exact Nat.le_refl _ | (simp; done) | omega | (simp; omega)) _ | refine below_drewN ?_ _ | refine Below.drew ?_ | refine Below.on (by assumption) ?_ | refine Below.via (by assumption) (by first | exact Nat.le_refl _ | (simp; done) | omega | (simp; omega)) ?_))
    exact h1.trans (hB3'.mono h1.size)
  clear hB1 hB2 hB2' hB3 hB3' hc1 hc2 hc3 hz1 hz2 hz3
  go_wp2_with fail
  refine (inv2_x _ _ ha2 hb2 _).mono ?_
  rintro e w4 ⟨rfl, hB4⟩
  obtain ⟨hc4, _⟩ := bcell hB4
  have hz4 := hB4.size
  simp at hz4 hc4
  have g4 : w.heap.size < w4.heap.size := by omega
  have g4' : w.heap.size + 1 < w4.heap.size := by omega
  have g4'' : w.heap.size + 1 < w4.heap.size + 1 := by omega
  have g4a : w.heap.size < w4.heap.size + 1 := by omega
  have g4b : w3.heap.size < w4.heap.size := by omega
  have g4c : w3.heap.size < w4.heap.size + 1 := by omega
  have x4 : w4.cell? ⟨w.heap.size, 0, none⟩ = some (.int .u64 a2) := by rw [hc4 _ _ (by omega)]; simp [go_sem, g3, x3, Nat.ne_of_lt]
  have x4' : w4.cell? ⟨w.heap.size, 1, none⟩ = some (.int .u64 b2) := by rw [hc4 _ _ (by omega)]; simp [go_sem, g3, x3', Nat.ne_of_lt]
  have y4 : w4.cell? ⟨w.heap.size + 1, 0, none⟩ = some (.int .u64 a3) := by rw [hc4 _ _ (by omega)]; simp [go_sem, g3', y3, Nat.ne_of_lt]
  have y4' : w4.cell? ⟨w.heap.size + 1, 1, none⟩ = some (.int .u64 b3) := by rw [hc4 _ _ (by omega)]; simp [go_sem, g3', y3', Nat.ne_of_lt]
  have z4 : w4.cell? ⟨w3.heap.size, 0, none⟩ = some (.int .u64 (vz (mul2 (zf a2, zf b2) (zf a3, zf b3)).1)) := by rw [hc4 _ _ (by omega)]; simp [go_sem]
  have z4' : w4.cell? ⟨w3.heap.size, 1, none⟩ = some (.int .u64 (vz (mul2 (zf a2, zf b2) (zf a3, zf b3)).2)) := by rw [hc4 _ _ (by omega)]; simp [go_sem]
  have hBy : Below w.heap.size w w4 := hBx.trans ((((Below.refl w3.heap.size w3).alloc (Nat.le_refl _) _).trans (hB4.mono (by simp))).mono (by omega))
  clear hc4 hz4 hB4
  go_wp2_with fail
  refine (pow2_x _ _ _ ha2 hb2 n0 n1 _).mono ?_
  rintro e w5 ⟨rfl, hB5⟩
  obtain ⟨hc5, _⟩ := bcell hB5
  have hz5 := hB5.size
  simp at hz5 hc5
  have g5 : w.heap.size < w5.heap.size := by omega
  have g5' : w.heap.size + 1 < w5.heap.size := by omega
  have g5b : w3.heap.size < w5.heap.size := by omega
  have g5c : w4.heap.size < w5.heap.size := by omega
  obtain ⟨W, hW⟩ : ∃ W, w5.alloc (.cells #[.int .u64 (vz (pow2 (zf a2, zf b2) (a1 % 50)).1), .int .u64 (vz (pow2 (zf a2, zf b2) (a1 % 50)).2)] 32) = W := ⟨_, rfl⟩
  have hs : W.heap.size = w5.heap.size + 1 := by rw [← hW]; simp
  have x5 : W.cell? ⟨w.heap.size, 0, none⟩ = some (.int .u64 a2) := by rw [← hW]; simp [go_sem, hc5, g4, g4a, g5, x4, Nat.ne_of_lt]
  have x5' : W.cell? ⟨w.heap.size, 1, none⟩ = some (.int .u64 b2) := by rw [← hW]; simp [go_sem, hc5, g4, g4a, g5, x4', Nat.ne_of_lt]
  have y5 : W.cell? ⟨w.heap.size + 1, 0, none⟩ = some (.int .u64 a3) := by rw [← hW]; simp [go_sem, hc5, g4', g4'', g5', y4, Nat.ne_of_lt]
  have y5' : W.cell? ⟨w.heap.size + 1, 1, none⟩ = some (.int .u64 b3) := by rw [← hW]; simp [go_sem, hc5, g4', g4'', g5', y4', Nat.ne_of_lt]
  have z5 : W.cell? ⟨w3.heap.size, 0, none⟩ = some (.int .u64 (vz (mul2 (zf a2, zf b2) (zf a3, zf b3)).1)) := by rw [← hW]; simp [go_sem, hc5, g4b, g4c, g5b, z4, Nat.ne_of_lt]
  have z5' : W.cell? ⟨w3.heap.size, 1, none⟩ = some (.int .u64 (vz (mul2 (zf a2, zf b2) (zf a3, zf b3)).2)) := by rw [← hW]; simp [go_sem, hc5, g4b, g4c, g5b, z4', Nat.ne_of_lt]
  have i5 : W.cell? ⟨w4.heap.size, 0, none⟩ = some (.int .u64 (vz (inv2 (zf a2, zf b2)).1)) := by rw [← hW]; simp [go_sem, hc5, g5c, Nat.ne_of_lt]
  have i5' : W.cell? ⟨w4.heap.size, 1, none⟩ = some (.int .u64 (vz (inv2 (zf a2, zf b2)).2)) := by rw [← hW]; simp [go_sem, hc5, g5c, Nat.ne_of_lt]
  have j5 : W.cell? ⟨w5.heap.size, 0, none⟩ = some (.int .u64 (vz (pow2 (zf a2, zf b2) (a1 % 50)).1)) := by rw [← hW]; simp [go_sem]
  have j5' : W.cell? ⟨w5.heap.size, 1, none⟩ = some (.int .u64 (vz (pow2 (zf a2, zf b2) (a1 % 50)).2)) := by rw [← hW]; simp [go_sem]
  have hBW : Below w.heap.size w W := by
    have h1 := ((Below.refl w4.heap.size w4).alloc (Nat.le_refl _) (.cells #[.int .u64 (vz (inv2 (zf a2, zf b2)).1), .int .u64 (vz (inv2 (zf a2, zf b2)).2)] 32)).trans (hB5.mono (by simp))
    rw [← hW]
    exact (hBy.trans (h1.mono (by omega))).alloc (by omega) _
  have k0 : w.heap.size < W.heap.size := by omega
  have k1 : w.heap.size + 1 < W.heap.size := by omega
  have k2 : w3.heap.size < W.heap.size := by omega
  have k3 : w4.heap.size < W.heap.size := by omega
  have k4 : w5.heap.size < W.heap.size := by omega
  have n2 := vz_nonneg (zf a1 - zf a0)
  go_wp2_with fail
  clear hW hc5 hz5 hB5 hs hBx hBy x4 x4' y4 y4' z4 z4' x3 x3' y3 y3' g3 g3' g3'' g3a g4 g4' g4'' g4a g4b g4c g5 g5' g5b g5c
  refine (add_calls _ _ ha0 ha1 _).mono ?_
  rintro e w' ⟨rfl, rfl⟩
  go_wp2_with fail
  refine (sub_calls _ _ ha0 ha1 _).mono ?_
  rintro e w' ⟨rfl, rfl⟩
  go_wp2_with fail
  refine (mul_calls _ _ ha0 ha1 _).mono ?_
  rintro e w' ⟨rfl, rfl⟩
  go_wp2_with fail
  refine (pow_calls _ _ ha0 ha1 hx1 _).mono ?_
  rintro e w6 ⟨rfl, hB6⟩
  go_wp2_with fail
  refine (inv_calls _ ha0 _).mono ?_
  rintro e V ⟨rfl, hB7⟩
  have hBv := Below.on hB7 hB6
  obtain ⟨hcv, _⟩ := bcell hBv
  have hzv := hBv.size
  have Vx : V.cell? ⟨w.heap.size, 0, none⟩ = some (.int .u64 a2) := by rw [hcv _ _ (by omega)]; exact x5
  have Vx' : V.cell? ⟨w.heap.size, 1, none⟩ = some (.int .u64 b2) := by rw [hcv _ _ (by omega)]; exact x5'
  have Vy : V.cell? ⟨w.heap.size + 1, 0, none⟩ = some (.int .u64 a3) := by rw [hcv _ _ (by omega)]; exact y5
  have Vy' : V.cell? ⟨w.heap.size + 1, 1, none⟩ = some (.int .u64 b3) := by rw [hcv _ _ (by omega)]; exact y5'
  have Vz : V.cell? ⟨w3.heap.size, 0, none⟩ = some (.int .u64 (vz (mul2 (zf a2, zf b2) (zf a3, zf b3)).1)) := by rw [hcv _ _ (by omega)]; exact z5
  have Vz' : V.cell? ⟨w3.heap.size, 1, none⟩ = some (.int .u64 (vz (mul2 (zf a2, zf b2) (zf a3, zf b3)).2)) := by rw [hcv _ _ (by omega)]; exact z5'
  have Vi : V.cell? ⟨w4.heap.size, 0, none⟩ = some (.int .u64 (vz (inv2 (zf a2, zf b2)).1)) := by rw [hcv _ _ (by omega)]; exact i5
  have Vi' : V.cell? ⟨w4.heap.size, 1, none⟩ = some (.int .u64 (vz (inv2 (zf a2, zf b2)).2)) := by rw [hcv _ _ (by omega)]; exact i5'
  have Vj : V.cell? ⟨w5.heap.size, 0, none⟩ = some (.int .u64 (vz (pow2 (zf a2, zf b2) (a1 % 50)).1)) := by rw [hcv _ _ (by omega)]; exact j5
  have Vj' : V.cell? ⟨w5.heap.size, 1, none⟩ = some (.int .u64 (vz (pow2 (zf a2, zf b2) (a1 % 50)).2)) := by rw [hcv _ _ (by omega)]; exact j5'
  have kv0 : w.heap.size < V.heap.size := by omega
  have kv1 : w.heap.size + 1 < V.heap.size := by omega
  have kv2 : w3.heap.size < V.heap.size := by omega
  have kv3 : w4.heap.size < V.heap.size := by omega
  have kv4 : w5.heap.size < V.heap.size := by omega
  have hBV : Below w.heap.size w V := hBW.trans (hBv.mono (by omega))
  clear hB6 hB7 hBv hcv hzv x5 x5' y5 y5' z5 z5' i5 i5' j5 j5' k0 k1 k2 k3 k4 hBW
  go_wp2_with fail
  have m1 := vz_nonneg (mul2 (zf a2, zf b2) (zf a3, zf b3)).1
  have m2 := vz_nonneg (mul2 (zf a2, zf b2) (zf a3, zf b3)).2
  have m3 : ∀ w, Calls Try.prog 33 #[.agg #[.int .u64 a3, .int .u64 b3], .agg #[.int .u64 a2, .int .u64 b2]] w (Ret w (.agg #[.int .u64 (vz (mul2 (zf a2, zf b2) (zf a3, zf b3)).1), .int .u64 (vz (mul2 (zf a2, zf b2) (zf a3, zf b3)).2)])) := fun w => by
    have h := mul2_x _ _ _ _ ha3 hb3 ha2 hb2 w
    rw [t2] at h
    exact h
  clear t2 l1 l2 l3 l4 l5 l6 p1 p2 p3 p4 p5 p6
  refine wp_region_later (by kernel_rfl) (by kernel_rfl) ?_
  repeat (go_big_quiet_step (first
    | (go_at_call 23; exact lw (sub_calls a0 a1 ha0 ha1 _))
    | (go_at_call 23; exact lw (sub_calls a1 a0 ha1 ha0 _))
    | (go_at_call 23; exact lw (sub_calls _ _ (by decide) n2 _))
    | (go_at_call 33; exact lq (m3 _))))
  refine wpQuiet_nil ?_
  intro w' hB
  go_wp2_with fail
  go_ret
  exact ⟨rfl, hBV.trans (hB.mono hBV.size)⟩

set_option maxRecDepth 100000 in
theorem lifted (os : Os) (started : os.Started) (H : Type) (enc : TypeId × Value → H) :
    ReturnsInHanded {} Try.checked os 8 .any (Rows.fieldRangesSpec.pre6 enc Try.prog Try.f8 Rows.fieldRangesRow.domain false) (Rows.fieldRangesSpec.post enc Try.prog Try.f8 false true false false) := by
  refine returnsInHanded_of_change (C := Try.checked) own started (by kernel_rfl) Try.func8
    (ChangeSpec.witness6 (enc := enc) (C := Try.checked) false ⟨#[], #[.int .u64 0, .int .u64 0, .agg #[.int .u64 0, .int .u64 0], .agg #[.int .u64 0, .int .u64 0]], []⟩ 8 (by kernel_rfl) (by kernel_rfl) (by kernel_rfl) (by kernel_rfl)) ?_
  intro W base args ds gs before hval0 hW hcnd _
  have hval : ∀ (j : Nat) t v, Try.f8.params[j]? = some t → args[j]? = some v → Value.okWide Try.prog W .any base t v := hval0
  have hW' := hW
  obtain ⟨p, q, hA0, hV, rfl, hfz, hnd⟩ := hW
  have hA : DataW.TrodAll enc Try.prog W 0 (fun _ => true) true Try.f8.params.toList args.toList ds p := hA0
  rw [Try.params8] at hA hval
  obtain ⟨v0, vs0, d0, ds0, p0, q0, hargs, rfl, rfl, h0, r0⟩ := trodAll_cons hA
  obtain ⟨v1, vs1, d1, ds1, p1, q1, rfl, rfl, rfl, h1, r1⟩ := trodAll_cons r0
  obtain ⟨v2, vs2, d2, ds2, p2, q2, rfl, rfl, rfl, h2, r2⟩ := trodAll_cons r1
  obtain ⟨v3, vs3, d3, ds3, p3, q3, rfl, rfl, rfl, h3, r3⟩ := trodAll_cons r2
  obtain ⟨rfl, rfl, rfl⟩ := trodAll_nil r3
  obtain rfl : args = #[v0, v1, v2, v3] := by cases args; simp_all
  obtain ⟨rfl, rfl⟩ := trodVars_none hV
  obtain ⟨a0, rfl, rfl, rfl, wa0⟩ := openU64 (hval 0 22 v0 rfl rfl) h0
  obtain ⟨a1, rfl, rfl, rfl, wa1⟩ := openU64 (hval 1 22 v1 rfl rfl) h1
  obtain ⟨a2, b2, rfl, rfl, rfl, wa2, wb2⟩ := openPair2 (hval 2 32 v2 rfl rfl) h2
  obtain ⟨a3, b3, rfl, rfl, rfl, wa3, wb3⟩ := openPair2 (hval 3 32 v3 rfl rfl) h3
  clear hA0 hval0
  simp only [List.append_nil] at hW'
  refine (walk a0 a1 a2 b2 a3 b3 wa0 wa1 wa2 wb2 wa3 wb3 W).mono fun e W' ⟨he, hg⟩ => ?_
  subst he
  exact ⟨_, rfl, post_below (pa := []) (pv := []) hW' (fun _ _ _ => (trodAll_cons_mk (shut_bool Try.underlying4 _) trodAll_mk0)) (fun sp _ => (trodAll_cons_mk (shutU64 wa0) (trodAll_cons_mk (shutU64 wa1) (trodAll_cons_mk (shutPair2 wa2 wb2) (trodAll_cons_mk (shutPair2 wa3 wb3) trodAll_mk0))))) (fun _ _ => rfl) rfl hg (ok_one (by kernel_rfl) rfl (okWide_bool_mk Try.underlying4 _))⟩

theorem over : Rows.fieldRangesRow.holds Try.pinned (OpenSpec.ofChange Rows.fieldRangesSpec) :=
  OpenClaim.holds_of_wide 8 Try.f8 rfl rfl rfl rfl rfl rfl rfl ⟨rfl, rfl, rfl, rfl, rfl⟩ rfl rfl rfl rfl rfl (by kernel_rfl) Try.func8 (by kernel_rfl)
    (of_decide_eq_true (by kernel_rfl)) (by unfold Func.isWrapper; first | (rw [if_pos (by decide +kernel)]; kernel_rfl) | (rw [if_neg (by decide +kernel)]; exact ⟨rfl, rfl⟩))
    (fun os started H enc _ => lifted os started H enc)

/-- THE STATEMENT -/
theorem proved : Rows.FieldRangesSaid := over

end Go.Proofs.Ytpmmjomejackkaa.lawFieldRanges
