/- The statement FieldFew: to the 0 a number is 1, to the 1 itself, to the 2 its square, to the 3 that times it; in the extension, too. Any number, any number of the extension: no conditions. -/
import Derived.Test.YtpmmjomejackkaaRow
import Derived.Test.YtpmmjomejackkaaFldU
import Derived.Test.YtpmmjomejackkaaLater
namespace Go.Proofs.Ytpmmjomejackkaa.lawFieldFew
open BigFrame Go.ChangeShapes Go.WideShapes Go.ChangeAt Go.RowKit Go.Phx Go.Shelf

set_option maxRecDepth 100000 in
set_option maxHeartbeats 4000000 in
theorem walk (a0 a1 b1 : Int) (wa0 : (Lit.int .u64 a0).wf = true) (wa1 : (Lit.int .u64 a1).wf = true) (wb1 : (Lit.int .u64 b1).wf = true) (w : World) :
    Calls Try.prog 6 #[.int .u64 a0, .agg #[.int .u64 a1, .int .u64 b1]] w (Ret w (.bool true)) := by
  obtain ⟨ha0, _⟩ := bounds_u64 wa0
  obtain ⟨ha1, _⟩ := bounds_u64 wa1
  obtain ⟨hb1, _⟩ := bounds_u64 wb1
  clear wa0 wa1 wb1
  have t0 : vz (pw (zf a0) 0) = 1 := by rw [pw_zero]; rfl
  have t1 : (vz (pw (zf a0) 1) == vz (zf a0 + zf 0)) = true := by
    rw [beq_iff_eq, pw_one, show zf 0 = 0 from rfl]
    congr 1
    generalize zf a0 = x
    grind -lia -linarith
  have t2 : (vz (pw (zf a0) 2) == vz (zf a0 * zf a0)) = true := by rw [beq_iff_eq, pw_two]
  have t3 : (vz (pw (zf a0) 3) == vz (zf a0 * zf a0 * zf a0)) = true := by rw [beq_iff_eq, show 3 = 2 + 1 from rfl, pw_succ, pw_two]
  have u0 : vz (pow2 (zf a1, zf b1) 0).1 = 1 := by rw [pow2_0]; rfl
  have u0' : vz (pow2 (zf a1, zf b1) 0).2 = 0 := by rw [pow2_0]; rfl
  have o1 : mul2 (zf a1, zf b1) (zf 1, zf 0) = (zf a1, zf b1) := mul2_one_r _
  have u1 : pow2 (zf a1, zf b1) 1 = (zf a1, zf b1) := pow2_1 _
  have u2 : pow2 (zf a1, zf b1) 2 = mul2 (zf a1, zf b1) (zf a1, zf b1) := pow2_2 _
  have u3 : pow2 (zf a1, zf b1) 3 = mul2 (mul2 (zf a1, zf b1) (zf a1, zf b1)) (zf a1, zf b1) := pow2_3 _
  go_enter Try.func6, Try.ntmps6
  go_wp2_with fail
  refine (shown09 _).mono ?_
  rintro e w1 ⟨rfl, hB1⟩
  obtain ⟨hc1, _⟩ := bcell hB1
  have hz1 := hB1.size
  simp at hz1 hc1
  have g1 : w.heap.size < w1.heap.size := by omega
  go_wp2_with fail
  refine (mul2_x _ _ _ _ ha1 hb1 (by decide) (by decide) _).mono ?_
  rintro e w2 ⟨rfl, hB2⟩
  rw [o1]
  obtain ⟨hc2, _⟩ := bcell hB2
  have hz2 := hB2.size
  simp at hz2 hc2
  have g2 : w.heap.size < w2.heap.size := by omega
  have g2' : w1.heap.size < w2.heap.size := by omega
  have g21 : w.heap.size < w1.heap.size + 1 := by omega
  go_wp2_with fail
  refine (mul_calls _ _ ha0 ha0 _).mono ?_
  rintro e w' ⟨rfl, rfl⟩
  go_wp2_with fail
  refine (mul2_x _ _ _ _ ha1 hb1 ha1 hb1 _).mono ?_
  rintro e w3 ⟨rfl, hB3⟩
  obtain ⟨hc3, _⟩ := bcell hB3
  have hz3 := hB3.size
  simp at hz3 hc3
  go_wp2_with fail
  obtain ⟨W, hW⟩ : ∃ W, w3.alloc (.cells #[.int .u64 (vz (mul2 (zf a1, zf b1) (zf a1, zf b1)).1), .int .u64 (vz (mul2 (zf a1, zf b1) (zf a1, zf b1)).2)] 32) = W := ⟨_, rfl⟩
  have hs : W.heap.size = w3.heap.size + 1 := by rw [← hW]; simp
  have hBW : Below w.heap.size w W := by rw [← hW]; exact (by repeat (first | assumption | exact Below.refl _ _ | refine Below.setCell ?_ (by first | exact Nat.le_refl _ | (simp; done) | omega | (simp; omega)) _ | refine Below.alloc ?_ (by first | exact Nat.le_refl _ | (simp; done) | omega | (simp; omega)) _ | refine below_drewN ?_ _ | refine Below.drew ?_ | refine Below.on (by assumption) ?_ | refine Below.via (by assumption) (by first | exact Nat.le_refl _ | (simp; done) | omega | (simp; omega)) ?_))
  have e1 : ∀ o, W.cell? ⟨w.heap.size, o, none⟩ = w1.cell? ⟨w.heap.size, o, none⟩ := fun o => by
    rw [← hW, (Below.refl w3.heap.size w3).alloc (Nat.le_refl _) _ |>.cell (p := ⟨w.heap.size, o, none⟩) (by show w.heap.size < _; omega), hc3 _ _ (by omega), ((Below.refl w2.heap.size w2).alloc (Nat.le_refl _) _).cell (p := ⟨w.heap.size, o, none⟩) (by show w.heap.size < _; omega), hc2 _ _ (by omega), ((Below.refl w1.heap.size w1).alloc (Nat.le_refl _) _).cell (p := ⟨w.heap.size, o, none⟩) (by show w.heap.size < _; omega)]
  have e2 : ∀ o, W.cell? ⟨w1.heap.size, o, none⟩ = w2.cell? ⟨w1.heap.size, o, none⟩ := fun o => by
    rw [← hW, (Below.refl w3.heap.size w3).alloc (Nat.le_refl _) _ |>.cell (p := ⟨w1.heap.size, o, none⟩) (by show w1.heap.size < _; omega), hc3 _ _ (by omega), ((Below.refl w2.heap.size w2).alloc (Nat.le_refl _) _).cell (p := ⟨w1.heap.size, o, none⟩) (by show w1.heap.size < _; omega)]
  have e3 : ∀ o, W.cell? ⟨w2.heap.size, o, none⟩ = w3.cell? ⟨w2.heap.size, o, none⟩ := fun o => by
    rw [← hW, (Below.refl w3.heap.size w3).alloc (Nat.le_refl _) _ |>.cell (p := ⟨w2.heap.size, o, none⟩) (by show w2.heap.size < _; omega)]
  have x0 : W.cell? ⟨w.heap.size, 0, none⟩ = some (.int .u64 a1) := by rw [e1, hc1 _ _ (by omega)]; simp [go_sem]
  have x1 : W.cell? ⟨w.heap.size, 1, none⟩ = some (.int .u64 b1) := by rw [e1, hc1 _ _ (by omega)]; simp [go_sem]
  have y0 : W.cell? ⟨w1.heap.size, 0, none⟩ = some (.int .u64 1) := by rw [e2, hc2 _ _ (by omega)]; simp [go_sem]
  have y1 : W.cell? ⟨w1.heap.size, 1, none⟩ = some (.int .u64 0) := by rw [e2, hc2 _ _ (by omega)]; simp [go_sem]
  have z0 : W.cell? ⟨w2.heap.size, 0, none⟩ = some (.int .u64 (vz (zf a1))) := by rw [e3, hc3 _ _ (by omega)]; simp [go_sem]
  have z1 : W.cell? ⟨w2.heap.size, 1, none⟩ = some (.int .u64 (vz (zf b1))) := by rw [e3, hc3 _ _ (by omega)]; simp [go_sem]
  have s0 : W.cell? ⟨w3.heap.size, 0, none⟩ = some (.int .u64 (vz (mul2 (zf a1, zf b1) (zf a1, zf b1)).1)) := by rw [← hW]; simp [go_sem]
  have s1 : W.cell? ⟨w3.heap.size, 1, none⟩ = some (.int .u64 (vz (mul2 (zf a1, zf b1) (zf a1, zf b1)).2)) := by rw [← hW]; simp [go_sem]
  have k0 : w.heap.size < W.heap.size := by omega
  have k1 : w1.heap.size < W.heap.size := by omega
  have k2 : w2.heap.size < W.heap.size := by omega
  have k3 : w3.heap.size < W.heap.size := by omega
  rw [hW]
  clear hc1 hc2 hc3 e1 e2 e3 hW hs hB1 hB2 hB3 hz1 hz2 hz3 g1 g2 g2' g21
  have m1 := vz_nonneg (mul2 (zf a1, zf b1) (zf a1, zf b1)).1
  have m2 := vz_nonneg (mul2 (zf a1, zf b1) (zf a1, zf b1)).2
  refine wp_region_later (by kernel_rfl) (by kernel_rfl) ?_
  repeat (go_big_quiet_step (first
    | (go_at_call 24; exact lq (pow_calls _ _ (by assumption) (by decide) (by decide) _))
    | (go_at_call 22; exact lw (add_calls _ _ (by assumption) (by decide) _))
    | (go_at_call 21; exact lw (mul_calls _ _ (vz_nonneg _) (by assumption) _))
    | (go_at_call 34; exact lq (pow2_x _ _ _ (by assumption) (by assumption) (by decide) (by decide) _))
    | (go_at_call 33; exact lq (mul2_x _ _ _ _ (by assumption) (by assumption) (by assumption) (by assumption) _))))
  refine wpQuiet_nil ?_
  intro w' hB
  go_wp2_with fail
  go_ret
  exact ⟨rfl, hBW.trans (hB.mono hBW.size)⟩

set_option maxRecDepth 100000 in
theorem lifted (os : Os) (started : os.Started) (H : Type) (enc : TypeId × Value → H) :
    ReturnsInHanded {} Try.checked os 6 .any (Rows.fieldFewSpec.pre6 enc Try.prog Try.f6 Rows.fieldFewRow.domain false) (Rows.fieldFewSpec.post enc Try.prog Try.f6 false true false false) := by
  refine returnsInHanded_of_change (C := Try.checked) own started (by kernel_rfl) Try.func6
    (ChangeSpec.witness6 (enc := enc) (C := Try.checked) false ⟨#[], #[.int .u64 0, .agg #[.int .u64 0, .int .u64 0]], []⟩ 8 (by kernel_rfl) (by kernel_rfl) (by kernel_rfl) (by kernel_rfl)) ?_
  intro W base args ds gs before hval0 hW hcnd _
  have hval : ∀ (j : Nat) t v, Try.f6.params[j]? = some t → args[j]? = some v → Value.okWide Try.prog W .any base t v := hval0
  have hW' := hW
  obtain ⟨p, q, hA0, hV, rfl, hfz, hnd⟩ := hW
  have hA : DataW.TrodAll enc Try.prog W 0 (fun _ => true) true Try.f6.params.toList args.toList ds p := hA0
  rw [Try.params6] at hA hval
  obtain ⟨v0, vs0, d0, ds0, p0, q0, hargs, rfl, rfl, h0, r0⟩ := trodAll_cons hA
  obtain ⟨v1, vs1, d1, ds1, p1, q1, rfl, rfl, rfl, h1, r1⟩ := trodAll_cons r0
  obtain ⟨rfl, rfl, rfl⟩ := trodAll_nil r1
  obtain rfl : args = #[v0, v1] := by cases args; simp_all
  obtain ⟨rfl, rfl⟩ := trodVars_none hV
  obtain ⟨a0, rfl, rfl, rfl, wa0⟩ := openU64 (hval 0 22 v0 rfl rfl) h0
  obtain ⟨a1, b1, rfl, rfl, rfl, wa1, wb1⟩ := openPair2 (hval 1 32 v1 rfl rfl) h1
  clear hA0 hval0
  simp only [List.append_nil] at hW'
  refine (walk a0 a1 b1 wa0 wa1 wb1 W).mono fun e W' ⟨he, hg⟩ => ?_
  subst he
  exact ⟨_, rfl, post_below (pa := []) (pv := []) hW' (fun _ _ _ => (trodAll_cons_mk (shut_bool Try.underlying4 _) trodAll_mk0)) (fun sp _ => (trodAll_cons_mk (shutU64 wa0) (trodAll_cons_mk (shutPair2 wa1 wb1) trodAll_mk0))) (fun _ _ => rfl) rfl hg (ok_one (by kernel_rfl) rfl (okWide_bool_mk Try.underlying4 _))⟩

theorem over : Rows.fieldFewRow.holds Try.pinned (OpenSpec.ofChange Rows.fieldFewSpec) :=
  OpenClaim.holds_of_wide 6 Try.f6 rfl rfl rfl rfl rfl rfl rfl ⟨rfl, rfl, rfl, rfl, rfl⟩ rfl rfl rfl rfl rfl (by kernel_rfl) Try.func6 (by kernel_rfl)
    (of_decide_eq_true (by kernel_rfl)) (by unfold Func.isWrapper; first | (rw [if_pos (by decide +kernel)]; kernel_rfl) | (rw [if_neg (by decide +kernel)]; exact ⟨rfl, rfl⟩))
    (fun os started H enc _ => lifted os started H enc)

/-- THE STATEMENT -/
theorem proved : Rows.FieldFewSaid := over

end Go.Proofs.Ytpmmjomejackkaa.lawFieldFew
