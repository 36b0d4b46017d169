/- The statement FieldLaws: sums and products do not hang on the order, and part over each other; a difference is taken back; powers of a sum are products. Any three numbers: no conditions. -/
import Derived.Test.YtpmmjomejackkaaRow
import Derived.Test.YtpmmjomejackkaaFldS
namespace Go.Proofs.Ytpmmjomejackkaa.lawFieldLaws
open Go.ChangeShapes Go.WideShapes Go.ChangeAt Go.RowKit Go.Phx Go.Shelf

set_option maxHeartbeats 4000000 in
theorem walk (a0 a1 a2 : Int) (wa0 : (Lit.int .u64 a0).wf = true) (wa1 : (Lit.int .u64 a1).wf = true) (wa2 : (Lit.int .u64 a2).wf = true) (w : World) :
    Calls Try.prog 3 #[.int .u64 a0, .int .u64 a1, .int .u64 a2] w (Ret w (.bool true)) := by
  obtain ⟨ha, _⟩ := bounds_u64 wa0
  obtain ⟨hb, _⟩ := bounds_u64 wa1
  obtain ⟨hc, _⟩ := bounds_u64 wa2
  have n0 : 0 ≤ a0 % 1000 := by omega
  have n1 : a0 % 1000 < 1000 := by omega
  have m0 : 0 ≤ a1 % 1000 := by omega
  have m1 : a1 % 1000 < 1000 := by omega
  clear wa0 wa1 wa2
  have t1 : (vz (zf a0 * zf a1) == vz (zf a1 * zf a0)) = true := by rw [beq_iff_eq]; congr 1; generalize zf a0 = x; generalize zf a1 = y; grind -lia -linarith
  have t2 : (vz (zf a0 + zf a1) == vz (zf a1 + zf a0)) = true := by rw [beq_iff_eq]; congr 1; generalize zf a0 = x; generalize zf a1 = y; grind -lia -linarith
  have t3 : (vz (zf a0 * (zf a1 + zf a2)) == vz (zf a0 * zf a1 + zf a0 * zf a2)) = true := by rw [beq_iff_eq]; congr 1; generalize zf a0 = x; generalize zf a1 = y; generalize zf a2 = z; grind -lia -linarith
  have t4 : (vz (zf a0 - zf a1 + zf a1) == vz (zf a0 + zf 0)) = true := by rw [beq_iff_eq, show zf 0 = 0 from rfl]; congr 1; generalize zf a0 = x; generalize zf a1 = y; grind -lia -linarith
  have t5 : (vz (pw (zf a2) (a0 % 1000 + a1 % 1000).toNat) == vz (pw (zf a2) (a0 % 1000).toNat * pw (zf a2) (a1 % 1000).toNat)) = true := by
    rw [beq_iff_eq, ← pw_add, Int.toNat_add n0 m0]
  have t6 : (vz (zf a0 * (zf a1 * zf a2)) == vz (zf a0 * zf a1 * zf a2)) = true := by rw [beq_iff_eq]; congr 1; generalize zf a0 = x; generalize zf a1 = y; generalize zf a2 = z; grind -lia -linarith
  go_enter Try.func3, Try.ntmps3
  go_wp2_with fail
  refine (shown09 _).mono ?_
  rintro e w' ⟨rfl, hB⟩
  go_wp2_with (first
    | (go_at_call 21; refine (mul_calls _ _ (by first | assumption | exact vz_nonneg _ | omega) (by first | assumption | exact vz_nonneg _ | omega) _).mono ?_; rintro e w' ⟨rfl, rfl⟩)
    | (go_at_call 22; refine (add_calls _ _ (by first | assumption | exact vz_nonneg _ | omega) (by first | assumption | exact vz_nonneg _ | omega) _).mono ?_; rintro e w' ⟨rfl, rfl⟩)
    | (go_at_call 23; refine (sub_calls _ _ (by first | assumption | exact vz_nonneg _ | omega) (by first | assumption | exact vz_nonneg _ | omega) _).mono ?_; rintro e w' ⟨rfl, rfl⟩)
    | (go_at_call 24; refine (pow_calls _ _ (by first | assumption | exact vz_nonneg _ | omega) (by first | assumption | exact vz_nonneg _ | omega) (by first | assumption | exact vz_nonneg _ | omega) _).mono ?_; rintro e w' ⟨rfl, hB⟩))
  go_ret
  exact ⟨rfl, (by repeat (first | assumption | exact Below.refl _ _ | refine Below.setCell ?_ (by first | exact Nat.le_refl _ | (simp; done) | omega | (simp; omega)) _ | refine Below.alloc ?_ (by first | exact Nat.le_refl _ | (simp; done) | omega | (simp; omega)) _ | refine below_drewN ?_ _ | refine Below.drew ?_ | refine Below.on (by assumption) ?_ | refine Below.via (by assumption) (by first | exact Nat.le_refl _ | (simp; done) | omega | (simp; omega)) ?_))⟩

set_option maxRecDepth 100000 in
theorem lifted (os : Os) (started : os.Started) (H : Type) (enc : TypeId × Value → H) :
    ReturnsInHanded {} Try.checked os 3 .any (Rows.fieldLawsSpec.pre6 enc Try.prog Try.f3 Rows.fieldLawsRow.domain false) (Rows.fieldLawsSpec.post enc Try.prog Try.f3 false true false false) := by
  refine returnsInHanded_of_change (C := Try.checked) own started (by kernel_rfl) Try.func3
    (ChangeSpec.witness6 (enc := enc) (C := Try.checked) false ⟨#[], #[.int .u64 0, .int .u64 0, .int .u64 0], []⟩ 8 (by kernel_rfl) (by kernel_rfl) (by kernel_rfl) (by kernel_rfl)) ?_
  intro W base args ds gs before hval0 hW hcnd _
  have hval : ∀ (j : Nat) t v, Try.f3.params[j]? = some t → args[j]? = some v → Value.okWide Try.prog W .any base t v := hval0
  have hW' := hW
  obtain ⟨p, q, hA0, hV, rfl, hfz, hnd⟩ := hW
  have hA : DataW.TrodAll enc Try.prog W 0 (fun _ => true) true Try.f3.params.toList args.toList ds p := hA0
  rw [Try.params3] at hA hval
  obtain ⟨v0, vs0, d0, ds0, p0, q0, hargs, rfl, rfl, h0, r0⟩ := trodAll_cons hA
  obtain ⟨v1, vs1, d1, ds1, p1, q1, rfl, rfl, rfl, h1, r1⟩ := trodAll_cons r0
  obtain ⟨v2, vs2, d2, ds2, p2, q2, rfl, rfl, rfl, h2, r2⟩ := trodAll_cons r1
  obtain ⟨rfl, rfl, rfl⟩ := trodAll_nil r2
  obtain rfl : args = #[v0, v1, v2] := by cases args; simp_all
  obtain ⟨rfl, rfl⟩ := trodVars_none hV
  obtain ⟨a0, rfl, rfl, rfl, wa0⟩ := openU64 (hval 0 22 v0 rfl rfl) h0
  obtain ⟨a1, rfl, rfl, rfl, wa1⟩ := openU64 (hval 1 22 v1 rfl rfl) h1
  obtain ⟨a2, rfl, rfl, rfl, wa2⟩ := openU64 (hval 2 22 v2 rfl rfl) h2
  clear hA0 hval0
  simp only [List.append_nil] at hW'
  refine (walk a0 a1 a2 wa0 wa1 wa2 W).mono fun e W' ⟨he, hg⟩ => ?_
  subst he
  exact ⟨_, rfl, post_below (pa := []) (pv := []) hW' (fun _ _ _ => (trodAll_cons_mk (shut_bool Try.underlying4 _) trodAll_mk0)) (fun sp _ => (trodAll_cons_mk (shutU64 wa0) (trodAll_cons_mk (shutU64 wa1) (trodAll_cons_mk (shutU64 wa2) trodAll_mk0)))) (fun _ _ => rfl) rfl hg (ok_one (by kernel_rfl) rfl (okWide_bool_mk Try.underlying4 _))⟩

theorem over : Rows.fieldLawsRow.holds Try.pinned (OpenSpec.ofChange Rows.fieldLawsSpec) :=
  OpenClaim.holds_of_wide 3 Try.f3 rfl rfl rfl rfl rfl rfl rfl ⟨rfl, rfl, rfl, rfl, rfl⟩ rfl rfl rfl rfl rfl (by kernel_rfl) Try.func3 (by kernel_rfl)
    (of_decide_eq_true (by kernel_rfl)) (by unfold Func.isWrapper; first | (rw [if_pos (by decide +kernel)]; kernel_rfl) | (rw [if_neg (by decide +kernel)]; exact ⟨rfl, rfl⟩))
    (fun os started H enc _ => lifted os started H enc)

/-- THE STATEMENT -/
theorem proved : Rows.FieldLawsSaid := over

end Go.Proofs.Ytpmmjomejackkaa.lawFieldLaws
