/- The statement FieldReckons: sums, differences, products, powers, inverses and roots are the document's. Any two numbers: no conditions. -/
import Derived.Test.YtpmmjomejackkaaRow
import Derived.Test.YtpmmjomejackkaaFldT
namespace Go.Proofs.Ytpmmjomejackkaa.lawFieldReckons
open Go.ChangeShapes Go.WideShapes Go.ChangeAt Go.RowKit Go.Phx Go.Shelf

set_option maxHeartbeats 4000000 in
theorem walk (a0 a1 : Int) (wa0 : (Lit.int .u64 a0).wf = true) (wa1 : (Lit.int .u64 a1).wf = true) (w : World) :
    Calls Try.prog 5 #[.int .u64 a0, .int .u64 a1] w (Ret w (.bool true)) := by
  obtain ⟨ha, _⟩ := bounds_u64 wa0
  obtain ⟨hb, hb2⟩ := bounds_u64 wa1
  clear wa0 wa1
  go_enter Try.func5, Try.ntmps5
  go_wp2_with fail
  refine (shown09 _).mono ?_
  rintro e w' ⟨rfl, hB⟩
  go_wp2_with (first
    | (go_at_call 25; refine (root_calls _ ha _).mono ?_; rintro e w' ⟨rfl, hB⟩)
    | (go_at_call 26; refine (rroot_calls _ ha _).mono ?_; rintro e w' ⟨rfl, rfl⟩)
    | (go_at_call 21; refine (mul_calls _ _ (by first | assumption | exact vz_nonneg _ | omega) (by first | assumption | exact vz_nonneg _ | omega) _).mono ?_; rintro e w' ⟨rfl, rfl⟩)
    | (go_at_call 22; refine (add_calls _ _ (by first | assumption | exact vz_nonneg _ | omega) (by first | assumption | exact vz_nonneg _ | omega) _).mono ?_; rintro e w' ⟨rfl, rfl⟩)
    | (go_at_call 23; refine (sub_calls _ _ (by first | assumption | exact vz_nonneg _ | omega) (by first | assumption | exact vz_nonneg _ | omega) _).mono ?_; rintro e w' ⟨rfl, rfl⟩)
    | (go_at_call 24; refine (pow_calls _ _ (by first | assumption | exact vz_nonneg _ | omega) (by first | assumption | exact vz_nonneg _ | omega) (by first | assumption | exact vz_nonneg _ | omega) _).mono ?_; rintro e w' ⟨rfl, hB⟩)
    | (go_at_call 31; refine (inv_calls _ (by first | assumption | exact vz_nonneg _ | omega) _).mono ?_; rintro e w' ⟨rfl, hB⟩)
    | (go_at_call 29; refine (rmul_calls _ _ (by first | assumption | exact vz_nonneg _ | omega) (by first | assumption | exact vz_nonneg _ | omega) _).mono ?_; rintro e w' ⟨rfl, rfl⟩)
    | (go_at_call 27; refine (radd_calls _ _ (by first | assumption | exact vz_nonneg _ | omega) (by first | assumption | exact vz_nonneg _ | omega) _).mono ?_; rintro e w' ⟨rfl, rfl⟩)
    | (go_at_call 28; refine (rsub_calls _ _ (by first | assumption | exact vz_nonneg _ | omega) (by first | assumption | exact vz_nonneg _ | omega) _).mono ?_; rintro e w' ⟨rfl, rfl⟩)
    | (go_at_call 30; refine (rpow_calls _ _ (by first | assumption | exact vz_nonneg _ | omega) (by first | assumption | exact vz_nonneg _ | omega) (by first | assumption | exact vz_nonneg _ | omega) _).mono ?_; rintro e w' ⟨rfl, rfl⟩)
    | (go_at_call 32; refine (rinv_calls _ (by first | assumption | exact vz_nonneg _ | omega) _).mono ?_; rintro e w' ⟨rfl, rfl⟩))
  go_ret
  exact ⟨rfl, (by repeat (first | assumption | exact Below.refl _ _ | refine Below.setCell ?_ (by first | exact Nat.le_refl _ | (simp; done) | omega | (simp; omega)) _ | refine Below.alloc ?_ (by first | exact Nat.le_refl _ | (simp; done) | omega | (simp; omega)) _ | refine below_drewN ?_ _ | refine Below.drew ?_ | refine Below.on (by assumption) ?_ | refine Below.via (by assumption) (by first | exact Nat.le_refl _ | (simp; done) | omega | (simp; omega)) ?_))⟩

set_option maxRecDepth 100000 in
theorem lifted (os : Os) (started : os.Started) (H : Type) (enc : TypeId × Value → H) :
    ReturnsInHanded {} Try.checked os 5 .any (Rows.fieldReckonsSpec.pre6 enc Try.prog Try.f5 Rows.fieldReckonsRow.domain false) (Rows.fieldReckonsSpec.post enc Try.prog Try.f5 false true false false) := by
  refine returnsInHanded_of_change (C := Try.checked) own started (by kernel_rfl) Try.func5
    (ChangeSpec.witness6 (enc := enc) (C := Try.checked) false ⟨#[], #[.int .u64 0, .int .u64 0], []⟩ 8 (by kernel_rfl) (by kernel_rfl) (by kernel_rfl) (by kernel_rfl)) ?_
  intro W base args ds gs before hval0 hW hcnd _
  have hval : ∀ (j : Nat) t v, Try.f5.params[j]? = some t → args[j]? = some v → Value.okWide Try.prog W .any base t v := hval0
  have hW' := hW
  obtain ⟨p, q, hA0, hV, rfl, hfz, hnd⟩ := hW
  have hA : DataW.TrodAll enc Try.prog W 0 (fun _ => true) true Try.f5.params.toList args.toList ds p := hA0
  rw [Try.params5] at hA hval
  obtain ⟨v0, vs0, d0, ds0, p0, q0, hargs, rfl, rfl, h0, r0⟩ := trodAll_cons hA
  obtain ⟨v1, vs1, d1, ds1, p1, q1, rfl, rfl, rfl, h1, r1⟩ := trodAll_cons r0
  obtain ⟨rfl, rfl, rfl⟩ := trodAll_nil r1
  obtain rfl : args = #[v0, v1] := by cases args; simp_all
  obtain ⟨rfl, rfl⟩ := trodVars_none hV
  obtain ⟨a0, rfl, rfl, rfl, wa0⟩ := openU64 (hval 0 22 v0 rfl rfl) h0
  obtain ⟨a1, rfl, rfl, rfl, wa1⟩ := openU64 (hval 1 22 v1 rfl rfl) h1
  clear hA0 hval0
  simp only [List.append_nil] at hW'
  refine (walk a0 a1 wa0 wa1 W).mono fun e W' ⟨he, hg⟩ => ?_
  subst he
  exact ⟨_, rfl, post_below (pa := []) (pv := []) hW' (fun _ _ _ => (trodAll_cons_mk (shut_bool Try.underlying4 _) trodAll_mk0)) (fun sp _ => (trodAll_cons_mk (shutU64 wa0) (trodAll_cons_mk (shutU64 wa1) trodAll_mk0))) (fun _ _ => rfl) rfl hg (ok_one (by kernel_rfl) rfl (okWide_bool_mk Try.underlying4 _))⟩

theorem over : Rows.fieldReckonsRow.holds Try.pinned (OpenSpec.ofChange Rows.fieldReckonsSpec) :=
  OpenClaim.holds_of_wide 5 Try.f5 rfl rfl rfl rfl rfl rfl rfl ⟨rfl, rfl, rfl, rfl, rfl⟩ rfl rfl rfl rfl rfl (by kernel_rfl) Try.func5 (by kernel_rfl)
    (of_decide_eq_true (by kernel_rfl)) (by unfold Func.isWrapper; first | (rw [if_pos (by decide +kernel)]; kernel_rfl) | (rw [if_neg (by decide +kernel)]; exact ⟨rfl, rfl⟩))
    (fun os started H enc _ => lifted os started H enc)

/-- THE STATEMENT -/
theorem proved : Rows.FieldReckonsSaid := over

end Go.Proofs.Ytpmmjomejackkaa.lawFieldReckons
