/- The statement FieldExtends: products, powers and inverses of the extension are the document's. Any two numbers of it, any number: no conditions. -/
import Derived.Test.YtpmmjomejackkaaRow
import Derived.Test.YtpmmjomejackkaaFldU
import Derived.Test.YtpmmjomejackkaaLater
namespace Go.Proofs.Ytpmmjomejackkaa.lawFieldExtends
open BigFrame Go.ChangeShapes Go.WideShapes Go.ChangeAt Go.RowKit Go.Phx Go.Shelf

set_option maxRecDepth 100000 in
set_option maxHeartbeats 4000000 in
theorem walk (a0 b0 a1 b1 a2 : Int) (wa0 : (Lit.int .u64 a0).wf = true) (wb0 : (Lit.int .u64 b0).wf = true) (wa1 : (Lit.int .u64 a1).wf = true) (wb1 : (Lit.int .u64 b1).wf = true) (wa2 : (Lit.int .u64 a2).wf = true) (w : World) :
    Calls Try.prog 7 #[.agg #[.int .u64 a0, .int .u64 b0], .agg #[.int .u64 a1, .int .u64 b1], .int .u64 a2] w (Ret w (.bool true)) := by
  obtain ⟨ha0, _⟩ := bounds_u64 wa0
  obtain ⟨hb0, _⟩ := bounds_u64 wb0
  obtain ⟨ha1, _⟩ := bounds_u64 wa1
  obtain ⟨hb1, _⟩ := bounds_u64 wb1
  obtain ⟨ha2, hx2⟩ := bounds_u64 wa2
  clear wa0 wa1 wb0 wb1 wa2
  go_enter Try.func7, Try.ntmps7
  go_wp2_with fail
  refine (shown09 _).mono ?_
  rintro e w' ⟨rfl, hB⟩; obtain ⟨hc, hf⟩ := bcell hB; have hz := hB.size; (try simp at hz); (try simp at hc); (try simp at hf)
  have g1 : w.heap.size < w'.heap.size := by omega
  have g2 : w.heap.size + 1 < w'.heap.size := by omega
  go_wp2_with fail
  refine wp_region_later (by kernel_rfl) (by kernel_rfl) ?_
  repeat (go_big_quiet_step (first
    | (go_at_call 33; exact lq (mul2_x _ _ _ _ (by assumption) (by assumption) (by assumption) (by assumption) _))
    | (go_at_call 35; exact lq (rmul2_x _ _ _ _ (by assumption) (by assumption) (by assumption) (by assumption) _))
    | (go_at_call 34; exact lq (pow2_x _ _ _ (by assumption) (by assumption) (by assumption) (by assumption) _))
    | (go_at_call 36; exact lq (rpow2_x _ _ _ (by assumption) (by assumption) (by assumption) (by assumption) _))
    | (go_at_call 37; exact lq (inv2_x _ _ (by assumption) (by assumption) _))
    | (go_at_call 38; exact lq (rinv2_x _ _ (by assumption) (by assumption) _))))
  refine wpQuiet_nil ?_
  intro w' hB
  go_wp2_with fail
  go_ret
  exact ⟨rfl, (by repeat (first | assumption | exact Below.refl _ _ | refine Below.setCell ?_ (by first | exact Nat.le_refl _ | (simp; done) | omega | (simp; omega)) _ | refine Below.alloc ?_ (by first | exact Nat.le_refl _ | (simp; done) | omega | (simp; omega)) _ | refine below_drewN ?_ _ | refine Below.drew ?_ | refine Below.on (by assumption) ?_ | refine Below.via (by assumption) (by first | exact Nat.le_refl _ | (simp; done) | omega | (simp; omega)) ?_))⟩

set_option maxRecDepth 100000 in
theorem lifted (os : Os) (started : os.Started) (H : Type) (enc : TypeId × Value → H) :
    ReturnsInHanded {} Try.checked os 7 .any (Rows.fieldExtendsSpec.pre6 enc Try.prog Try.f7 Rows.fieldExtendsRow.domain false) (Rows.fieldExtendsSpec.post enc Try.prog Try.f7 false true false false) := by
  refine returnsInHanded_of_change (C := Try.checked) own started (by kernel_rfl) Try.func7
    (ChangeSpec.witness6 (enc := enc) (C := Try.checked) false ⟨#[], #[.agg #[.int .u64 0, .int .u64 0], .agg #[.int .u64 0, .int .u64 0], .int .u64 0], []⟩ 8 (by kernel_rfl) (by kernel_rfl) (by kernel_rfl) (by kernel_rfl)) ?_
  intro W base args ds gs before hval0 hW hcnd _
  have hval : ∀ (j : Nat) t v, Try.f7.params[j]? = some t → args[j]? = some v → Value.okWide Try.prog W .any base t v := hval0
  have hW' := hW
  obtain ⟨p, q, hA0, hV, rfl, hfz, hnd⟩ := hW
  have hA : DataW.TrodAll enc Try.prog W 0 (fun _ => true) true Try.f7.params.toList args.toList ds p := hA0
  rw [Try.params7] at hA hval
  obtain ⟨v0, vs0, d0, ds0, p0, q0, hargs, rfl, rfl, h0, r0⟩ := trodAll_cons hA
  obtain ⟨v1, vs1, d1, ds1, p1, q1, rfl, rfl, rfl, h1, r1⟩ := trodAll_cons r0
  obtain ⟨v2, vs2, d2, ds2, p2, q2, rfl, rfl, rfl, h2, r2⟩ := trodAll_cons r1
  obtain ⟨rfl, rfl, rfl⟩ := trodAll_nil r2
  obtain rfl : args = #[v0, v1, v2] := by cases args; simp_all
  obtain ⟨rfl, rfl⟩ := trodVars_none hV
  obtain ⟨a0, b0, rfl, rfl, rfl, wa0, wb0⟩ := openPair2 (hval 0 32 v0 rfl rfl) h0
  obtain ⟨a1, b1, rfl, rfl, rfl, wa1, wb1⟩ := openPair2 (hval 1 32 v1 rfl rfl) h1
  obtain ⟨a2, rfl, rfl, rfl, wa2⟩ := openU64 (hval 2 22 v2 rfl rfl) h2
  clear hA0 hval0
  simp only [List.append_nil] at hW'
  refine (walk a0 b0 a1 b1 a2 wa0 wb0 wa1 wb1 wa2 W).mono fun e W' ⟨he, hg⟩ => ?_
  subst he
  exact ⟨_, rfl, post_below (pa := []) (pv := []) hW' (fun _ _ _ => (trodAll_cons_mk (shut_bool Try.underlying4 _) trodAll_mk0)) (fun sp _ => (trodAll_cons_mk (shutPair2 wa0 wb0) (trodAll_cons_mk (shutPair2 wa1 wb1) (trodAll_cons_mk (shutU64 wa2) trodAll_mk0)))) (fun _ _ => rfl) rfl hg (ok_one (by kernel_rfl) rfl (okWide_bool_mk Try.underlying4 _))⟩

theorem over : Rows.fieldExtendsRow.holds Try.pinned (OpenSpec.ofChange Rows.fieldExtendsSpec) :=
  OpenClaim.holds_of_wide 7 Try.f7 rfl rfl rfl rfl rfl rfl rfl ⟨rfl, rfl, rfl, rfl, rfl⟩ rfl rfl rfl rfl rfl (by kernel_rfl) Try.func7 (by kernel_rfl)
    (of_decide_eq_true (by kernel_rfl)) (by unfold Func.isWrapper; first | (rw [if_pos (by decide +kernel)]; kernel_rfl) | (rw [if_neg (by decide +kernel)]; exact ⟨rfl, rfl⟩))
    (fun os started H enc _ => lifted os started H enc)

/-- THE STATEMENT -/
theorem proved : Rows.FieldExtendsSaid := over

end Go.Proofs.Ytpmmjomejackkaa.lawFieldExtends
