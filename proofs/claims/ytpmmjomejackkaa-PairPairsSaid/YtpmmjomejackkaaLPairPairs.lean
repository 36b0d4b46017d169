/- The statement PairPairs: the pairing of two points is the document's. Any input: no conditions. -/
import Derived.Test.YtpmmjomejackkaaRow2
import Derived.Test.YtpmmjomejackkaaPr6
namespace Go.Proofs.Ytpmmjomejackkaa.lawPairPairs
open BigFrame Go.ChangeShapes Go.WideShapes Go.ChangeAt Go.RowKit Go.Phx Go.Shelf

set_option maxRecDepth 100000 in
set_option maxHeartbeats 8000000 in
theorem walk (a0 b0 : Int) (c0 : Bool) (a1 b1 : Int) (c1 : Bool) (wa0 : (Lit.int .u64 a0).wf = true) (wb0 : (Lit.int .u64 b0).wf = true) (wa1 : (Lit.int .u64 a1).wf = true) (wb1 : (Lit.int .u64 b1).wf = true) (w : World) :
    Calls Try.prog 15 #[.agg #[.int .u64 a0, .int .u64 b0, .bool c0], .agg #[.int .u64 a1, .int .u64 b1, .bool c1]] w (Ret w (.bool true)) := by
  obtain ⟨hx0, _⟩ := bounds_u64 wa0
  obtain ⟨hy0, _⟩ := bounds_u64 wb0
  obtain ⟨hx1, _⟩ := bounds_u64 wa1
  obtain ⟨hy1, _⟩ := bounds_u64 wb1
  clear wa0 wb0 wa1 wb1
  have n1 := pair_of a0 b0 c0 a1 b1 c1 hx0 hy0 hx1 hy1
  have n2 := rpair_of a0 b0 c0 a1 b1 c1 hx0 hy0 hx1 hy1
  clear hx0 hy0 hx1 hy1
  generalize pairR a0 b0 c0 a1 b1 c1 = L at *
  go_enter Try.func15, Try.ntmps15
  go_wp2_with fail
  refine (shown11 _).mono ?_
  rintro e w1 ⟨rfl, hB⟩
  (have HBn : Below w.heap.size w w1 := Below.on hB (by repeat (first | assumption | exact Below.refl _ _ | refine Below.setCell ?_ (by first | exact Nat.le_refl _ | (simp; done) | omega | (simp; omega)) _ | refine Below.alloc ?_ (by first | exact Nat.le_refl _ | (simp; done) | omega | (simp; omega)) _ | refine below_drewN ?_ _ | refine Below.drew ?_ | refine Below.on (by assumption) ?_ | refine Below.via (by assumption) (by first | exact Nat.le_refl _ | (simp; done) | omega | (simp; omega)) ?_)); have N0 := Lib.hid (Blk.below (g := w.heap.size) (by repeat (first | with_reducible exact Blk.new0 _ _ _ | with_reducible exact Blk.new1 _ _ _ _ | with_reducible exact Blk.new2 _ _ _ _ _ | with_reducible exact Blk.new3 _ _ _ _ _ _ | with_reducible exact Blk.new4 _ _ _ _ _ _ _ | with_reducible apply Blk.set_ | with_reducible apply Blk.alloc | with_reducible apply Blk.drewN | with_reducible apply Blk.drew | (with_reducible apply Blk.over; first | (intro h; omega) | (simp; done) | (simp; omega)))) hB); (try simp only [List.setIfInBounds_toArray, List.set_cons_succ, List.set_cons_zero] at N0); have N1 := Lib.hid (Blk.below (g := w.heap.size + 1) (by repeat (first | with_reducible exact Blk.new0 _ _ _ | with_reducible exact Blk.new1 _ _ _ _ | with_reducible exact Blk.new2 _ _ _ _ _ | with_reducible exact Blk.new3 _ _ _ _ _ _ | with_reducible exact Blk.new4 _ _ _ _ _ _ _ | with_reducible apply Blk.set_ | with_reducible apply Blk.alloc | with_reducible apply Blk.drewN | with_reducible apply Blk.drew | (with_reducible apply Blk.over; first | (intro h; omega) | (simp; done) | (simp; omega)))) hB); (try simp only [List.setIfInBounds_toArray, List.set_cons_succ, List.set_cons_zero] at N1); (try clear HB); clear hB; have HB := HBn; clear HBn; have HZw1 := HB.size; have K0 := N0; clear N0; have k0 := Blk.cell K0.out; have f0 := Blk.free K0.out; have l0 := Blk.lt K0.out; have m0 := Nat.le_of_lt l0; have K1 := N1; clear N1; have k1 := Blk.cell K1.out; have f1 := Blk.free K1.out; have l1 := Blk.lt K1.out; have m1 := Nat.le_of_lt l1)
  go_wp2_with fail
  refine (n1 _).mono ?_
  rintro e w2 ⟨rfl, hB⟩
  (have HBn : Below w.heap.size w w2 := Below.on hB (by repeat (first | assumption | exact Below.refl _ _ | refine Below.setCell ?_ (by first | exact Nat.le_refl _ | (simp; done) | omega | (simp; omega)) _ | refine Below.alloc ?_ (by first | exact Nat.le_refl _ | (simp; done) | omega | (simp; omega)) _ | refine below_drewN ?_ _ | refine Below.drew ?_ | refine Below.on (by assumption) ?_ | refine Below.via (by assumption) (by first | exact Nat.le_refl _ | (simp; done) | omega | (simp; omega)) ?_)); have N0 := Lib.hid (Blk.below (g := w.heap.size) (by repeat (first | with_reducible exact K0.out | with_reducible exact Blk.new0 _ _ _ | with_reducible exact Blk.new1 _ _ _ _ | with_reducible exact Blk.new2 _ _ _ _ _ | with_reducible exact Blk.new3 _ _ _ _ _ _ | with_reducible exact Blk.new4 _ _ _ _ _ _ _ | with_reducible apply Blk.set_ | with_reducible apply Blk.alloc | with_reducible apply Blk.drewN | with_reducible apply Blk.drew | (with_reducible apply Blk.over; first | (intro h; omega) | (simp; done) | (simp; omega)))) hB); (try simp only [List.setIfInBounds_toArray, List.set_cons_succ, List.set_cons_zero] at N0); have N1 := Lib.hid (Blk.below (g := w.heap.size + 1) (by repeat (first | with_reducible exact K1.out | with_reducible exact Blk.new0 _ _ _ | with_reducible exact Blk.new1 _ _ _ _ | with_reducible exact Blk.new2 _ _ _ _ _ | with_reducible exact Blk.new3 _ _ _ _ _ _ | with_reducible exact Blk.new4 _ _ _ _ _ _ _ | with_reducible apply Blk.set_ | with_reducible apply Blk.alloc | with_reducible apply Blk.drewN | with_reducible apply Blk.drew | (with_reducible apply Blk.over; first | (intro h; omega) | (simp; done) | (simp; omega)))) hB); (try simp only [List.setIfInBounds_toArray, List.set_cons_succ, List.set_cons_zero] at N1); clear K0 k0 f0 l0 m0 K1 k1 f1 l1 m1; (try clear HB); clear hB; have HB := HBn; clear HBn; have HZw2 := HB.size; have K0 := N0; clear N0; have k0 := Blk.cell K0.out; have f0 := Blk.free K0.out; have l0 := Blk.lt K0.out; have m0 := Nat.le_of_lt l0; have K1 := N1; clear N1; have k1 := Blk.cell K1.out; have f1 := Blk.free K1.out; have l1 := Blk.lt K1.out; have m1 := Nat.le_of_lt l1)
  go_wp2_with fail
  refine (n2 _).mono ?_
  rintro e w3 ⟨rfl, hB⟩
  (have HBn : Below w.heap.size w w3 := Below.on hB (by repeat (first | assumption | exact Below.refl _ _ | refine Below.setCell ?_ (by first | exact Nat.le_refl _ | (simp; done) | omega | (simp; omega)) _ | refine Below.alloc ?_ (by first | exact Nat.le_refl _ | (simp; done) | omega | (simp; omega)) _ | refine below_drewN ?_ _ | refine Below.drew ?_ | refine Below.on (by assumption) ?_ | refine Below.via (by assumption) (by first | exact Nat.le_refl _ | (simp; done) | omega | (simp; omega)) ?_)); have N0 := Lib.hid (Blk.below (g := w.heap.size) (by repeat (first | with_reducible exact K0.out | with_reducible exact Blk.new0 _ _ _ | with_reducible exact Blk.new1 _ _ _ _ | with_reducible exact Blk.new2 _ _ _ _ _ | with_reducible exact Blk.new3 _ _ _ _ _ _ | with_reducible exact Blk.new4 _ _ _ _ _ _ _ | with_reducible apply Blk.set_ | with_reducible apply Blk.alloc | with_reducible apply Blk.drewN | with_reducible apply Blk.drew | (with_reducible apply Blk.over; first | (intro h; omega) | (simp; done) | (simp; omega)))) hB); (try simp only [List.setIfInBounds_toArray, List.set_cons_succ, List.set_cons_zero] at N0); have N1 := Lib.hid (Blk.below (g := w.heap.size + 1) (by repeat (first | with_reducible exact K1.out | with_reducible exact Blk.new0 _ _ _ | with_reducible exact Blk.new1 _ _ _ _ | with_reducible exact Blk.new2 _ _ _ _ _ | with_reducible exact Blk.new3 _ _ _ _ _ _ | with_reducible exact Blk.new4 _ _ _ _ _ _ _ | with_reducible apply Blk.set_ | with_reducible apply Blk.alloc | with_reducible apply Blk.drewN | with_reducible apply Blk.drew | (with_reducible apply Blk.over; first | (intro h; omega) | (simp; done) | (simp; omega)))) hB); (try simp only [List.setIfInBounds_toArray, List.set_cons_succ, List.set_cons_zero] at N1); have N2 := Lib.hid (Blk.below (g := w2.heap.size) (by repeat (first | with_reducible exact Blk.new0 _ _ _ | with_reducible exact Blk.new1 _ _ _ _ | with_reducible exact Blk.new2 _ _ _ _ _ | with_reducible exact Blk.new3 _ _ _ _ _ _ | with_reducible exact Blk.new4 _ _ _ _ _ _ _ | with_reducible apply Blk.set_ | with_reducible apply Blk.alloc | with_reducible apply Blk.drewN | with_reducible apply Blk.drew | (with_reducible apply Blk.over; first | (intro h; omega) | (simp; done) | (simp; omega)))) hB); (try simp only [List.setIfInBounds_toArray, List.set_cons_succ, List.set_cons_zero] at N2); clear K0 k0 f0 l0 m0 K1 k1 f1 l1 m1; (try clear HB); clear hB; have HB := HBn; clear HBn; have HZw3 := HB.size; have K0 := N0; clear N0; have k0 := Blk.cell K0.out; have f0 := Blk.free K0.out; have l0 := Blk.lt K0.out; have m0 := Nat.le_of_lt l0; have K1 := N1; clear N1; have k1 := Blk.cell K1.out; have f1 := Blk.free K1.out; have l1 := Blk.lt K1.out; have m1 := Nat.le_of_lt l1; have K2 := N2; clear N2; have k2 := Blk.cell K2.out; have f2 := Blk.free K2.out; have l2 := Blk.lt K2.out; have m2 := Nat.le_of_lt l2)
  go_wp2_with fail
  go_ret
  exact ⟨rfl, (by repeat (first | assumption | exact Below.refl _ _ | refine Below.setCell ?_ (by first | exact Nat.le_refl _ | (simp; done) | omega | (simp; omega)) _ | refine Below.alloc ?_ (by first | exact Nat.le_refl _ | (simp; done) | omega | (simp; omega)) _ | refine below_drewN ?_ _ | refine Below.drew ?_ | refine Below.on (by assumption) ?_ | refine Below.via (by assumption) (by first | exact Nat.le_refl _ | (simp; done) | omega | (simp; omega)) ?_))⟩

set_option maxRecDepth 100000 in
theorem lifted (os : Os) (started : os.Started) (H : Type) (enc : TypeId × Value → H) :
    ReturnsInHanded {} Try.checked os 15 .any (Rows.pairPairsSpec.pre6 enc Try.prog Try.f15 Rows.pairPairsRow.domain false) (Rows.pairPairsSpec.post enc Try.prog Try.f15 false true false false) := by
  refine returnsInHanded_of_change (C := Try.checked) own started (by kernel_rfl) Try.func15
    (ChangeSpec.witness6 (enc := enc) (C := Try.checked) false ⟨#[], #[.agg #[.int .u64 0, .int .u64 0, .bool false], .agg #[.int .u64 0, .int .u64 0, .bool false]], []⟩ 8 (by kernel_rfl) (by kernel_rfl) (by kernel_rfl) (by kernel_rfl)) ?_
  intro W base args ds gs before hval0 hW hcnd _
  have hval : ∀ (j : Nat) t v, Try.f15.params[j]? = some t → args[j]? = some v → Value.okWide Try.prog W .any base t v := hval0
  have hW' := hW
  obtain ⟨p, q, hA0, hV, rfl, hfz, hnd⟩ := hW
  have hA : DataW.TrodAll enc Try.prog W 0 (fun _ => true) true Try.f15.params.toList args.toList ds p := hA0
  rw [Try.params15] at hA hval
  obtain ⟨v0, vs0, d0, ds0, p0, q0, hargs, rfl, rfl, h0, r0⟩ := trodAll_cons hA
  obtain ⟨v1, vs1, d1, ds1, p1, q1, rfl, rfl, rfl, h1, r1⟩ := trodAll_cons r0
  obtain ⟨rfl, rfl, rfl⟩ := trodAll_nil r1
  obtain rfl : args = #[v0, v1] := by cases args; simp_all
  obtain ⟨rfl, rfl⟩ := trodVars_none hV
  obtain ⟨a0, b0, c0, rfl, rfl, rfl, wa0, wb0⟩ := openPoint (hval 0 40 v0 rfl rfl) h0
  obtain ⟨a1, b1, c1, rfl, rfl, rfl, wa1, wb1⟩ := openPoint (hval 1 40 v1 rfl rfl) h1
  clear hA0 hval0
  simp only [List.append_nil] at hW'
  refine (walk a0 b0 c0 a1 b1 c1 wa0 wb0 wa1 wb1 W).mono fun e W' ⟨he, hg⟩ => ?_
  subst he
  exact ⟨_, rfl, post_below (pa := []) (pv := []) hW' (fun _ _ _ => (trodAll_cons_mk (shut_bool Try.underlying4 _) trodAll_mk0)) (fun sp _ => (trodAll_cons_mk (shutPoint wa0 wb0) (trodAll_cons_mk (shutPoint wa1 wb1) trodAll_mk0))) (fun _ _ => rfl) rfl hg (ok_one (by kernel_rfl) rfl (okWide_bool_mk Try.underlying4 _))⟩

theorem over : Rows.pairPairsRow.holds Try.pinned (OpenSpec.ofChange Rows.pairPairsSpec) :=
  OpenClaim.holds_of_wide 15 Try.f15 rfl rfl rfl rfl rfl rfl rfl ⟨rfl, rfl, rfl, rfl, rfl⟩ rfl rfl rfl rfl rfl (by kernel_rfl) Try.func15 (by kernel_rfl)
    (of_decide_eq_true (by kernel_rfl)) (by unfold Func.isWrapper; first | (rw [if_pos (by decide +kernel)]; kernel_rfl) | (rw [if_neg (by decide +kernel)]; exact ⟨rfl, rfl⟩))
    (fun os started H enc _ => lifted os started H enc)

/-- THE STATEMENT -/
theorem proved : Rows.PairPairsSaid := over

end Go.Proofs.Ytpmmjomejackkaa.lawPairPairs
