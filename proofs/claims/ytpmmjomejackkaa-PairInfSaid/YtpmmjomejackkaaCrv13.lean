/- Which points are of the group, by the curve's package and by the reference; the curve's statements' own first test. -/
import Derived.Test.YtpmmjomejackkaaCrv12
import Derived.Test.YtpmmjomejackkaaBlk
set_option linter.unusedSimpArgs false
set_option linter.unusedVariables false
namespace Go.Proofs.Ytpmmjomejackkaa
open BigFrame Go.RowKit Go.Phx Go.Shelf
attribute [local go_sem] Oper.semAt_some

theorem fldInf (a b c : Value) (w : World) : (Instr.field 40 (.agg #[a, b, c]) 2).run Try.prog w = .ok c w := by kernel_rfl
attribute [local go_sem] fldInf
theorem inG_pf {p : E} (hp : onE p = true) : inG p = pf (timesE 536870717 p) := by
  unfold inG
  rw [hp, Bool.true_and]
  rcases timesE 536870717 p with _ | ⟨x, y⟩
  · rfl
  · rfl
/-- do these say a point of the group? -/
noncomputable def inR (x y : Int) (i : Bool) : Bool := (said x y i).any inG
/-- a point in a cell -/
def Pt (b : Nat) (p : E) (W : World) : Prop :=
  (W.cell? ⟨b, 0, none⟩ = some (.int .u64 (px p)) ∧ W.cell? ⟨b, 1, none⟩ = some (.int .u64 (py p)) ∧ W.cell? ⟨b, 2, none⟩ = some (.bool (pf p))) ∧ b < W.heap.size
theorem Pt.on {b : Nat} {p : E} {W W2 : World} (h : Pt b p W) (hB : Below W.heap.size W W2) : Pt b p W2 := by
  obtain ⟨⟨c0, c1, c2⟩, hz⟩ := h
  obtain ⟨hc, hf⟩ := bcell hB
  have hz2 := hB.size
  refine ⟨⟨?_, ?_, ?_⟩, ?_⟩
  all_goals first | (rw [hc _ _ (by omega)]; assumption) | omega
theorem Pt.new (p : E) (t : TypeId) (W : World) : Pt W.heap.size p (W.alloc (.cells #[.int .u64 (px p), .int .u64 (py p), .bool (pf p)] t)) := by
  refine ⟨⟨?_, ?_, ?_⟩, ?_⟩
  all_goals simp [go_sem]
theorem Pt.alloc {b : Nat} {p : E} {W : World} (h : Pt b p W) (o : Obj) : Pt b p (W.alloc o) := h.on ((Below.refl _ _).alloc (Nat.le_refl _) _)

set_option maxRecDepth 100000 in
set_option maxHeartbeats 2000000 in
theorem in_bad (x y : Int) (i : Bool) (hx : 0 ≤ x) (hy : 0 ≤ y) (h : isOn x y i = false) (w : World) :
    Calls Try.prog 48 #[.agg #[.int .u64 x, .int .u64 y, .bool i]] w (Ret w (.bool false)) := by
  have n1 := on_x hx hy h
  go_enter Try.func48, Try.ntmps48
  go_wp2_with fail
  refine (n1 _).mono ?_
  rintro e w1 ⟨rfl, hB1⟩
  go_wp2_with fail
  go_ret
  exact ⟨rfl, (by repeat (first | assumption | exact Below.refl _ _ | refine Below.setCell ?_ (by first | exact Nat.le_refl _ | (simp; done) | omega | (simp; omega)) _ | refine Below.alloc ?_ (by first | exact Nat.le_refl _ | (simp; done) | omega | (simp; omega)) _ | refine below_drewN ?_ _ | refine Below.drew ?_ | refine Below.on (by assumption) ?_ | refine Below.via (by assumption) (by first | exact Nat.le_refl _ | (simp; done) | omega | (simp; omega)) ?_))⟩

set_option maxRecDepth 100000 in
set_option maxHeartbeats 2000000 in
theorem in_good (p : E) (hp : onE p = true) (w : World) :
    Calls Try.prog 48 #[.agg #[.int .u64 (px p), .int .u64 (py p), .bool (pf p)]] w (Ret w (.bool (inG p))) := by
  have n1 := on_p hp
  have n3 := times_u p 536870717 (by decide) (by decide)
  rw [inG_pf hp]
  go_enter Try.func48, Try.ntmps48
  go_wp2_with fail
  refine (n1 _).mono ?_
  rintro e w1 ⟨rfl, hB1⟩
  have HT := Lib.hid ((Pt.new p 40 w).on hB1)
  have hB0 : Below w.heap.size w w1 := (by repeat (first | assumption | exact Below.refl _ _ | refine Below.setCell ?_ (by first | exact Nat.le_refl _ | (simp; done) | omega | (simp; omega)) _ | refine Below.alloc ?_ (by first | exact Nat.le_refl _ | (simp; done) | omega | (simp; omega)) _ | refine below_drewN ?_ _ | refine Below.drew ?_ | refine Below.on (by assumption) ?_ | refine Below.via (by assumption) (by first | exact Nat.le_refl _ | (simp; done) | omega | (simp; omega)) ?_))
  clear hB1
  obtain ⟨⟨c0, c1, c2⟩, hz⟩ := HT.out
  go_wp2_with fail
  refine (n3 _).mono ?_
  rintro e w2 ⟨rfl, hB2⟩
  clear c0 c1 c2 hz
  go_wp2_with fail
  go_ret
  exact ⟨rfl, (by repeat (first | assumption | exact Below.refl _ _ | refine Below.setCell ?_ (by first | exact Nat.le_refl _ | (simp; done) | omega | (simp; omega)) _ | refine Below.alloc ?_ (by first | exact Nat.le_refl _ | (simp; done) | omega | (simp; omega)) _ | refine below_drewN ?_ _ | refine Below.drew ?_ | refine Below.on (by assumption) ?_ | refine Below.via (by assumption) (by first | exact Nat.le_refl _ | (simp; done) | omega | (simp; omega)) ?_))⟩
theorem in_of (x y : Int) (i : Bool) (hx : 0 ≤ x) (hy : 0 ≤ y) (w : World) :
    Calls Try.prog 48 #[.agg #[.int .u64 x, .int .u64 y, .bool i]] w (Ret w (.bool (inR x y i))) := by
  cases h : isOn x y i
  · rw [show inR x y i = false from by unfold inR; rw [said_none h]; rfl]
    exact in_bad x y i hx hy h w
  · obtain ⟨p, hp, h1, rfl, rfl, rfl⟩ := said_some hx hy h
    rw [show inR (px p) (py p) (pf p) = inG p from by unfold inR; rw [h1]; rfl]
    exact in_good p hp w

set_option maxRecDepth 100000 in
set_option maxHeartbeats 2000000 in
theorem rin_bad (x y : Int) (i : Bool) (hx : 0 ≤ x) (hy : 0 ≤ y) (h : isOn x y i = false) (w : World) :
    Calls Try.prog 49 #[.agg #[.int .u64 x, .int .u64 y, .bool i]] w (Ret w (.bool false)) := by
  have n1 := ron_x hx hy h
  go_enter Try.func49, Try.ntmps49
  go_wp2_with fail
  refine (n1 _).mono ?_
  rintro e w1 ⟨rfl, hB1⟩
  go_wp2_with fail
  go_ret
  exact ⟨rfl, (by repeat (first | assumption | exact Below.refl _ _ | refine Below.setCell ?_ (by first | exact Nat.le_refl _ | (simp; done) | omega | (simp; omega)) _ | refine Below.alloc ?_ (by first | exact Nat.le_refl _ | (simp; done) | omega | (simp; omega)) _ | refine below_drewN ?_ _ | refine Below.drew ?_ | refine Below.on (by assumption) ?_ | refine Below.via (by assumption) (by first | exact Nat.le_refl _ | (simp; done) | omega | (simp; omega)) ?_))⟩

set_option maxRecDepth 100000 in
set_option maxHeartbeats 2000000 in
theorem rin_good (p : E) (hp : onE p = true) (w : World) :
    Calls Try.prog 49 #[.agg #[.int .u64 (px p), .int .u64 (py p), .bool (pf p)]] w (Ret w (.bool (inG p))) := by
  have n1 := ron_p hp
  have n3 := rmany_u p 536870717 (by decide) (by decide)
  rw [inG_pf hp]
  go_enter Try.func49, Try.ntmps49
  go_wp2_with fail
  refine (n1 _).mono ?_
  rintro e w1 ⟨rfl, hB1⟩
  have HT := Lib.hid ((Pt.new p 40 w).on hB1)
  have hB0 : Below w.heap.size w w1 := (by repeat (first | assumption | exact Below.refl _ _ | refine Below.setCell ?_ (by first | exact Nat.le_refl _ | (simp; done) | omega | (simp; omega)) _ | refine Below.alloc ?_ (by first | exact Nat.le_refl _ | (simp; done) | omega | (simp; omega)) _ | refine below_drewN ?_ _ | refine Below.drew ?_ | refine Below.on (by assumption) ?_ | refine Below.via (by assumption) (by first | exact Nat.le_refl _ | (simp; done) | omega | (simp; omega)) ?_))
  clear hB1
  obtain ⟨⟨c0, c1, c2⟩, hz⟩ := HT.out
  go_wp2_with fail
  refine (n3 _).mono ?_
  rintro e w2 ⟨rfl, hB2⟩
  clear c0 c1 c2 hz
  go_wp2_with fail
  go_ret
  exact ⟨rfl, (by repeat (first | assumption | exact Below.refl _ _ | refine Below.setCell ?_ (by first | exact Nat.le_refl _ | (simp; done) | omega | (simp; omega)) _ | refine Below.alloc ?_ (by first | exact Nat.le_refl _ | (simp; done) | omega | (simp; omega)) _ | refine below_drewN ?_ _ | refine Below.drew ?_ | refine Below.on (by assumption) ?_ | refine Below.via (by assumption) (by first | exact Nat.le_refl _ | (simp; done) | omega | (simp; omega)) ?_))⟩
theorem rin_of (x y : Int) (i : Bool) (hx : 0 ≤ x) (hy : 0 ≤ y) (w : World) :
    Calls Try.prog 49 #[.agg #[.int .u64 x, .int .u64 y, .bool i]] w (Ret w (.bool (inR x y i))) := by
  cases h : isOn x y i
  · rw [show inR x y i = false from by unfold inR; rw [said_none h]; rfl]
    exact rin_bad x y i hx hy h w
  · obtain ⟨p, hp, h1, rfl, rfl, rfl⟩ := said_some hx hy h
    rw [show inR (px p) (py p) (pf p) = inG p from by unfold inR; rw [h1]; rfl]
    exact rin_good p hp w

theorem gen_calls (w : World) : Calls Try.prog 62 #[] w (Ret w (.agg #[.int .u64 (px genE), .int .u64 (py genE), .bool (pf genE)])) := by
  rw [show px genE = 1846166884 from by decide +kernel, show py genE = 1411018613 from by decide +kernel, show pf genE = false from rfl]
  go_enter Try.func62, Try.ntmps62
  go_wp2_with fail
  exact bodyPost_ret (v := .agg #[.int .u64 1846166884, .int .u64 1411018613, .bool false]) (by simp (maxDischargeDepth := 9) [results, Try.results62, go_sem, vp, v2, *]) rfl ⟨rfl, (by repeat (first | assumption | exact Below.refl _ _ | refine Below.setCell ?_ (by first | exact Nat.le_refl _ | (simp; done) | omega | (simp; omega)) _ | refine Below.alloc ?_ (by first | exact Nat.le_refl _ | (simp; done) | omega | (simp; omega)) _ | refine below_drewN ?_ _ | refine Below.drew ?_ | refine Below.on (by assumption) ?_ | refine Below.via (by assumption) (by first | exact Nat.le_refl _ | (simp; done) | omega | (simp; omega)) ?_))⟩

set_option maxRecDepth 100000 in
set_option maxHeartbeats 2000000 in
theorem shown10 (w : World) : Calls Try.prog 39 #[] w (Ret w (.bool true)) := by
  have f1 : (px (addE genE genE) == px genE) = false := by rw [gen_double]; decide +kernel
  have f2 := timesE_2 gen_on
  have n0 := gen_calls
  have n1 := on_p gen_on
  have n2 := on_p (addE_on gen_on gen_on)
  have n3 := add_good genE genE gen_on gen_on
  have n4 := times_good 2 genE (by decide) (by decide) gen_on
  have n5 := in_good genE gen_on
  have n6 := on_x (x := 1) (y := 1) (i := false) (by decide) (by decide) (by unfold isOn; simp; decide +kernel)
  rw [f2] at n4
  rw [gen_in] at n5
  obtain ⟨D, hD⟩ : ∃ D, addE genE genE = D := ⟨_, rfl⟩
  rw [hD] at f1 n2 n3 n4
  clear hD f2
  generalize genE = G at *
  go_enter Try.func39, Try.ntmps39
  go_wp2_with fail
  refine (n0 _).mono ?_
  rintro e w1 ⟨rfl, hB⟩
  (have HBn : Below w.heap.size w w1 := Below.on hB (by repeat (first | assumption | exact Below.refl _ _ | refine Below.setCell ?_ (by first | exact Nat.le_refl _ | (simp; done) | omega | (simp; omega)) _ | refine Below.alloc ?_ (by first | exact Nat.le_refl _ | (simp; done) | omega | (simp; omega)) _ | refine below_drewN ?_ _ | refine Below.drew ?_ | refine Below.on (by assumption) ?_ | refine Below.via (by assumption) (by first | exact Nat.le_refl _ | (simp; done) | omega | (simp; omega)) ?_)); (try clear HB); clear hB; have HB := HBn; clear HBn; have HZw1 := HB.size)
  go_wp2_with fail
  refine (n3 _).mono ?_
  rintro e w2 ⟨rfl, hB⟩
  (have HBn : Below w.heap.size w w2 := Below.on hB (by repeat (first | assumption | exact Below.refl _ _ | refine Below.setCell ?_ (by first | exact Nat.le_refl _ | (simp; done) | omega | (simp; omega)) _ | refine Below.alloc ?_ (by first | exact Nat.le_refl _ | (simp; done) | omega | (simp; omega)) _ | refine below_drewN ?_ _ | refine Below.drew ?_ | refine Below.on (by assumption) ?_ | refine Below.via (by assumption) (by first | exact Nat.le_refl _ | (simp; done) | omega | (simp; omega)) ?_)); have N0 := Lib.hid (Blk.below (g := w1.heap.size) (by repeat (first | with_reducible exact Blk.new0 _ _ _ | with_reducible exact Blk.new1 _ _ _ _ | with_reducible exact Blk.new2 _ _ _ _ _ | with_reducible exact Blk.new3 _ _ _ _ _ _ | with_reducible exact Blk.new4 _ _ _ _ _ _ _ | with_reducible apply Blk.set_ | with_reducible apply Blk.alloc | with_reducible apply Blk.drewN | with_reducible apply Blk.drew | (with_reducible apply Blk.over; first | (intro h; omega) | (simp; done) | (simp; omega)))) hB); (try simp only [List.setIfInBounds_toArray, List.set_cons_succ, List.set_cons_zero] at N0); (try clear HB); clear hB; have HB := HBn; clear HBn; have HZw2 := HB.size; have K0 := N0; clear N0; have k0 := Blk.cell K0.out; have f0 := Blk.free K0.out; have l0 := Blk.lt K0.out; have m0 := Nat.le_of_lt l0)
  go_wp2_with fail
  refine (n4 _).mono ?_
  rintro e w3 ⟨rfl, hB⟩
  (have HBn : Below w.heap.size w w3 := Below.on hB (by repeat (first | assumption | exact Below.refl _ _ | refine Below.setCell ?_ (by first | exact Nat.le_refl _ | (simp; done) | omega | (simp; omega)) _ | refine Below.alloc ?_ (by first | exact Nat.le_refl _ | (simp; done) | omega | (simp; omega)) _ | refine below_drewN ?_ _ | refine Below.drew ?_ | refine Below.on (by assumption) ?_ | refine Below.via (by assumption) (by first | exact Nat.le_refl _ | (simp; done) | omega | (simp; omega)) ?_)); have N0 := Lib.hid (Blk.below (g := w1.heap.size) (by repeat (first | with_reducible exact K0.out | with_reducible exact Blk.new0 _ _ _ | with_reducible exact Blk.new1 _ _ _ _ | with_reducible exact Blk.new2 _ _ _ _ _ | with_reducible exact Blk.new3 _ _ _ _ _ _ | with_reducible exact Blk.new4 _ _ _ _ _ _ _ | with_reducible apply Blk.set_ | with_reducible apply Blk.alloc | with_reducible apply Blk.drewN | with_reducible apply Blk.drew | (with_reducible apply Blk.over; first | (intro h; omega) | (simp; done) | (simp; omega)))) hB); (try simp only [List.setIfInBounds_toArray, List.set_cons_succ, List.set_cons_zero] at N0); have N1 := Lib.hid (Blk.below (g := w2.heap.size) (by repeat (first | with_reducible exact Blk.new0 _ _ _ | with_reducible exact Blk.new1 _ _ _ _ | with_reducible exact Blk.new2 _ _ _ _ _ | with_reducible exact Blk.new3 _ _ _ _ _ _ | with_reducible exact Blk.new4 _ _ _ _ _ _ _ | with_reducible apply Blk.set_ | with_reducible apply Blk.alloc | with_reducible apply Blk.drewN | with_reducible apply Blk.drew | (with_reducible apply Blk.over; first | (intro h; omega) | (simp; done) | (simp; omega)))) hB); (try simp only [List.setIfInBounds_toArray, List.set_cons_succ, List.set_cons_zero] at N1); clear K0 k0 f0 l0 m0; (try clear HB); clear hB; have HB := HBn; clear HBn; have HZw3 := HB.size; have K0 := N0; clear N0; have k0 := Blk.cell K0.out; have f0 := Blk.free K0.out; have l0 := Blk.lt K0.out; have m0 := Nat.le_of_lt l0; have K1 := N1; clear N1; have k1 := Blk.cell K1.out; have f1 := Blk.free K1.out; have l1 := Blk.lt K1.out; have m1 := Nat.le_of_lt l1)
  go_wp2_with fail
  refine (n5 _).mono ?_
  rintro e w4 ⟨rfl, hB⟩
  (have HBn : Below w.heap.size w w4 := Below.on hB (by repeat (first | assumption | exact Below.refl _ _ | refine Below.setCell ?_ (by first | exact Nat.le_refl _ | (simp; done) | omega | (simp; omega)) _ | refine Below.alloc ?_ (by first | exact Nat.le_refl _ | (simp; done) | omega | (simp; omega)) _ | refine below_drewN ?_ _ | refine Below.drew ?_ | refine Below.on (by assumption) ?_ | refine Below.via (by assumption) (by first | exact Nat.le_refl _ | (simp; done) | omega | (simp; omega)) ?_)); have N0 := Lib.hid (Blk.below (g := w1.heap.size) (by repeat (first | with_reducible exact K0.out | with_reducible exact Blk.new0 _ _ _ | with_reducible exact Blk.new1 _ _ _ _ | with_reducible exact Blk.new2 _ _ _ _ _ | with_reducible exact Blk.new3 _ _ _ _ _ _ | with_reducible exact Blk.new4 _ _ _ _ _ _ _ | with_reducible apply Blk.set_ | with_reducible apply Blk.alloc | with_reducible apply Blk.drewN | with_reducible apply Blk.drew | (with_reducible apply Blk.over; first | (intro h; omega) | (simp; done) | (simp; omega)))) hB); (try simp only [List.setIfInBounds_toArray, List.set_cons_succ, List.set_cons_zero] at N0); have N1 := Lib.hid (Blk.below (g := w2.heap.size) (by repeat (first | with_reducible exact K1.out | with_reducible exact Blk.new0 _ _ _ | with_reducible exact Blk.new1 _ _ _ _ | with_reducible exact Blk.new2 _ _ _ _ _ | with_reducible exact Blk.new3 _ _ _ _ _ _ | with_reducible exact Blk.new4 _ _ _ _ _ _ _ | with_reducible apply Blk.set_ | with_reducible apply Blk.alloc | with_reducible apply Blk.drewN | with_reducible apply Blk.drew | (with_reducible apply Blk.over; first | (intro h; omega) | (simp; done) | (simp; omega)))) hB); (try simp only [List.setIfInBounds_toArray, List.set_cons_succ, List.set_cons_zero] at N1); have N2 := Lib.hid (Blk.below (g := w3.heap.size) (by repeat (first | with_reducible exact Blk.new0 _ _ _ | with_reducible exact Blk.new1 _ _ _ _ | with_reducible exact Blk.new2 _ _ _ _ _ | with_reducible exact Blk.new3 _ _ _ _ _ _ | with_reducible exact Blk.new4 _ _ _ _ _ _ _ | with_reducible apply Blk.set_ | with_reducible apply Blk.alloc | with_reducible apply Blk.drewN | with_reducible apply Blk.drew | (with_reducible apply Blk.over; first | (intro h; omega) | (simp; done) | (simp; omega)))) hB); (try simp only [List.setIfInBounds_toArray, List.set_cons_succ, List.set_cons_zero] at N2); clear K0 k0 f0 l0 m0 K1 k1 f1 l1 m1; (try clear HB); clear hB; have HB := HBn; clear HBn; have HZw4 := HB.size; have K0 := N0; clear N0; have k0 := Blk.cell K0.out; have f0 := Blk.free K0.out; have l0 := Blk.lt K0.out; have m0 := Nat.le_of_lt l0; have K1 := N1; clear N1; have k1 := Blk.cell K1.out; have f1 := Blk.free K1.out; have l1 := Blk.lt K1.out; have m1 := Nat.le_of_lt l1; have K2 := N2; clear N2; have k2 := Blk.cell K2.out; have f2 := Blk.free K2.out; have l2 := Blk.lt K2.out; have m2 := Nat.le_of_lt l2)
  go_wp2_with fail
  refine (n1 _).mono ?_
  rintro e w5 ⟨rfl, hB⟩
  (have HBn : Below w.heap.size w w5 := Below.on hB (by repeat (first | assumption | exact Below.refl _ _ | refine Below.setCell ?_ (by first | exact Nat.le_refl _ | (simp; done) | omega | (simp; omega)) _ | refine Below.alloc ?_ (by first | exact Nat.le_refl _ | (simp; done) | omega | (simp; omega)) _ | refine below_drewN ?_ _ | refine Below.drew ?_ | refine Below.on (by assumption) ?_ | refine Below.via (by assumption) (by first | exact Nat.le_refl _ | (simp; done) | omega | (simp; omega)) ?_)); have N0 := Lib.hid (Blk.below (g := w1.heap.size) (by repeat (first | with_reducible exact K0.out | with_reducible exact Blk.new0 _ _ _ | with_reducible exact Blk.new1 _ _ _ _ | with_reducible exact Blk.new2 _ _ _ _ _ | with_reducible exact Blk.new3 _ _ _ _ _ _ | with_reducible exact Blk.new4 _ _ _ _ _ _ _ | with_reducible apply Blk.set_ | with_reducible apply Blk.alloc | with_reducible apply Blk.drewN | with_reducible apply Blk.drew | (with_reducible apply Blk.over; first | (intro h; omega) | (simp; done) | (simp; omega)))) hB); (try simp only [List.setIfInBounds_toArray, List.set_cons_succ, List.set_cons_zero] at N0); have N1 := Lib.hid (Blk.below (g := w2.heap.size) (by repeat (first | with_reducible exact K1.out | with_reducible exact Blk.new0 _ _ _ | with_reducible exact Blk.new1 _ _ _ _ | with_reducible exact Blk.new2 _ _ _ _ _ | with_reducible exact Blk.new3 _ _ _ _ _ _ | with_reducible exact Blk.new4 _ _ _ _ _ _ _ | with_reducible apply Blk.set_ | with_reducible apply Blk.alloc | with_reducible apply Blk.drewN | with_reducible apply Blk.drew | (with_reducible apply Blk.over; first | (intro h; omega) | (simp; done) | (simp; omega)))) hB); (try simp only [List.setIfInBounds_toArray, List.set_cons_succ, List.set_cons_zero] at N1); have N2 := Lib.hid (Blk.below (g := w3.heap.size) (by repeat (first | with_reducible exact K2.out | with_reducible exact Blk.new0 _ _ _ | with_reducible exact Blk.new1 _ _ _ _ | with_reducible exact Blk.new2 _ _ _ _ _ | with_reducible exact Blk.new3 _ _ _ _ _ _ | with_reducible exact Blk.new4 _ _ _ _ _ _ _ | with_reducible apply Blk.set_ | with_reducible apply Blk.alloc | with_reducible apply Blk.drewN | with_reducible apply Blk.drew | (with_reducible apply Blk.over; first | (intro h; omega) | (simp; done) | (simp; omega)))) hB); (try simp only [List.setIfInBounds_toArray, List.set_cons_succ, List.set_cons_zero] at N2); clear K0 k0 f0 l0 m0 K1 k1 f1 l1 m1 K2 k2 f2 l2 m2; (try clear HB); clear hB; have HB := HBn; clear HBn; have HZw5 := HB.size; have K0 := N0; clear N0; have k0 := Blk.cell K0.out; have f0 := Blk.free K0.out; have l0 := Blk.lt K0.out; have m0 := Nat.le_of_lt l0; have K1 := N1; clear N1; have k1 := Blk.cell K1.out; have f1 := Blk.free K1.out; have l1 := Blk.lt K1.out; have m1 := Nat.le_of_lt l1; have K2 := N2; clear N2; have k2 := Blk.cell K2.out; have f2 := Blk.free K2.out; have l2 := Blk.lt K2.out; have m2 := Nat.le_of_lt l2)
  go_wp2_with fail
  refine (n6 _).mono ?_
  rintro e w6 ⟨rfl, hB⟩
  (have HBn : Below w.heap.size w w6 := Below.on hB (by repeat (first | assumption | exact Below.refl _ _ | refine Below.setCell ?_ (by first | exact Nat.le_refl _ | (simp; done) | omega | (simp; omega)) _ | refine Below.alloc ?_ (by first | exact Nat.le_refl _ | (simp; done) | omega | (simp; omega)) _ | refine below_drewN ?_ _ | refine Below.drew ?_ | refine Below.on (by assumption) ?_ | refine Below.via (by assumption) (by first | exact Nat.le_refl _ | (simp; done) | omega | (simp; omega)) ?_)); have N0 := Lib.hid (Blk.below (g := w1.heap.size) (by repeat (first | with_reducible exact K0.out | with_reducible exact Blk.new0 _ _ _ | with_reducible exact Blk.new1 _ _ _ _ | with_reducible exact Blk.new2 _ _ _ _ _ | with_reducible exact Blk.new3 _ _ _ _ _ _ | with_reducible exact Blk.new4 _ _ _ _ _ _ _ | with_reducible apply Blk.set_ | with_reducible apply Blk.alloc | with_reducible apply Blk.drewN | with_reducible apply Blk.drew | (with_reducible apply Blk.over; first | (intro h; omega) | (simp; done) | (simp; omega)))) hB); (try simp only [List.setIfInBounds_toArray, List.set_cons_succ, List.set_cons_zero] at N0); have N1 := Lib.hid (Blk.below (g := w2.heap.size) (by repeat (first | with_reducible exact K1.out | with_reducible exact Blk.new0 _ _ _ | with_reducible exact Blk.new1 _ _ _ _ | with_reducible exact Blk.new2 _ _ _ _ _ | with_reducible exact Blk.new3 _ _ _ _ _ _ | with_reducible exact Blk.new4 _ _ _ _ _ _ _ | with_reducible apply Blk.set_ | with_reducible apply Blk.alloc | with_reducible apply Blk.drewN | with_reducible apply Blk.drew | (with_reducible apply Blk.over; first | (intro h; omega) | (simp; done) | (simp; omega)))) hB); (try simp only [List.setIfInBounds_toArray, List.set_cons_succ, List.set_cons_zero] at N1); have N2 := Lib.hid (Blk.below (g := w3.heap.size) (by repeat (first | with_reducible exact K2.out | with_reducible exact Blk.new0 _ _ _ | with_reducible exact Blk.new1 _ _ _ _ | with_reducible exact Blk.new2 _ _ _ _ _ | with_reducible exact Blk.new3 _ _ _ _ _ _ | with_reducible exact Blk.new4 _ _ _ _ _ _ _ | with_reducible apply Blk.set_ | with_reducible apply Blk.alloc | with_reducible apply Blk.drewN | with_reducible apply Blk.drew | (with_reducible apply Blk.over; first | (intro h; omega) | (simp; done) | (simp; omega)))) hB); (try simp only [List.setIfInBounds_toArray, List.set_cons_succ, List.set_cons_zero] at N2); clear K0 k0 f0 l0 m0 K1 k1 f1 l1 m1 K2 k2 f2 l2 m2; (try clear HB); clear hB; have HB := HBn; clear HBn; have HZw6 := HB.size; have K0 := N0; clear N0; have k0 := Blk.cell K0.out; have f0 := Blk.free K0.out; have l0 := Blk.lt K0.out; have m0 := Nat.le_of_lt l0; have K1 := N1; clear N1; have k1 := Blk.cell K1.out; have f1 := Blk.free K1.out; have l1 := Blk.lt K1.out; have m1 := Nat.le_of_lt l1; have K2 := N2; clear N2; have k2 := Blk.cell K2.out; have f2 := Blk.free K2.out; have l2 := Blk.lt K2.out; have m2 := Nat.le_of_lt l2)
  go_wp2_with fail
  refine (n2 _).mono ?_
  rintro e w7 ⟨rfl, hB⟩
  (have HBn : Below w.heap.size w w7 := Below.on hB (by repeat (first | assumption | exact Below.refl _ _ | refine Below.setCell ?_ (by first | exact Nat.le_refl _ | (simp; done) | omega | (simp; omega)) _ | refine Below.alloc ?_ (by first | exact Nat.le_refl _ | (simp; done) | omega | (simp; omega)) _ | refine below_drewN ?_ _ | refine Below.drew ?_ | refine Below.on (by assumption) ?_ | refine Below.via (by assumption) (by first | exact Nat.le_refl _ | (simp; done) | omega | (simp; omega)) ?_)); have N0 := Lib.hid (Blk.below (g := w1.heap.size) (by repeat (first | with_reducible exact K0.out | with_reducible exact Blk.new0 _ _ _ | with_reducible exact Blk.new1 _ _ _ _ | with_reducible exact Blk.new2 _ _ _ _ _ | with_reducible exact Blk.new3 _ _ _ _ _ _ | with_reducible exact Blk.new4 _ _ _ _ _ _ _ | with_reducible apply Blk.set_ | with_reducible apply Blk.alloc | with_reducible apply Blk.drewN | with_reducible apply Blk.drew | (with_reducible apply Blk.over; first | (intro h; omega) | (simp; done) | (simp; omega)))) hB); (try simp only [List.setIfInBounds_toArray, List.set_cons_succ, List.set_cons_zero] at N0); have N1 := Lib.hid (Blk.below (g := w2.heap.size) (by repeat (first | with_reducible exact K1.out | with_reducible exact Blk.new0 _ _ _ | with_reducible exact Blk.new1 _ _ _ _ | with_reducible exact Blk.new2 _ _ _ _ _ | with_reducible exact Blk.new3 _ _ _ _ _ _ | with_reducible exact Blk.new4 _ _ _ _ _ _ _ | with_reducible apply Blk.set_ | with_reducible apply Blk.alloc | with_reducible apply Blk.drewN | with_reducible apply Blk.drew | (with_reducible apply Blk.over; first | (intro h; omega) | (simp; done) | (simp; omega)))) hB); (try simp only [List.setIfInBounds_toArray, List.set_cons_succ, List.set_cons_zero] at N1); have N2 := Lib.hid (Blk.below (g := w3.heap.size) (by repeat (first | with_reducible exact K2.out | with_reducible exact Blk.new0 _ _ _ | with_reducible exact Blk.new1 _ _ _ _ | with_reducible exact Blk.new2 _ _ _ _ _ | with_reducible exact Blk.new3 _ _ _ _ _ _ | with_reducible exact Blk.new4 _ _ _ _ _ _ _ | with_reducible apply Blk.set_ | with_reducible apply Blk.alloc | with_reducible apply Blk.drewN | with_reducible apply Blk.drew | (with_reducible apply Blk.over; first | (intro h; omega) | (simp; done) | (simp; omega)))) hB); (try simp only [List.setIfInBounds_toArray, List.set_cons_succ, List.set_cons_zero] at N2); clear K0 k0 f0 l0 m0 K1 k1 f1 l1 m1 K2 k2 f2 l2 m2; (try clear HB); clear hB; have HB := HBn; clear HBn; have HZw7 := HB.size; have K0 := N0; clear N0; have k0 := Blk.cell K0.out; have f0 := Blk.free K0.out; have l0 := Blk.lt K0.out; have m0 := Nat.le_of_lt l0; have K1 := N1; clear N1; have k1 := Blk.cell K1.out; have f1 := Blk.free K1.out; have l1 := Blk.lt K1.out; have m1 := Nat.le_of_lt l1; have K2 := N2; clear N2; have k2 := Blk.cell K2.out; have f2 := Blk.free K2.out; have l2 := Blk.lt K2.out; have m2 := Nat.le_of_lt l2)
  go_wp2_with fail
  go_ret
  exact ⟨rfl, HB⟩

end Go.Proofs.Ytpmmjomejackkaa
