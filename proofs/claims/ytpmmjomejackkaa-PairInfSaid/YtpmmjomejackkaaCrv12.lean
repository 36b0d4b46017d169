/- The curve's told functions, and the reference's: sums and negatives. Any points. -/
import Derived.Test.YtpmmjomejackkaaCrv11
set_option linter.unusedSimpArgs false
set_option linter.unusedVariables false
namespace Go.Proofs.Ytpmmjomejackkaa
open BigFrame Go.RowKit Go.Phx Go.Shelf
attribute [local go_sem] Oper.semAt_some

/-- the sum of the two points that these say, if they say two -/
noncomputable def addR (x y : Int) (i : Bool) (x' y' : Int) (i' : Bool) : Option E := (said x y i).bind fun p => (said x' y' i').map fun q => addE p q
noncomputable def negR (x y : Int) (i : Bool) : Option E := (said x y i).map negE
noncomputable def timesR (n x y : Int) (i : Bool) : Option E := (said x y i).map fun p => timesE n p
/-- a point and a word as a told pair -/
abbrev outV (r : Option E) : Value := .tuple #[.agg #[.int .u64 (rx r), .int .u64 (ry r), .bool (ri r)], .int .i64 (re r)]
theorem plus_p (p q : E) (w : World) : Calls Try.prog 65 #[.agg #[.int .u64 (px p), .int .u64 (py p), .bool (pf p)], .agg #[.int .u64 (px q), .int .u64 (py q), .bool (pf q)]] w (Ret w (.agg #[.int .u64 (px (addE p q)), .int .u64 (py (addE p q)), .bool (pf (addE p q))])) := plus_u p q w
theorem minus_u (p : E) (w : World) : Calls Try.prog 69 #[.agg #[.int .u64 (px p), .int .u64 (py p), .bool (pf p)]] w (Ret w (.agg #[.int .u64 (px (negE p)), .int .u64 (py (negE p)), .bool (pf (negE p))])) := by
  rw [← vp_parts, ← vp_parts]
  exact minus_vp p w
theorem rminus_u (p : E) (w : World) : Calls Try.prog 70 #[.agg #[.int .u64 (px p), .int .u64 (py p), .bool (pf p)]] w (Ret w (.agg #[.int .u64 (px (negE p)), .int .u64 (py (negE p)), .bool (pf (negE p))])) := by
  rw [← vp_parts, ← vp_parts]
  exact rminus_vp p w
theorem times_u (p : E) (x : Int) (hx : 0 ≤ x) (hx2 : x ≤ 18446744073709551615) (w : World) : Calls Try.prog 63 #[.int .u64 x, .agg #[.int .u64 (px p), .int .u64 (py p), .bool (pf p)]] w (Ret w (.agg #[.int .u64 (px (timesE x p)), .int .u64 (py (timesE x p)), .bool (pf (timesE x p))])) := by
  rw [← vp_parts (timesE x p)]
  exact times_calls p x hx hx2 w
theorem rmany_u (p : E) (x : Int) (hx : 0 ≤ x) (hx2 : x ≤ 18446744073709551615) (w : World) : Calls Try.prog 64 #[.int .u64 x, .agg #[.int .u64 (px p), .int .u64 (py p), .bool (pf p)]] w (Ret w (.agg #[.int .u64 (px (timesE x p)), .int .u64 (py (timesE x p)), .bool (pf (timesE x p))])) := by
  rw [← vp_parts (timesE x p)]
  exact rmany_calls p x hx hx2 w
theorem on_p {p : E} (hp : onE p = true) (w : World) : Calls Try.prog 43 #[.agg #[.int .u64 (px p), .int .u64 (py p), .bool (pf p)]] w (Ret w (.bool true)) := by
  rw [← isOn_parts hp]
  exact on_calls _ _ _ (px_nonneg p) (py_nonneg p) w
theorem ron_p {p : E} (hp : onE p = true) (w : World) : Calls Try.prog 47 #[.agg #[.int .u64 (px p), .int .u64 (py p), .bool (pf p)]] w (Ret w (.bool true)) := by
  rw [← isOn_parts hp]
  exact ron_calls _ _ _ (px_nonneg p) (py_nonneg p) w
theorem on_x {x y : Int} {i : Bool} (hx : 0 ≤ x) (hy : 0 ≤ y) (h : isOn x y i = false) (w : World) : Calls Try.prog 43 #[.agg #[.int .u64 x, .int .u64 y, .bool i]] w (Ret w (.bool false)) := by
  rw [← h]
  exact on_calls _ _ _ hx hy w
theorem ron_x {x y : Int} {i : Bool} (hx : 0 ≤ x) (hy : 0 ≤ y) (h : isOn x y i = false) (w : World) : Calls Try.prog 47 #[.agg #[.int .u64 x, .int .u64 y, .bool i]] w (Ret w (.bool false)) := by
  rw [← h]
  exact ron_calls _ _ _ hx hy w


set_option maxRecDepth 100000 in
set_option maxHeartbeats 2000000 in
theorem add_bad1 (x y : Int) (i : Bool) (x' y' : Int) (i' : Bool) (hx : 0 ≤ x) (hy : 0 ≤ y) (hx' : 0 ≤ x') (hy' : 0 ≤ y') (h : isOn x y i = false) (w : World) :
    Calls Try.prog 42 #[.agg #[.int .u64 x, .int .u64 y, .bool i], .agg #[.int .u64 x', .int .u64 y', .bool i']] w (Ret w (.tuple #[.agg #[.int .u64 0, .int .u64 0, .bool false], .int .i64 100])) := by
  have n1 := on_x hx hy h
  go_enter Try.func42, Try.ntmps42
  go_wp2_with fail
  refine (n1 _).mono ?_
  rintro e w1 ⟨rfl, hBw1⟩
  have HT := Lib.hid (boxes3 hBw1)
  obtain ⟨⟨c0, c1, c2⟩, ⟨d0, d1, d2⟩, ⟨r0, r1, r2⟩, ⟨f0, f1, f2⟩, hz, hB0⟩ := HT.out
  clear hBw1
  go_wp2_with fail
  exact bodyPost_ret (v := .tuple #[.agg #[.int .u64 0, .int .u64 0, .bool false], .int .i64 100]) (by simp (maxDischargeDepth := 9) [results, Try.results42, go_sem, vp, v2, *]) rfl ⟨rfl, (by repeat (first | assumption | exact Below.refl _ _ | refine Below.setCell ?_ (by first | exact Nat.le_refl _ | (simp; done) | omega | (simp; omega)) _ | refine Below.alloc ?_ (by first | exact Nat.le_refl _ | (simp; done) | omega | (simp; omega)) _ | refine below_drewN ?_ _ | refine Below.drew ?_ | refine Below.on (by assumption) ?_ | refine Below.via (by assumption) (by first | exact Nat.le_refl _ | (simp; done) | omega | (simp; omega)) ?_))⟩

set_option maxRecDepth 100000 in
set_option maxHeartbeats 2000000 in
theorem add_bad2 (p : E) (x' y' : Int) (i' : Bool) (hx' : 0 ≤ x') (hy' : 0 ≤ y') (hp : onE p = true) (h' : isOn x' y' i' = false) (w : World) :
    Calls Try.prog 42 #[.agg #[.int .u64 (px p), .int .u64 (py p), .bool (pf p)], .agg #[.int .u64 x', .int .u64 y', .bool i']] w (Ret w (.tuple #[.agg #[.int .u64 0, .int .u64 0, .bool false], .int .i64 100])) := by
  have n1 := on_p hp
  have n2 := on_x hx' hy' h'
  go_enter Try.func42, Try.ntmps42
  go_wp2_with fail
  refine (n1 _).mono ?_
  rintro e w1 ⟨rfl, hBw1⟩
  have HT := Lib.hid (boxes3 hBw1)
  obtain ⟨⟨c0, c1, c2⟩, ⟨d0, d1, d2⟩, ⟨r0, r1, r2⟩, ⟨f0, f1, f2⟩, hz, hB0⟩ := HT.out
  clear hBw1
  go_wp2_with fail
  refine (n2 _).mono ?_
  rintro e w2 ⟨rfl, hBw2⟩
  have HTw2 := Lib.hid (Trio.on (n := w.heap.size) ⟨⟨c0, c1, c2⟩, ⟨d0, d1, d2⟩, ⟨r0, r1, r2⟩, ⟨f0, f1, f2⟩, hz⟩ hBw2)
  replace hB0 := Below.on hBw2 hB0
  clear c0 c1 c2 d0 d1 d2 r0 r1 r2 f0 f1 f2 hz hBw2
  obtain ⟨⟨c0, c1, c2⟩, ⟨d0, d1, d2⟩, ⟨r0, r1, r2⟩, ⟨f0, f1, f2⟩, hz⟩ := HTw2.out
  go_wp2_with fail
  exact bodyPost_ret (v := .tuple #[.agg #[.int .u64 0, .int .u64 0, .bool false], .int .i64 100]) (by simp (maxDischargeDepth := 9) [results, Try.results42, go_sem, vp, v2, *]) rfl ⟨rfl, (by repeat (first | assumption | exact Below.refl _ _ | refine Below.setCell ?_ (by first | exact Nat.le_refl _ | (simp; done) | omega | (simp; omega)) _ | refine Below.alloc ?_ (by first | exact Nat.le_refl _ | (simp; done) | omega | (simp; omega)) _ | refine below_drewN ?_ _ | refine Below.drew ?_ | refine Below.on (by assumption) ?_ | refine Below.via (by assumption) (by first | exact Nat.le_refl _ | (simp; done) | omega | (simp; omega)) ?_))⟩

set_option maxRecDepth 100000 in
set_option maxHeartbeats 2000000 in
theorem add_good (p q : E) (hp : onE p = true) (hq : onE q = true) (w : World) :
    Calls Try.prog 42 #[.agg #[.int .u64 (px p), .int .u64 (py p), .bool (pf p)], .agg #[.int .u64 (px q), .int .u64 (py q), .bool (pf q)]] w (Ret w (.tuple #[.agg #[.int .u64 (px (addE p q)), .int .u64 (py (addE p q)), .bool (pf (addE p q))], .int .i64 0])) := by
  have n1 := on_p hp
  have n2 := on_p hq
  have n3 := plus_u p q
  go_enter Try.func42, Try.ntmps42
  go_wp2_with fail
  refine (n1 _).mono ?_
  rintro e w1 ⟨rfl, hBw1⟩
  have HT := Lib.hid (boxes3 hBw1)
  obtain ⟨⟨c0, c1, c2⟩, ⟨d0, d1, d2⟩, ⟨r0, r1, r2⟩, ⟨f0, f1, f2⟩, hz, hB0⟩ := HT.out
  clear hBw1
  go_wp2_with fail
  refine (n2 _).mono ?_
  rintro e w2 ⟨rfl, hBw2⟩
  have HTw2 := Lib.hid (Trio.on (n := w.heap.size) ⟨⟨c0, c1, c2⟩, ⟨d0, d1, d2⟩, ⟨r0, r1, r2⟩, ⟨f0, f1, f2⟩, hz⟩ hBw2)
  replace hB0 := Below.on hBw2 hB0
  clear c0 c1 c2 d0 d1 d2 r0 r1 r2 f0 f1 f2 hz hBw2
  obtain ⟨⟨c0, c1, c2⟩, ⟨d0, d1, d2⟩, ⟨r0, r1, r2⟩, ⟨f0, f1, f2⟩, hz⟩ := HTw2.out
  go_wp2_with fail
  refine (n3 _).mono ?_
  rintro e w3 ⟨rfl, hBw3⟩
  have HTw3 := Lib.hid (Trio.on (n := w.heap.size) ⟨⟨c0, c1, c2⟩, ⟨d0, d1, d2⟩, ⟨r0, r1, r2⟩, ⟨f0, f1, f2⟩, hz⟩ hBw3)
  replace hB0 := Below.on hBw3 hB0
  clear c0 c1 c2 d0 d1 d2 r0 r1 r2 f0 f1 f2 hz hBw3
  obtain ⟨⟨c0, c1, c2⟩, ⟨d0, d1, d2⟩, ⟨r0, r1, r2⟩, ⟨f0, f1, f2⟩, hz⟩ := HTw3.out
  go_wp2_with fail
  exact bodyPost_ret (v := .tuple #[.agg #[.int .u64 (px (addE p q)), .int .u64 (py (addE p q)), .bool (pf (addE p q))], .int .i64 0]) (by simp (maxDischargeDepth := 9) [results, Try.results42, go_sem, vp, v2, *]) rfl ⟨rfl, (by repeat (first | assumption | exact Below.refl _ _ | refine Below.setCell ?_ (by first | exact Nat.le_refl _ | (simp; done) | omega | (simp; omega)) _ | refine Below.alloc ?_ (by first | exact Nat.le_refl _ | (simp; done) | omega | (simp; omega)) _ | refine below_drewN ?_ _ | refine Below.drew ?_ | refine Below.on (by assumption) ?_ | refine Below.via (by assumption) (by first | exact Nat.le_refl _ | (simp; done) | omega | (simp; omega)) ?_))⟩
theorem add_of (x y : Int) (i : Bool) (x' y' : Int) (i' : Bool) (hx : 0 ≤ x) (hy : 0 ≤ y) (hx' : 0 ≤ x') (hy' : 0 ≤ y') (w : World) :
    Calls Try.prog 42 #[.agg #[.int .u64 x, .int .u64 y, .bool i], .agg #[.int .u64 x', .int .u64 y', .bool i']] w (Ret w (outV (addR x y i x' y' i'))) := by
  cases h : isOn x y i
  · rw [show addR x y i x' y' i' = none from by unfold addR; rw [said_none h]; rfl]
    exact add_bad1 x y i x' y' i' hx hy hx' hy' h w
  · obtain ⟨p, hp, h1, rfl, rfl, rfl⟩ := said_some hx hy h
    cases h' : isOn x' y' i'
    · rw [show addR (px p) (py p) (pf p) x' y' i' = none from by unfold addR; rw [h1, said_none h']; rfl]
      exact add_bad2 p x' y' i' hx' hy' hp h' w
    · obtain ⟨q, hq, h2, rfl, rfl, rfl⟩ := said_some hx' hy' h'
      rw [show addR (px p) (py p) (pf p) (px q) (py q) (pf q) = some (addE p q) from by unfold addR; rw [h1, h2]; rfl]
      exact add_good p q hp hq w

set_option maxRecDepth 100000 in
set_option maxHeartbeats 2000000 in
theorem radd_bad1 (x y : Int) (i : Bool) (x' y' : Int) (i' : Bool) (hx : 0 ≤ x) (hy : 0 ≤ y) (hx' : 0 ≤ x') (hy' : 0 ≤ y') (h : isOn x y i = false) (w : World) :
    Calls Try.prog 44 #[.agg #[.int .u64 x, .int .u64 y, .bool i], .agg #[.int .u64 x', .int .u64 y', .bool i']] w (Ret w (.tuple #[.agg #[.int .u64 0, .int .u64 0, .bool false], .int .i64 100])) := by
  have n1 := ron_x hx hy h
  go_enter Try.func44, Try.ntmps44
  go_wp2_with fail
  refine (n1 _).mono ?_
  rintro e w1 ⟨rfl, hBw1⟩
  have HT := Lib.hid (boxes3 hBw1)
  obtain ⟨⟨c0, c1, c2⟩, ⟨d0, d1, d2⟩, ⟨r0, r1, r2⟩, ⟨f0, f1, f2⟩, hz, hB0⟩ := HT.out
  clear hBw1
  go_wp2_with fail
  refine (ron_calls _ _ _ hx' hy' _).mono ?_
  rintro e w2 ⟨rfl, hBw2⟩
  have HTw2 := Lib.hid (Trio.on (n := w.heap.size) ⟨⟨c0, c1, c2⟩, ⟨d0, d1, d2⟩, ⟨r0, r1, r2⟩, ⟨f0, f1, f2⟩, hz⟩ hBw2)
  replace hB0 := Below.on hBw2 hB0
  clear c0 c1 c2 d0 d1 d2 r0 r1 r2 f0 f1 f2 hz hBw2
  obtain ⟨⟨c0, c1, c2⟩, ⟨d0, d1, d2⟩, ⟨r0, r1, r2⟩, ⟨f0, f1, f2⟩, hz⟩ := HTw2.out
  go_wp2_with fail
  exact bodyPost_ret (v := .tuple #[.agg #[.int .u64 0, .int .u64 0, .bool false], .int .i64 100]) (by simp (maxDischargeDepth := 9) [results, Try.results44, go_sem, vp, v2, *]) rfl ⟨rfl, (by repeat (first | assumption | exact Below.refl _ _ | refine Below.setCell ?_ (by first | exact Nat.le_refl _ | (simp; done) | omega | (simp; omega)) _ | refine Below.alloc ?_ (by first | exact Nat.le_refl _ | (simp; done) | omega | (simp; omega)) _ | refine below_drewN ?_ _ | refine Below.drew ?_ | refine Below.on (by assumption) ?_ | refine Below.via (by assumption) (by first | exact Nat.le_refl _ | (simp; done) | omega | (simp; omega)) ?_))⟩

set_option maxRecDepth 100000 in
set_option maxHeartbeats 2000000 in
theorem radd_bad2 (p : E) (x' y' : Int) (i' : Bool) (hx' : 0 ≤ x') (hy' : 0 ≤ y') (hp : onE p = true) (h' : isOn x' y' i' = false) (w : World) :
    Calls Try.prog 44 #[.agg #[.int .u64 (px p), .int .u64 (py p), .bool (pf p)], .agg #[.int .u64 x', .int .u64 y', .bool i']] w (Ret w (.tuple #[.agg #[.int .u64 0, .int .u64 0, .bool false], .int .i64 100])) := by
  have n1 := ron_p hp
  have n2 := ron_x hx' hy' h'
  go_enter Try.func44, Try.ntmps44
  go_wp2_with fail
  refine (n1 _).mono ?_
  rintro e w1 ⟨rfl, hBw1⟩
  have HT := Lib.hid (boxes3 hBw1)
  obtain ⟨⟨c0, c1, c2⟩, ⟨d0, d1, d2⟩, ⟨r0, r1, r2⟩, ⟨f0, f1, f2⟩, hz, hB0⟩ := HT.out
  clear hBw1
  go_wp2_with fail
  refine (n2 _).mono ?_
  rintro e w2 ⟨rfl, hBw2⟩
  have HTw2 := Lib.hid (Trio.on (n := w.heap.size) ⟨⟨c0, c1, c2⟩, ⟨d0, d1, d2⟩, ⟨r0, r1, r2⟩, ⟨f0, f1, f2⟩, hz⟩ hBw2)
  replace hB0 := Below.on hBw2 hB0
  clear c0 c1 c2 d0 d1 d2 r0 r1 r2 f0 f1 f2 hz hBw2
  obtain ⟨⟨c0, c1, c2⟩, ⟨d0, d1, d2⟩, ⟨r0, r1, r2⟩, ⟨f0, f1, f2⟩, hz⟩ := HTw2.out
  go_wp2_with fail
  exact bodyPost_ret (v := .tuple #[.agg #[.int .u64 0, .int .u64 0, .bool false], .int .i64 100]) (by simp (maxDischargeDepth := 9) [results, Try.results44, go_sem, vp, v2, *]) rfl ⟨rfl, (by repeat (first | assumption | exact Below.refl _ _ | refine Below.setCell ?_ (by first | exact Nat.le_refl _ | (simp; done) | omega | (simp; omega)) _ | refine Below.alloc ?_ (by first | exact Nat.le_refl _ | (simp; done) | omega | (simp; omega)) _ | refine below_drewN ?_ _ | refine Below.drew ?_ | refine Below.on (by assumption) ?_ | refine Below.via (by assumption) (by first | exact Nat.le_refl _ | (simp; done) | omega | (simp; omega)) ?_))⟩

set_option maxRecDepth 100000 in
set_option maxHeartbeats 2000000 in
theorem radd_good (p q : E) (hp : onE p = true) (hq : onE q = true) (w : World) :
    Calls Try.prog 44 #[.agg #[.int .u64 (px p), .int .u64 (py p), .bool (pf p)], .agg #[.int .u64 (px q), .int .u64 (py q), .bool (pf q)]] w (Ret w (.tuple #[.agg #[.int .u64 (px (addE p q)), .int .u64 (py (addE p q)), .bool (pf (addE p q))], .int .i64 0])) := by
  have n1 := ron_p hp
  have n2 := ron_p hq
  have n3 := rplus_u p q
  go_enter Try.func44, Try.ntmps44
  go_wp2_with fail
  refine (n1 _).mono ?_
  rintro e w1 ⟨rfl, hBw1⟩
  have HT := Lib.hid (boxes3 hBw1)
  obtain ⟨⟨c0, c1, c2⟩, ⟨d0, d1, d2⟩, ⟨r0, r1, r2⟩, ⟨f0, f1, f2⟩, hz, hB0⟩ := HT.out
  clear hBw1
  go_wp2_with fail
  refine (n2 _).mono ?_
  rintro e w2 ⟨rfl, hBw2⟩
  have HTw2 := Lib.hid (Trio.on (n := w.heap.size) ⟨⟨c0, c1, c2⟩, ⟨d0, d1, d2⟩, ⟨r0, r1, r2⟩, ⟨f0, f1, f2⟩, hz⟩ hBw2)
  replace hB0 := Below.on hBw2 hB0
  clear c0 c1 c2 d0 d1 d2 r0 r1 r2 f0 f1 f2 hz hBw2
  obtain ⟨⟨c0, c1, c2⟩, ⟨d0, d1, d2⟩, ⟨r0, r1, r2⟩, ⟨f0, f1, f2⟩, hz⟩ := HTw2.out
  go_wp2_with fail
  refine (n3 _).mono ?_
  rintro e w3 ⟨rfl, hBw3⟩
  have HTw3 := Lib.hid (Trio.on (n := w.heap.size) ⟨⟨c0, c1, c2⟩, ⟨d0, d1, d2⟩, ⟨r0, r1, r2⟩, ⟨f0, f1, f2⟩, hz⟩ hBw3)
  replace hB0 := Below.on hBw3 hB0
  clear c0 c1 c2 d0 d1 d2 r0 r1 r2 f0 f1 f2 hz hBw3
  obtain ⟨⟨c0, c1, c2⟩, ⟨d0, d1, d2⟩, ⟨r0, r1, r2⟩, ⟨f0, f1, f2⟩, hz⟩ := HTw3.out
  go_wp2_with fail
  exact bodyPost_ret (v := .tuple #[.agg #[.int .u64 (px (addE p q)), .int .u64 (py (addE p q)), .bool (pf (addE p q))], .int .i64 0]) (by simp (maxDischargeDepth := 9) [results, Try.results44, go_sem, vp, v2, *]) rfl ⟨rfl, (by repeat (first | assumption | exact Below.refl _ _ | refine Below.setCell ?_ (by first | exact Nat.le_refl _ | (simp; done) | omega | (simp; omega)) _ | refine Below.alloc ?_ (by first | exact Nat.le_refl _ | (simp; done) | omega | (simp; omega)) _ | refine below_drewN ?_ _ | refine Below.drew ?_ | refine Below.on (by assumption) ?_ | refine Below.via (by assumption) (by first | exact Nat.le_refl _ | (simp; done) | omega | (simp; omega)) ?_))⟩
theorem radd_of (x y : Int) (i : Bool) (x' y' : Int) (i' : Bool) (hx : 0 ≤ x) (hy : 0 ≤ y) (hx' : 0 ≤ x') (hy' : 0 ≤ y') (w : World) :
    Calls Try.prog 44 #[.agg #[.int .u64 x, .int .u64 y, .bool i], .agg #[.int .u64 x', .int .u64 y', .bool i']] w (Ret w (outV (addR x y i x' y' i'))) := by
  cases h : isOn x y i
  · rw [show addR x y i x' y' i' = none from by unfold addR; rw [said_none h]; rfl]
    exact radd_bad1 x y i x' y' i' hx hy hx' hy' h w
  · obtain ⟨p, hp, h1, rfl, rfl, rfl⟩ := said_some hx hy h
    cases h' : isOn x' y' i'
    · rw [show addR (px p) (py p) (pf p) x' y' i' = none from by unfold addR; rw [h1, said_none h']; rfl]
      exact radd_bad2 p x' y' i' hx' hy' hp h' w
    · obtain ⟨q, hq, h2, rfl, rfl, rfl⟩ := said_some hx' hy' h'
      rw [show addR (px p) (py p) (pf p) (px q) (py q) (pf q) = some (addE p q) from by unfold addR; rw [h1, h2]; rfl]
      exact radd_good p q hp hq w

set_option maxRecDepth 100000 in
set_option maxHeartbeats 2000000 in
theorem neg_bad (x y : Int) (i : Bool) (hx : 0 ≤ x) (hy : 0 ≤ y) (h : isOn x y i = false) (w : World) :
    Calls Try.prog 45 #[.agg #[.int .u64 x, .int .u64 y, .bool i]] w (Ret w (.tuple #[.agg #[.int .u64 0, .int .u64 0, .bool false], .int .i64 100])) := by
  have n1 := on_x hx hy h
  go_enter Try.func45, Try.ntmps45
  go_wp2_with fail
  refine (n1 _).mono ?_
  rintro e w1 ⟨rfl, hBw1⟩
  have HT := Lib.hid (Duo.on Duo.start hBw1)
  have hB0 : Below w.heap.size w w1 := (by repeat (first | assumption | exact Below.refl _ _ | refine Below.setCell ?_ (by first | exact Nat.le_refl _ | (simp; done) | omega | (simp; omega)) _ | refine Below.alloc ?_ (by first | exact Nat.le_refl _ | (simp; done) | omega | (simp; omega)) _ | refine below_drewN ?_ _ | refine Below.drew ?_ | refine Below.on (by assumption) ?_ | refine Below.via (by assumption) (by first | exact Nat.le_refl _ | (simp; done) | omega | (simp; omega)) ?_))
  clear hBw1
  obtain ⟨⟨c0, c1, c2⟩, ⟨r0, r1, r2⟩, ⟨f0, f1, f2⟩, hz⟩ := HT.out
  go_wp2_with fail
  exact bodyPost_ret (v := .tuple #[.agg #[.int .u64 0, .int .u64 0, .bool false], .int .i64 100]) (by simp (maxDischargeDepth := 9) [results, Try.results45, go_sem, vp, v2, *]) rfl ⟨rfl, (by repeat (first | assumption | exact Below.refl _ _ | refine Below.setCell ?_ (by first | exact Nat.le_refl _ | (simp; done) | omega | (simp; omega)) _ | refine Below.alloc ?_ (by first | exact Nat.le_refl _ | (simp; done) | omega | (simp; omega)) _ | refine below_drewN ?_ _ | refine Below.drew ?_ | refine Below.on (by assumption) ?_ | refine Below.via (by assumption) (by first | exact Nat.le_refl _ | (simp; done) | omega | (simp; omega)) ?_))⟩

set_option maxRecDepth 100000 in
set_option maxHeartbeats 2000000 in
theorem neg_good (p : E) (hp : onE p = true) (w : World) :
    Calls Try.prog 45 #[.agg #[.int .u64 (px p), .int .u64 (py p), .bool (pf p)]] w (Ret w (.tuple #[.agg #[.int .u64 (px (negE p)), .int .u64 (py (negE p)), .bool (pf (negE p))], .int .i64 0])) := by
  have n1 := on_p hp
  have n3 := minus_u p
  go_enter Try.func45, Try.ntmps45
  go_wp2_with fail
  refine (n1 _).mono ?_
  rintro e w1 ⟨rfl, hBw1⟩
  have HT := Lib.hid (Duo.on Duo.start hBw1)
  have hB0 : Below w.heap.size w w1 := (by repeat (first | assumption | exact Below.refl _ _ | refine Below.setCell ?_ (by first | exact Nat.le_refl _ | (simp; done) | omega | (simp; omega)) _ | refine Below.alloc ?_ (by first | exact Nat.le_refl _ | (simp; done) | omega | (simp; omega)) _ | refine below_drewN ?_ _ | refine Below.drew ?_ | refine Below.on (by assumption) ?_ | refine Below.via (by assumption) (by first | exact Nat.le_refl _ | (simp; done) | omega | (simp; omega)) ?_))
  clear hBw1
  obtain ⟨⟨c0, c1, c2⟩, ⟨r0, r1, r2⟩, ⟨f0, f1, f2⟩, hz⟩ := HT.out
  go_wp2_with fail
  refine (n3 _).mono ?_
  rintro e w2 ⟨rfl, hBw2⟩
  have HTw2 := Lib.hid (HT.out.on hBw2)
  replace hB0 := Below.on hBw2 hB0
  clear c0 c1 c2 r0 r1 r2 f0 f1 f2 hz hBw2
  obtain ⟨⟨c0, c1, c2⟩, ⟨r0, r1, r2⟩, ⟨f0, f1, f2⟩, hz⟩ := HTw2.out
  go_wp2_with fail
  exact bodyPost_ret (v := .tuple #[.agg #[.int .u64 (px (negE p)), .int .u64 (py (negE p)), .bool (pf (negE p))], .int .i64 0]) (by simp (maxDischargeDepth := 9) [results, Try.results45, go_sem, vp, v2, *]) rfl ⟨rfl, (by repeat (first | assumption | exact Below.refl _ _ | refine Below.setCell ?_ (by first | exact Nat.le_refl _ | (simp; done) | omega | (simp; omega)) _ | refine Below.alloc ?_ (by first | exact Nat.le_refl _ | (simp; done) | omega | (simp; omega)) _ | refine below_drewN ?_ _ | refine Below.drew ?_ | refine Below.on (by assumption) ?_ | refine Below.via (by assumption) (by first | exact Nat.le_refl _ | (simp; done) | omega | (simp; omega)) ?_))⟩
theorem neg_of (x y : Int) (i : Bool) (hx : 0 ≤ x) (hy : 0 ≤ y) (w : World) :
    Calls Try.prog 45 #[.agg #[.int .u64 x, .int .u64 y, .bool i]] w (Ret w (outV (negR x y i))) := by
  cases h : isOn x y i
  · rw [show negR x y i = none from by unfold negR; rw [said_none h]; rfl]
    exact neg_bad x y i hx hy h w
  · obtain ⟨p, hp, h1, rfl, rfl, rfl⟩ := said_some hx hy h
    rw [show negR (px p) (py p) (pf p) = some (negE p) from by unfold negR; rw [h1]; rfl]
    exact neg_good p hp w

set_option maxRecDepth 100000 in
set_option maxHeartbeats 2000000 in
theorem rneg_bad (x y : Int) (i : Bool) (hx : 0 ≤ x) (hy : 0 ≤ y) (h : isOn x y i = false) (w : World) :
    Calls Try.prog 46 #[.agg #[.int .u64 x, .int .u64 y, .bool i]] w (Ret w (.tuple #[.agg #[.int .u64 0, .int .u64 0, .bool false], .int .i64 100])) := by
  have n1 := ron_x hx hy h
  go_enter Try.func46, Try.ntmps46
  go_wp2_with fail
  refine (n1 _).mono ?_
  rintro e w1 ⟨rfl, hBw1⟩
  have HT := Lib.hid (Duo.on Duo.start hBw1)
  have hB0 : Below w.heap.size w w1 := (by repeat (first | assumption | exact Below.refl _ _ | refine Below.setCell ?_ (by first | exact Nat.le_refl _ | (simp; done) | omega | (simp; omega)) _ | refine Below.alloc ?_ (by first | exact Nat.le_refl _ | (simp; done) | omega | (simp; omega)) _ | refine below_drewN ?_ _ | refine Below.drew ?_ | refine Below.on (by assumption) ?_ | refine Below.via (by assumption) (by first | exact Nat.le_refl _ | (simp; done) | omega | (simp; omega)) ?_))
  clear hBw1
  obtain ⟨⟨c0, c1, c2⟩, ⟨r0, r1, r2⟩, ⟨f0, f1, f2⟩, hz⟩ := HT.out
  go_wp2_with fail
  exact bodyPost_ret (v := .tuple #[.agg #[.int .u64 0, .int .u64 0, .bool false], .int .i64 100]) (by simp (maxDischargeDepth := 9) [results, Try.results46, go_sem, vp, v2, *]) rfl ⟨rfl, (by repeat (first | assumption | exact Below.refl _ _ | refine Below.setCell ?_ (by first | exact Nat.le_refl _ | (simp; done) | omega | (simp; omega)) _ | refine Below.alloc ?_ (by first | exact Nat.le_refl _ | (simp; done) | omega | (simp; omega)) _ | refine below_drewN ?_ _ | refine Below.drew ?_ | refine Below.on (by assumption) ?_ | refine Below.via (by assumption) (by first | exact Nat.le_refl _ | (simp; done) | omega | (simp; omega)) ?_))⟩

set_option maxRecDepth 100000 in
set_option maxHeartbeats 2000000 in
theorem rneg_good (p : E) (hp : onE p = true) (w : World) :
    Calls Try.prog 46 #[.agg #[.int .u64 (px p), .int .u64 (py p), .bool (pf p)]] w (Ret w (.tuple #[.agg #[.int .u64 (px (negE p)), .int .u64 (py (negE p)), .bool (pf (negE p))], .int .i64 0])) := by
  have n1 := ron_p hp
  have n3 := rminus_u p
  go_enter Try.func46, Try.ntmps46
  go_wp2_with fail
  refine (n1 _).mono ?_
  rintro e w1 ⟨rfl, hBw1⟩
  have HT := Lib.hid (Duo.on Duo.start hBw1)
  have hB0 : Below w.heap.size w w1 := (by repeat (first | assumption | exact Below.refl _ _ | refine Below.setCell ?_ (by first | exact Nat.le_refl _ | (simp; done) | omega | (simp; omega)) _ | refine Below.alloc ?_ (by first | exact Nat.le_refl _ | (simp; done) | omega | (simp; omega)) _ | refine below_drewN ?_ _ | refine Below.drew ?_ | refine Below.on (by assumption) ?_ | refine Below.via (by assumption) (by first | exact Nat.le_refl _ | (simp; done) | omega | (simp; omega)) ?_))
  clear hBw1
  obtain ⟨⟨c0, c1, c2⟩, ⟨r0, r1, r2⟩, ⟨f0, f1, f2⟩, hz⟩ := HT.out
  go_wp2_with fail
  refine (n3 _).mono ?_
  rintro e w2 ⟨rfl, hBw2⟩
  have HTw2 := Lib.hid (HT.out.on hBw2)
  replace hB0 := Below.on hBw2 hB0
  clear c0 c1 c2 r0 r1 r2 f0 f1 f2 hz hBw2
  obtain ⟨⟨c0, c1, c2⟩, ⟨r0, r1, r2⟩, ⟨f0, f1, f2⟩, hz⟩ := HTw2.out
  go_wp2_with fail
  exact bodyPost_ret (v := .tuple #[.agg #[.int .u64 (px (negE p)), .int .u64 (py (negE p)), .bool (pf (negE p))], .int .i64 0]) (by simp (maxDischargeDepth := 9) [results, Try.results46, go_sem, vp, v2, *]) rfl ⟨rfl, (by repeat (first | assumption | exact Below.refl _ _ | refine Below.setCell ?_ (by first | exact Nat.le_refl _ | (simp; done) | omega | (simp; omega)) _ | refine Below.alloc ?_ (by first | exact Nat.le_refl _ | (simp; done) | omega | (simp; omega)) _ | refine below_drewN ?_ _ | refine Below.drew ?_ | refine Below.on (by assumption) ?_ | refine Below.via (by assumption) (by first | exact Nat.le_refl _ | (simp; done) | omega | (simp; omega)) ?_))⟩
theorem rneg_of (x y : Int) (i : Bool) (hx : 0 ≤ x) (hy : 0 ≤ y) (w : World) :
    Calls Try.prog 46 #[.agg #[.int .u64 x, .int .u64 y, .bool i]] w (Ret w (outV (negR x y i))) := by
  cases h : isOn x y i
  · rw [show negR x y i = none from by unfold negR; rw [said_none h]; rfl]
    exact rneg_bad x y i hx hy h w
  · obtain ⟨p, hp, h1, rfl, rfl, rfl⟩ := said_some hx hy h
    rw [show negR (px p) (py p) (pf p) = some (negE p) from by unfold negR; rw [h1]; rfl]
    exact rneg_good p hp w

set_option maxRecDepth 100000 in
set_option maxHeartbeats 2000000 in
theorem times_bad (n : Int) (x y : Int) (i : Bool) (hx : 0 ≤ x) (hy : 0 ≤ y) (hn : 0 ≤ n) (hn2 : n ≤ 18446744073709551615) (h : isOn x y i = false) (w : World) :
    Calls Try.prog 40 #[.int .u64 n, .agg #[.int .u64 x, .int .u64 y, .bool i]] w (Ret w (.tuple #[.agg #[.int .u64 0, .int .u64 0, .bool false], .int .i64 100])) := by
  have n1 := on_x hx hy h
  go_enter Try.func40, Try.ntmps40
  go_wp2_with fail
  refine (n1 _).mono ?_
  rintro e w1 ⟨rfl, hBw1⟩
  have HT := Lib.hid (Duo.on Duo.start hBw1)
  have hB0 : Below w.heap.size w w1 := (by repeat (first | assumption | exact Below.refl _ _ | refine Below.setCell ?_ (by first | exact Nat.le_refl _ | (simp; done) | omega | (simp; omega)) _ | refine Below.alloc ?_ (by first | exact Nat.le_refl _ | (simp; done) | omega | (simp; omega)) _ | refine below_drewN ?_ _ | refine Below.drew ?_ | refine Below.on (by assumption) ?_ | refine Below.via (by assumption) (by first | exact Nat.le_refl _ | (simp; done) | omega | (simp; omega)) ?_))
  clear hBw1
  obtain ⟨⟨c0, c1, c2⟩, ⟨r0, r1, r2⟩, ⟨f0, f1, f2⟩, hz⟩ := HT.out
  go_wp2_with fail
  exact bodyPost_ret (v := .tuple #[.agg #[.int .u64 0, .int .u64 0, .bool false], .int .i64 100]) (by simp (maxDischargeDepth := 9) [results, Try.results40, go_sem, vp, v2, *]) rfl ⟨rfl, (by repeat (first | assumption | exact Below.refl _ _ | refine Below.setCell ?_ (by first | exact Nat.le_refl _ | (simp; done) | omega | (simp; omega)) _ | refine Below.alloc ?_ (by first | exact Nat.le_refl _ | (simp; done) | omega | (simp; omega)) _ | refine below_drewN ?_ _ | refine Below.drew ?_ | refine Below.on (by assumption) ?_ | refine Below.via (by assumption) (by first | exact Nat.le_refl _ | (simp; done) | omega | (simp; omega)) ?_))⟩

set_option maxRecDepth 100000 in
set_option maxHeartbeats 2000000 in
theorem times_good (n : Int) (p : E) (hn : 0 ≤ n) (hn2 : n ≤ 18446744073709551615) (hp : onE p = true) (w : World) :
    Calls Try.prog 40 #[.int .u64 n, .agg #[.int .u64 (px p), .int .u64 (py p), .bool (pf p)]] w (Ret w (.tuple #[.agg #[.int .u64 (px (timesE n p)), .int .u64 (py (timesE n p)), .bool (pf (timesE n p))], .int .i64 0])) := by
  have n1 := on_p hp
  have n3 := times_u p n hn hn2
  go_enter Try.func40, Try.ntmps40
  go_wp2_with fail
  refine (n1 _).mono ?_
  rintro e w1 ⟨rfl, hBw1⟩
  have HT := Lib.hid (Duo.on Duo.start hBw1)
  have hB0 : Below w.heap.size w w1 := (by repeat (first | assumption | exact Below.refl _ _ | refine Below.setCell ?_ (by first | exact Nat.le_refl _ | (simp; done) | omega | (simp; omega)) _ | refine Below.alloc ?_ (by first | exact Nat.le_refl _ | (simp; done) | omega | (simp; omega)) _ | refine below_drewN ?_ _ | refine Below.drew ?_ | refine Below.on (by assumption) ?_ | refine Below.via (by assumption) (by first | exact Nat.le_refl _ | (simp; done) | omega | (simp; omega)) ?_))
  clear hBw1
  obtain ⟨⟨c0, c1, c2⟩, ⟨r0, r1, r2⟩, ⟨f0, f1, f2⟩, hz⟩ := HT.out
  go_wp2_with fail
  refine (n3 _).mono ?_
  rintro e w2 ⟨rfl, hBw2⟩
  have HTw2 := Lib.hid (HT.out.on hBw2)
  replace hB0 := Below.on hBw2 hB0
  clear c0 c1 c2 r0 r1 r2 f0 f1 f2 hz hBw2
  obtain ⟨⟨c0, c1, c2⟩, ⟨r0, r1, r2⟩, ⟨f0, f1, f2⟩, hz⟩ := HTw2.out
  go_wp2_with fail
  exact bodyPost_ret (v := .tuple #[.agg #[.int .u64 (px (timesE n p)), .int .u64 (py (timesE n p)), .bool (pf (timesE n p))], .int .i64 0]) (by simp (maxDischargeDepth := 9) [results, Try.results40, go_sem, vp, v2, *]) rfl ⟨rfl, (by repeat (first | assumption | exact Below.refl _ _ | refine Below.setCell ?_ (by first | exact Nat.le_refl _ | (simp; done) | omega | (simp; omega)) _ | refine Below.alloc ?_ (by first | exact Nat.le_refl _ | (simp; done) | omega | (simp; omega)) _ | refine below_drewN ?_ _ | refine Below.drew ?_ | refine Below.on (by assumption) ?_ | refine Below.via (by assumption) (by first | exact Nat.le_refl _ | (simp; done) | omega | (simp; omega)) ?_))⟩
theorem times_of (n : Int) (x y : Int) (i : Bool) (hx : 0 ≤ x) (hy : 0 ≤ y) (hn : 0 ≤ n) (hn2 : n ≤ 18446744073709551615) (w : World) :
    Calls Try.prog 40 #[.int .u64 n, .agg #[.int .u64 x, .int .u64 y, .bool i]] w (Ret w (outV (timesR n x y i))) := by
  cases h : isOn x y i
  · rw [show timesR n x y i = none from by unfold timesR; rw [said_none h]; rfl]
    exact times_bad n x y i hx hy hn hn2 h w
  · obtain ⟨p, hp, h1, rfl, rfl, rfl⟩ := said_some hx hy h
    rw [show timesR n (px p) (py p) (pf p) = some (timesE n p) from by unfold timesR; rw [h1]; rfl]
    exact times_good n p hn hn2 hp w

set_option maxRecDepth 100000 in
set_option maxHeartbeats 2000000 in
theorem rtimes_bad (n : Int) (x y : Int) (i : Bool) (hx : 0 ≤ x) (hy : 0 ≤ y) (hn : 0 ≤ n) (hn2 : n ≤ 18446744073709551615) (h : isOn x y i = false) (w : World) :
    Calls Try.prog 41 #[.int .u64 n, .agg #[.int .u64 x, .int .u64 y, .bool i]] w (Ret w (.tuple #[.agg #[.int .u64 0, .int .u64 0, .bool false], .int .i64 100])) := by
  have n1 := ron_x hx hy h
  go_enter Try.func41, Try.ntmps41
  go_wp2_with fail
  refine (n1 _).mono ?_
  rintro e w1 ⟨rfl, hBw1⟩
  have HT := Lib.hid (Duo.on Duo.start hBw1)
  have hB0 : Below w.heap.size w w1 := (by repeat (first | assumption | exact Below.refl _ _ | refine Below.setCell ?_ (by first | exact Nat.le_refl _ | (simp; done) | omega | (simp; omega)) _ | refine Below.alloc ?_ (by first | exact Nat.le_refl _ | (simp; done) | omega | (simp; omega)) _ | refine below_drewN ?_ _ | refine Below.drew ?_ | refine Below.on (by assumption) ?_ | refine Below.via (by assumption) (by first | exact Nat.le_refl _ | (simp; done) | omega | (simp; omega)) ?_))
  clear hBw1
  obtain ⟨⟨c0, c1, c2⟩, ⟨r0, r1, r2⟩, ⟨f0, f1, f2⟩, hz⟩ := HT.out
  go_wp2_with fail
  exact bodyPost_ret (v := .tuple #[.agg #[.int .u64 0, .int .u64 0, .bool false], .int .i64 100]) (by simp (maxDischargeDepth := 9) [results, Try.results41, go_sem, vp, v2, *]) rfl ⟨rfl, (by repeat (first | assumption | exact Below.refl _ _ | refine Below.setCell ?_ (by first | exact Nat.le_refl _ | (simp; done) | omega | (simp; omega)) _ | refine Below.alloc ?_ (by first | exact Nat.le_refl _ | (simp; done) | omega | (simp; omega)) _ | refine below_drewN ?_ _ | refine Below.drew ?_ | refine Below.on (by assumption) ?_ | refine Below.via (by assumption) (by first | exact Nat.le_refl _ | (simp; done) | omega | (simp; omega)) ?_))⟩

set_option maxRecDepth 100000 in
set_option maxHeartbeats 2000000 in
theorem rtimes_good (n : Int) (p : E) (hn : 0 ≤ n) (hn2 : n ≤ 18446744073709551615) (hp : onE p = true) (w : World) :
    Calls Try.prog 41 #[.int .u64 n, .agg #[.int .u64 (px p), .int .u64 (py p), .bool (pf p)]] w (Ret w (.tuple #[.agg #[.int .u64 (px (timesE n p)), .int .u64 (py (timesE n p)), .bool (pf (timesE n p))], .int .i64 0])) := by
  have n1 := ron_p hp
  have n3 := rmany_u p n hn hn2
  go_enter Try.func41, Try.ntmps41
  go_wp2_with fail
  refine (n1 _).mono ?_
  rintro e w1 ⟨rfl, hBw1⟩
  have HT := Lib.hid (Duo.on Duo.start hBw1)
  have hB0 : Below w.heap.size w w1 := (by repeat (first | assumption | exact Below.refl _ _ | refine Below.setCell ?_ (by first | exact Nat.le_refl _ | (simp; done) | omega | (simp; omega)) _ | refine Below.alloc ?_ (by first | exact Nat.le_refl _ | (simp; done) | omega | (simp; omega)) _ | refine below_drewN ?_ _ | refine Below.drew ?_ | refine Below.on (by assumption) ?_ | refine Below.via (by assumption) (by first | exact Nat.le_refl _ | (simp; done) | omega | (simp; omega)) ?_))
  clear hBw1
  obtain ⟨⟨c0, c1, c2⟩, ⟨r0, r1, r2⟩, ⟨f0, f1, f2⟩, hz⟩ := HT.out
  go_wp2_with fail
  refine (n3 _).mono ?_
  rintro e w2 ⟨rfl, hBw2⟩
  have HTw2 := Lib.hid (HT.out.on hBw2)
  replace hB0 := Below.on hBw2 hB0
  clear c0 c1 c2 r0 r1 r2 f0 f1 f2 hz hBw2
  obtain ⟨⟨c0, c1, c2⟩, ⟨r0, r1, r2⟩, ⟨f0, f1, f2⟩, hz⟩ := HTw2.out
  go_wp2_with fail
  exact bodyPost_ret (v := .tuple #[.agg #[.int .u64 (px (timesE n p)), .int .u64 (py (timesE n p)), .bool (pf (timesE n p))], .int .i64 0]) (by simp (maxDischargeDepth := 9) [results, Try.results41, go_sem, vp, v2, *]) rfl ⟨rfl, (by repeat (first | assumption | exact Below.refl _ _ | refine Below.setCell ?_ (by first | exact Nat.le_refl _ | (simp; done) | omega | (simp; omega)) _ | refine Below.alloc ?_ (by first | exact Nat.le_refl _ | (simp; done) | omega | (simp; omega)) _ | refine below_drewN ?_ _ | refine Below.drew ?_ | refine Below.on (by assumption) ?_ | refine Below.via (by assumption) (by first | exact Nat.le_refl _ | (simp; done) | omega | (simp; omega)) ?_))⟩
theorem rtimes_of (n : Int) (x y : Int) (i : Bool) (hx : 0 ≤ x) (hy : 0 ≤ y) (hn : 0 ≤ n) (hn2 : n ≤ 18446744073709551615) (w : World) :
    Calls Try.prog 41 #[.int .u64 n, .agg #[.int .u64 x, .int .u64 y, .bool i]] w (Ret w (outV (timesR n x y i))) := by
  cases h : isOn x y i
  · rw [show timesR n x y i = none from by unfold timesR; rw [said_none h]; rfl]
    exact rtimes_bad n x y i hx hy hn hn2 h w
  · obtain ⟨p, hp, h1, rfl, rfl, rfl⟩ := said_some hx hy h
    rw [show timesR n (px p) (py p) (pf p) = some (timesE n p) from by unfold timesR; rw [h1]; rfl]
    exact rtimes_good n p hn hn2 hp w

end Go.Proofs.Ytpmmjomejackkaa
