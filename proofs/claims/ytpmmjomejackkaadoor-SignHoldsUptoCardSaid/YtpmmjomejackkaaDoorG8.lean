/- What the later texts stand on (Crv12, Crv13, Crv14): plain laws and walks, each by its own conditions. -/
import Derived.Test.YtpmmjomejackkaaDoorG7
import Derived.Test.YtpmmjomejackkaaDoorG3
set_option linter.unusedSimpArgs false
set_option linter.unusedVariables false
section
set_option linter.unusedSimpArgs false
set_option linter.unusedVariables false
namespace Go.Proofs.YtpmmjomejackkaaDoor
open BigFrame Go.RowKit Go.Phx Go.Shelf
attribute [local go_sem] Oper.semAt_some

/-- a point and a word as a told pair -/
abbrev outV (r : Option E) : Value := .tuple #[.agg #[.int .u64 (rx r), .int .u64 (ry r), .bool (ri r)], .int .i64 (re r)]
theorem minus_u (p : E) (w : World) : Calls Tryd.prog 122 #[.agg #[.int .u64 (px p), .int .u64 (py p), .bool (pf p)]] w (Ret w (.agg #[.int .u64 (px (negE p)), .int .u64 (py (negE p)), .bool (pf (negE p))])) := by
  rw [← vp_parts, ← vp_parts]
  exact minus_vp p w
theorem times_u (p : E) (x : Int) (hx : 0 ≤ x) (hx2 : x ≤ 18446744073709551615) (w : World) : Calls Tryd.prog 115 #[.int .u64 x, .agg #[.int .u64 (px p), .int .u64 (py p), .bool (pf p)]] w (Ret w (.agg #[.int .u64 (px (timesE x p)), .int .u64 (py (timesE x p)), .bool (pf (timesE x p))])) := by
  rw [← vp_parts (timesE x p)]
  exact times_calls p x hx hx2 w
theorem rmany_u (p : E) (x : Int) (hx : 0 ≤ x) (hx2 : x ≤ 18446744073709551615) (w : World) : Calls Tryd.prog 82 #[.int .u64 x, .agg #[.int .u64 (px p), .int .u64 (py p), .bool (pf p)]] w (Ret w (.agg #[.int .u64 (px (timesE x p)), .int .u64 (py (timesE x p)), .bool (pf (timesE x p))])) := by
  rw [← vp_parts (timesE x p)]
  exact rmany_calls p x hx hx2 w
theorem on_p {p : E} (hp : onE p = true) (w : World) : Calls Tryd.prog 114 #[.agg #[.int .u64 (px p), .int .u64 (py p), .bool (pf p)]] w (Ret w (.bool true)) := by
  rw [← isOn_parts hp]
  exact on_calls _ _ _ (px_nonneg p) (py_nonneg p) w
theorem ron_p {p : E} (hp : onE p = true) (w : World) : Calls Tryd.prog 143 #[.agg #[.int .u64 (px p), .int .u64 (py p), .bool (pf p)]] w (Ret w (.bool true)) := by
  rw [← isOn_parts hp]
  exact ron_calls _ _ _ (px_nonneg p) (py_nonneg p) w
theorem on_x {x y : Int} {i : Bool} (hx : 0 ≤ x) (hy : 0 ≤ y) (h : isOn x y i = false) (w : World) : Calls Tryd.prog 114 #[.agg #[.int .u64 x, .int .u64 y, .bool i]] w (Ret w (.bool false)) := by
  rw [← h]
  exact on_calls _ _ _ hx hy w
theorem ron_x {x y : Int} {i : Bool} (hx : 0 ≤ x) (hy : 0 ≤ y) (h : isOn x y i = false) (w : World) : Calls Tryd.prog 143 #[.agg #[.int .u64 x, .int .u64 y, .bool i]] w (Ret w (.bool false)) := by
  rw [← h]
  exact ron_calls _ _ _ hx hy w


set_option maxRecDepth 100000 in
set_option maxHeartbeats 2000000 in
theorem add_good (p q : E) (hp : onE p = true) (hq : onE q = true) (w : World) :
    Calls Tryd.prog 128 #[.agg #[.int .u64 (px p), .int .u64 (py p), .bool (pf p)], .agg #[.int .u64 (px q), .int .u64 (py q), .bool (pf q)]] w (Ret w (.tuple #[.agg #[.int .u64 (px (addE p q)), .int .u64 (py (addE p q)), .bool (pf (addE p q))], .int .i64 0])) := by
  have n1 := on_p hp
  have n2 := on_p hq
  have n3 := plus_u p q
  go_enter Tryd.func128, Tryd.ntmps128
  go_wp2_with fail
  refine (n1 _).mono ?_
  rintro e w1 ⟨rfl, hBw1⟩
  have HT := Lib.hid (boxes3 hBw1)
  obtain ⟨⟨c0, c1, c2⟩, ⟨d0, d1, d2⟩, ⟨r0, r1, r2⟩, ⟨f0, f1, f2⟩, hz, hB0⟩ := HT.out
  clear hBw1
  go_wp2_with fail
  refine (n2 _).mono ?_
  rintro e w2 ⟨rfl, hBw2⟩
  have HTw2 := Lib.hid (Trio.on (n := w.heap.size) ⟨⟨c0, c1, c2⟩, ⟨d0, d1, d2⟩, ⟨r0, r1, r2⟩, ⟨f0, f1, f2⟩, hz⟩ hBw2)
  replace hB0 := Below.on hBw2 hB0
  clear c0 c1 c2 d0 d1 d2 r0 r1 r2 f0 f1 f2 hz hBw2
  obtain ⟨⟨c0, c1, c2⟩, ⟨d0, d1, d2⟩, ⟨r0, r1, r2⟩, ⟨f0, f1, f2⟩, hz⟩ := HTw2.out
  go_wp2_with fail
  refine (n3 _).mono ?_
  rintro e w3 ⟨rfl, hBw3⟩
  have HTw3 := Lib.hid (Trio.on (n := w.heap.size) ⟨⟨c0, c1, c2⟩, ⟨d0, d1, d2⟩, ⟨r0, r1, r2⟩, ⟨f0, f1, f2⟩, hz⟩ hBw3)
  replace hB0 := Below.on hBw3 hB0
  clear c0 c1 c2 d0 d1 d2 r0 r1 r2 f0 f1 f2 hz hBw3
  obtain ⟨⟨c0, c1, c2⟩, ⟨d0, d1, d2⟩, ⟨r0, r1, r2⟩, ⟨f0, f1, f2⟩, hz⟩ := HTw3.out
  go_wp2_with fail
  exact bodyPost_ret (v := .tuple #[.agg #[.int .u64 (px (addE p q)), .int .u64 (py (addE p q)), .bool (pf (addE p q))], .int .i64 0]) (by simp (maxDischargeDepth := 9) [results, Tryd.results128, go_sem, vp, v2, *]) rfl ⟨rfl, (by repeat (first | assumption | exact Below.refl _ _ | refine Below.setCell ?_ (by first | exact Nat.le_refl _ | (simp; done) | omega | (simp; omega)) _ | refine Below.alloc ?_ (by first | exact Nat.le_refl _ | (simp; done) | omega | (simp; omega)) _ | refine below_drewN ?_ _ | refine Below.drew ?_ | refine Below.on (by assumption) ?_ | refine Below.via (by assumption) (by first | exact Nat.le_refl _ | (simp; done) | omega | (simp; omega)) ?_))⟩
set_option maxRecDepth 100000 in
set_option maxHeartbeats 2000000 in
theorem neg_good (p : E) (hp : onE p = true) (w : World) :
    Calls Tryd.prog 166 #[.agg #[.int .u64 (px p), .int .u64 (py p), .bool (pf p)]] w (Ret w (.tuple #[.agg #[.int .u64 (px (negE p)), .int .u64 (py (negE p)), .bool (pf (negE p))], .int .i64 0])) := by
  have n1 := on_p hp
  have n3 := minus_u p
  go_enter Tryd.func166, Tryd.ntmps166
  go_wp2_with fail
  refine (n1 _).mono ?_
  rintro e w1 ⟨rfl, hBw1⟩
  have HT := Lib.hid (Duo.on Duo.start hBw1)
  have hB0 : Below w.heap.size w w1 := (by repeat (first | assumption | exact Below.refl _ _ | refine Below.setCell ?_ (by first | exact Nat.le_refl _ | (simp; done) | omega | (simp; omega)) _ | refine Below.alloc ?_ (by first | exact Nat.le_refl _ | (simp; done) | omega | (simp; omega)) _ | refine below_drewN ?_ _ | refine Below.drew ?_ | refine Below.on (by assumption) ?_ | refine Below.via (by assumption) (by first | exact Nat.le_refl _ | (simp; done) | omega | (simp; omega)) ?_))
  clear hBw1
  obtain ⟨⟨c0, c1, c2⟩, ⟨r0, r1, r2⟩, ⟨f0, f1, f2⟩, hz⟩ := HT.out
  go_wp2_with fail
  refine (n3 _).mono ?_
  rintro e w2 ⟨rfl, hBw2⟩
  have HTw2 := Lib.hid (HT.out.on hBw2)
  replace hB0 := Below.on hBw2 hB0
  clear c0 c1 c2 r0 r1 r2 f0 f1 f2 hz hBw2
  obtain ⟨⟨c0, c1, c2⟩, ⟨r0, r1, r2⟩, ⟨f0, f1, f2⟩, hz⟩ := HTw2.out
  go_wp2_with fail
  exact bodyPost_ret (v := .tuple #[.agg #[.int .u64 (px (negE p)), .int .u64 (py (negE p)), .bool (pf (negE p))], .int .i64 0]) (by simp (maxDischargeDepth := 9) [results, Tryd.results166, go_sem, vp, v2, *]) rfl ⟨rfl, (by repeat (first | assumption | exact Below.refl _ _ | refine Below.setCell ?_ (by first | exact Nat.le_refl _ | (simp; done) | omega | (simp; omega)) _ | refine Below.alloc ?_ (by first | exact Nat.le_refl _ | (simp; done) | omega | (simp; omega)) _ | refine below_drewN ?_ _ | refine Below.drew ?_ | refine Below.on (by assumption) ?_ | refine Below.via (by assumption) (by first | exact Nat.le_refl _ | (simp; done) | omega | (simp; omega)) ?_))⟩
set_option maxRecDepth 100000 in
set_option maxHeartbeats 2000000 in
theorem times_good (n : Int) (p : E) (hn : 0 ≤ n) (hn2 : n ≤ 18446744073709551615) (hp : onE p = true) (w : World) :
    Calls Tryd.prog 78 #[.int .u64 n, .agg #[.int .u64 (px p), .int .u64 (py p), .bool (pf p)]] w (Ret w (.tuple #[.agg #[.int .u64 (px (timesE n p)), .int .u64 (py (timesE n p)), .bool (pf (timesE n p))], .int .i64 0])) := by
  have n1 := on_p hp
  have n3 := times_u p n hn hn2
  go_enter Tryd.func78, Tryd.ntmps78
  go_wp2_with fail
  refine (n1 _).mono ?_
  rintro e w1 ⟨rfl, hBw1⟩
  have HT := Lib.hid (Duo.on Duo.start hBw1)
  have hB0 : Below w.heap.size w w1 := (by repeat (first | assumption | exact Below.refl _ _ | refine Below.setCell ?_ (by first | exact Nat.le_refl _ | (simp; done) | omega | (simp; omega)) _ | refine Below.alloc ?_ (by first | exact Nat.le_refl _ | (simp; done) | omega | (simp; omega)) _ | refine below_drewN ?_ _ | refine Below.drew ?_ | refine Below.on (by assumption) ?_ | refine Below.via (by assumption) (by first | exact Nat.le_refl _ | (simp; done) | omega | (simp; omega)) ?_))
  clear hBw1
  obtain ⟨⟨c0, c1, c2⟩, ⟨r0, r1, r2⟩, ⟨f0, f1, f2⟩, hz⟩ := HT.out
  go_wp2_with fail
  refine (n3 _).mono ?_
  rintro e w2 ⟨rfl, hBw2⟩
  have HTw2 := Lib.hid (HT.out.on hBw2)
  replace hB0 := Below.on hBw2 hB0
  clear c0 c1 c2 r0 r1 r2 f0 f1 f2 hz hBw2
  obtain ⟨⟨c0, c1, c2⟩, ⟨r0, r1, r2⟩, ⟨f0, f1, f2⟩, hz⟩ := HTw2.out
  go_wp2_with fail
  exact bodyPost_ret (v := .tuple #[.agg #[.int .u64 (px (timesE n p)), .int .u64 (py (timesE n p)), .bool (pf (timesE n p))], .int .i64 0]) (by simp (maxDischargeDepth := 9) [results, Tryd.results78, go_sem, vp, v2, *]) rfl ⟨rfl, (by repeat (first | assumption | exact Below.refl _ _ | refine Below.setCell ?_ (by first | exact Nat.le_refl _ | (simp; done) | omega | (simp; omega)) _ | refine Below.alloc ?_ (by first | exact Nat.le_refl _ | (simp; done) | omega | (simp; omega)) _ | refine below_drewN ?_ _ | refine Below.drew ?_ | refine Below.on (by assumption) ?_ | refine Below.via (by assumption) (by first | exact Nat.le_refl _ | (simp; done) | omega | (simp; omega)) ?_))⟩
end Go.Proofs.YtpmmjomejackkaaDoor
end
section
set_option linter.unusedSimpArgs false
set_option linter.unusedVariables false
namespace Go.Proofs.YtpmmjomejackkaaDoor
open BigFrame Go.RowKit Go.Phx Go.Shelf
attribute [local go_sem] Oper.semAt_some

theorem fldInf (a b c : Value) (w : World) : (Instr.field 52 (.agg #[a, b, c]) 2).run Tryd.prog w = .ok c w := by kernel_rfl
attribute [local go_sem] fldInf
theorem inG_pf {p : E} (hp : onE p = true) : inG p = pf (timesE 536870717 p) := by
  unfold inG
  rw [hp, Bool.true_and]
  rcases timesE 536870717 p with _ | ⟨x, y⟩
  · rfl
  · rfl
/-- do these say a point of the group? -/
noncomputable def inR (x y : Int) (i : Bool) : Bool := (said x y i).any inG
/-- a point in a cell -/
def Pt (b : Nat) (p : E) (W : World) : Prop :=
  (W.cell? ⟨b, 0, none⟩ = some (.int .u64 (px p)) ∧ W.cell? ⟨b, 1, none⟩ = some (.int .u64 (py p)) ∧ W.cell? ⟨b, 2, none⟩ = some (.bool (pf p))) ∧ b < W.heap.size
theorem Pt.on {b : Nat} {p : E} {W W2 : World} (h : Pt b p W) (hB : Below W.heap.size W W2) : Pt b p W2 := by
  obtain ⟨⟨c0, c1, c2⟩, hz⟩ := h
  obtain ⟨hc, hf⟩ := bcell hB
  have hz2 := hB.size
  refine ⟨⟨?_, ?_, ?_⟩, ?_⟩
  all_goals first | (rw [hc _ _ (by omega)]; assumption) | omega
theorem Pt.new (p : E) (t : TypeId) (W : World) : Pt W.heap.size p (W.alloc (.cells #[.int .u64 (px p), .int .u64 (py p), .bool (pf p)] t)) := by
  refine ⟨⟨?_, ?_, ?_⟩, ?_⟩
  all_goals simp [go_sem]
theorem Pt.alloc {b : Nat} {p : E} {W : World} (h : Pt b p W) (o : Obj) : Pt b p (W.alloc o) := h.on ((Below.refl _ _).alloc (Nat.le_refl _) _)

set_option maxRecDepth 100000 in
set_option maxHeartbeats 2000000 in
theorem in_bad (x y : Int) (i : Bool) (hx : 0 ≤ x) (hy : 0 ≤ y) (h : isOn x y i = false) (w : World) :
    Calls Tryd.prog 123 #[.agg #[.int .u64 x, .int .u64 y, .bool i]] w (Ret w (.bool false)) := by
  have n1 := on_x hx hy h
  go_enter Tryd.func123, Tryd.ntmps123
  go_wp2_with fail
  refine (n1 _).mono ?_
  rintro e w1 ⟨rfl, hB1⟩
  go_wp2_with fail
  go_ret
  exact ⟨rfl, (by repeat (first | assumption | exact Below.refl _ _ | refine Below.setCell ?_ (by first | exact Nat.le_refl _ | (simp; done) | omega | (simp; omega)) _ | refine Below.alloc ?_ (by first | exact Nat.le_refl _ | (simp; done) | omega | (simp; omega)) _ | refine below_drewN ?_ _ | refine Below.drew ?_ | refine Below.on (by assumption) ?_ | refine Below.via (by assumption) (by first | exact Nat.le_refl _ | (simp; done) | omega | (simp; omega)) ?_))⟩

set_option maxRecDepth 100000 in
set_option maxHeartbeats 2000000 in
theorem in_good (p : E) (hp : onE p = true) (w : World) :
    Calls Tryd.prog 123 #[.agg #[.int .u64 (px p), .int .u64 (py p), .bool (pf p)]] w (Ret w (.bool (inG p))) := by
  have n1 := on_p hp
  have n3 := times_u p 536870717 (by decide) (by decide)
  rw [inG_pf hp]
  go_enter Tryd.func123, Tryd.ntmps123
  go_wp2_with fail
  refine (n1 _).mono ?_
  rintro e w1 ⟨rfl, hB1⟩
  have HT := Lib.hid ((Pt.new p 52 w).on hB1)
  have hB0 : Below w.heap.size w w1 := (by repeat (first | assumption | exact Below.refl _ _ | refine Below.setCell ?_ (by first | exact Nat.le_refl _ | (simp; done) | omega | (simp; omega)) _ | refine Below.alloc ?_ (by first | exact Nat.le_refl _ | (simp; done) | omega | (simp; omega)) _ | refine below_drewN ?_ _ | refine Below.drew ?_ | refine Below.on (by assumption) ?_ | refine Below.via (by assumption) (by first | exact Nat.le_refl _ | (simp; done) | omega | (simp; omega)) ?_))
  clear hB1
  obtain ⟨⟨c0, c1, c2⟩, hz⟩ := HT.out
  go_wp2_with fail
  refine (n3 _).mono ?_
  rintro e w2 ⟨rfl, hB2⟩
  clear c0 c1 c2 hz
  go_wp2_with fail
  go_ret
  exact ⟨rfl, (by repeat (first | assumption | exact Below.refl _ _ | refine Below.setCell ?_ (by first | exact Nat.le_refl _ | (simp; done) | omega | (simp; omega)) _ | refine Below.alloc ?_ (by first | exact Nat.le_refl _ | (simp; done) | omega | (simp; omega)) _ | refine below_drewN ?_ _ | refine Below.drew ?_ | refine Below.on (by assumption) ?_ | refine Below.via (by assumption) (by first | exact Nat.le_refl _ | (simp; done) | omega | (simp; omega)) ?_))⟩
theorem in_of (x y : Int) (i : Bool) (hx : 0 ≤ x) (hy : 0 ≤ y) (w : World) :
    Calls Tryd.prog 123 #[.agg #[.int .u64 x, .int .u64 y, .bool i]] w (Ret w (.bool (inR x y i))) := by
  cases h : isOn x y i
  · rw [show inR x y i = false from by unfold inR; rw [said_none h]; rfl]
    exact in_bad x y i hx hy h w
  · obtain ⟨p, hp, h1, rfl, rfl, rfl⟩ := said_some hx hy h
    rw [show inR (px p) (py p) (pf p) = inG p from by unfold inR; rw [h1]; rfl]
    exact in_good p hp w

set_option maxRecDepth 100000 in
set_option maxHeartbeats 2000000 in
theorem rin_bad (x y : Int) (i : Bool) (hx : 0 ≤ x) (hy : 0 ≤ y) (h : isOn x y i = false) (w : World) :
    Calls Tryd.prog 119 #[.agg #[.int .u64 x, .int .u64 y, .bool i]] w (Ret w (.bool false)) := by
  have n1 := ron_x hx hy h
  go_enter Tryd.func119, Tryd.ntmps119
  go_wp2_with fail
  refine (n1 _).mono ?_
  rintro e w1 ⟨rfl, hB1⟩
  go_wp2_with fail
  go_ret
  exact ⟨rfl, (by repeat (first | assumption | exact Below.refl _ _ | refine Below.setCell ?_ (by first | exact Nat.le_refl _ | (simp; done) | omega | (simp; omega)) _ | refine Below.alloc ?_ (by first | exact Nat.le_refl _ | (simp; done) | omega | (simp; omega)) _ | refine below_drewN ?_ _ | refine Below.drew ?_ | refine Below.on (by assumption) ?_ | refine Below.via (by assumption) (by first | exact Nat.le_refl _ | (simp; done) | omega | (simp; omega)) ?_))⟩

set_option maxRecDepth 100000 in
set_option maxHeartbeats 2000000 in
theorem rin_good (p : E) (hp : onE p = true) (w : World) :
    Calls Tryd.prog 119 #[.agg #[.int .u64 (px p), .int .u64 (py p), .bool (pf p)]] w (Ret w (.bool (inG p))) := by
  have n1 := ron_p hp
  have n3 := rmany_u p 536870717 (by decide) (by decide)
  rw [inG_pf hp]
  go_enter Tryd.func119, Tryd.ntmps119
  go_wp2_with fail
  refine (n1 _).mono ?_
  rintro e w1 ⟨rfl, hB1⟩
  have HT := Lib.hid ((Pt.new p 52 w).on hB1)
  have hB0 : Below w.heap.size w w1 := (by repeat (first | assumption | exact Below.refl _ _ | refine Below.setCell ?_ (by first | exact Nat.le_refl _ | (simp; done) | omega | (simp; omega)) _ | refine Below.alloc ?_ (by first | exact Nat.le_refl _ | (simp; done) | omega | (simp; omega)) _ | refine below_drewN ?_ _ | refine Below.drew ?_ | refine Below.on (by assumption) ?_ | refine Below.via (by assumption) (by first | exact Nat.le_refl _ | (simp; done) | omega | (simp; omega)) ?_))
  clear hB1
  obtain ⟨⟨c0, c1, c2⟩, hz⟩ := HT.out
  go_wp2_with fail
  refine (n3 _).mono ?_
  rintro e w2 ⟨rfl, hB2⟩
  clear c0 c1 c2 hz
  go_wp2_with fail
  go_ret
  exact ⟨rfl, (by repeat (first | assumption | exact Below.refl _ _ | refine Below.setCell ?_ (by first | exact Nat.le_refl _ | (simp; done) | omega | (simp; omega)) _ | refine Below.alloc ?_ (by first | exact Nat.le_refl _ | (simp; done) | omega | (simp; omega)) _ | refine below_drewN ?_ _ | refine Below.drew ?_ | refine Below.on (by assumption) ?_ | refine Below.via (by assumption) (by first | exact Nat.le_refl _ | (simp; done) | omega | (simp; omega)) ?_))⟩
theorem rin_of (x y : Int) (i : Bool) (hx : 0 ≤ x) (hy : 0 ≤ y) (w : World) :
    Calls Tryd.prog 119 #[.agg #[.int .u64 x, .int .u64 y, .bool i]] w (Ret w (.bool (inR x y i))) := by
  cases h : isOn x y i
  · rw [show inR x y i = false from by unfold inR; rw [said_none h]; rfl]
    exact rin_bad x y i hx hy h w
  · obtain ⟨p, hp, h1, rfl, rfl, rfl⟩ := said_some hx hy h
    rw [show inR (px p) (py p) (pf p) = inG p from by unfold inR; rw [h1]; rfl]
    exact rin_good p hp w

end Go.Proofs.YtpmmjomejackkaaDoor
end
section
set_option linter.unusedSimpArgs false
set_option linter.unusedVariables false
namespace Go.Proofs.YtpmmjomejackkaaDoor
open BigFrame Go.RowKit Go.Phx Go.Shelf
attribute [local go_sem] Oper.semAt_some fldInf

/-- a text's value -/
abbrev vs (l : List UInt8) : Value := .string ⟨l.toArray⟩
/-- a point's bytes -/
noncomputable def bytesE : E → List UInt8
  | none => [0, 0, 0, 0, 0]
  | some (x, y) => [UInt8.ofNat (2 + y.val % 2), UInt8.ofNat (x.val / 16777216), UInt8.ofNat (x.val / 65536), UInt8.ofNat (x.val / 256), UInt8.ofNat x.val]

theorem ofNat_mod (n : Nat) : UInt8.ofNat (n % 256) = UInt8.ofNat n := by
  apply UInt8.toNat_inj.1
  simp
theorem byte_at (x : F) (k : Nat) : UInt8.ofNat (vz x / (k : Int) % 256).toNat = UInt8.ofNat (x.val / k) := by
  unfold vz
  rw [show ((x.val : Int) / (k : Int) % 256).toNat = x.val / k % 256 from by
    rw [← Int.natCast_ediv]
    show (((x.val / k : Nat) : Int) % ((256 : Nat) : Int)).toNat = _
    rw [← Int.natCast_emod, Int.toNat_natCast]]
  exact ofNat_mod _
theorem byte_low (x : F) : UInt8.ofNat (vz x % 256).toNat = UInt8.ofNat x.val := by
  have := byte_at x 1
  simpa using this
theorem byte_top (x : F) : UInt8.ofNat (vz x / 16777216).toNat = UInt8.ofNat (x.val / 16777216) := by
  unfold vz
  congr 1
theorem bits_and1 (y : F) : bits .and .u64 (vz y) 1 = vz y % 2 := by
  have h := vz_lt y
  have h0 := vz_nonneg y
  rw [u64_and (vz y) 1 h0 (by omega) (by decide) (by decide)]
  show ((((vz y).toNat &&& 1 : Nat)) : Int) = _
  rw [nat_mask1]
  omega
theorem bits_or2 (n : Int) (h : n = 0 ∨ n = 1) : bits .or .u64 2 n = 2 + n := by
  rcases h with rfl | rfl <;> decide
theorem byte_sign (y : F) : UInt8.ofNat (bits .or .u64 2 (bits .and .u64 (vz y) 1) % 256).toNat = UInt8.ofNat (2 + y.val % 2) := by
  rw [bits_and1, bits_or2 _ (by omega)]
  congr 1
  unfold vz
  omega
theorem byte_sum (y : F) : UInt8.ofNat (2 + vz y % 2).toNat = UInt8.ofNat (2 + y.val % 2) := by
  rw [show (2 + vz y % 2).toNat = 2 + y.val % 2 from by unfold vz; omega]
theorem conv5 (W : World) (t : TypeId) (a b c d e : Int) (k : Nat) : (convert 39 9 (.slice (some ⟨W.heap.size, 0, none⟩) 5 k)).run Tryd.prog (W.alloc (.cells #[.int .u8 a, .int .u8 b, .int .u8 c, .int .u8 d, .int .u8 e] t)) =
    .ok (.string ⟨#[UInt8.ofNat a.toNat, UInt8.ofNat b.toNat, UInt8.ofNat c.toNat, UInt8.ofNat d.toNat, UInt8.ofNat e.toNat]⟩) (W.alloc (.cells #[.int .u8 a, .int .u8 b, .int .u8 c, .int .u8 d, .int .u8 e] t)) := by
  have hs : Tryd.prog.underlying 39 = some (.slice 5) := by kernel_rfl
  have he : Tryd.prog.underlying 5 = some (.int .u8) := by kernel_rfl
  have hd : Tryd.prog.underlying 9 = some .string := by kernel_rfl
  exact run_convert_bytes_arg _ _ _ hs he W.heap.size 0 5 k [a, b, c, d, e] rfl (fun i hi => by
    have hK := Blk.new0 W t #[.int .u8 a, .int .u8 b, .int .u8 c, .int .u8 d, .int .u8 e]
    rw [hK.cell]
    rcases i with _ | _ | _ | _ | _ | i
    · rfl
    · rfl
    · rfl
    · rfl
    · rfl
    · omega) _ hd
attribute [local go_sem] conv5

set_option maxRecDepth 100000 in
set_option maxHeartbeats 2000000 in
theorem bytes_some (x y : F) (h : inG (some (x, y)) = true) (w : World) :
    Calls Tryd.prog 93 #[.agg #[.int .u64 (vz x), .int .u64 (vz y), .bool false]] w (Ret w (.tuple #[vs (bytesE (some (x, y))), .int .i64 0])) := by
  have n1 := in_good (some (x, y)) (inG_on h)
  rw [h] at n1
  change ∀ w, Calls _ _ #[.agg #[.int .u64 (vz x), .int .u64 (vz y), .bool false]] w _ at n1
  have b1 := vz_nonneg x
  have b2 := vz_lt x
  have b3 := vz_nonneg y
  have b4 := vz_lt y
  clear h
  go_enter Tryd.func93, Tryd.ntmps93
  go_wp2_with fail
  refine (n1 _).mono ?_
  rintro e w1 ⟨rfl, hB⟩
  (have HBn : Below w.heap.size w w1 := Below.on hB (by repeat (first | assumption | exact Below.refl _ _ | refine Below.setCell ?_ (by first | exact Nat.le_refl _ | (simp; done) | omega | (simp; omega)) _ | refine Below.alloc ?_ (by first | exact Nat.le_refl _ | (simp; done) | omega | (simp; omega)) _ | refine below_drewN ?_ _ | refine Below.drew ?_ | refine Below.on (by assumption) ?_ | refine Below.via (by assumption) (by first | exact Nat.le_refl _ | (simp; done) | omega | (simp; omega)) ?_)); have N0 := Lib.hid (Blk.below (g := w.heap.size) (by repeat (first | with_reducible exact Blk.new0 _ _ _ | with_reducible exact Blk.new1 _ _ _ _ | with_reducible exact Blk.new2 _ _ _ _ _ | with_reducible exact Blk.new3 _ _ _ _ _ _ | with_reducible exact Blk.new4 _ _ _ _ _ _ _ | with_reducible apply Blk.set_ | with_reducible apply Blk.alloc | with_reducible apply Blk.drewN | with_reducible apply Blk.drew | (with_reducible apply Blk.over; first | (intro h; omega) | (simp; done) | (simp; omega)))) hB); (try simp only [List.setIfInBounds_toArray, List.set_cons_succ, List.set_cons_zero] at N0); (try clear HB); clear hB; have HB := HBn; clear HBn; have HZw1 := HB.size; have K0 := N0; clear N0; have k0 := Blk.cell K0.out; have f0 := Blk.free K0.out; have l0 := Blk.lt K0.out; have m0 := Nat.le_of_lt l0)
  go_wp2_with fail
  refine wp_loop_rounds 5 ?_
  iterate 5 (rw [rounds_succ]; go_wp2_with fail)
  go_ret2
  refine ⟨?_, (by repeat (first | assumption | exact Below.refl _ _ | refine Below.setCell ?_ (by first | exact Nat.le_refl _ | (simp; done) | omega | (simp; omega)) _ | refine Below.alloc ?_ (by first | exact Nat.le_refl _ | (simp; done) | omega | (simp; omega)) _ | refine below_drewN ?_ _ | refine Below.drew ?_ | refine Below.on (by assumption) ?_ | refine Below.via (by assumption) (by first | exact Nat.le_refl _ | (simp; done) | omega | (simp; omega)) ?_))⟩
  simp only [byte_sign, byte_top, byte_low]
  rw [show vz x / 65536 = vz x / ((65536 : Nat) : Int) from rfl, show vz x / 256 = vz x / ((256 : Nat) : Int) from rfl, byte_at, byte_at]
  rfl
set_option maxRecDepth 100000 in
set_option maxHeartbeats 2000000 in
theorem bytes_none (w : World) :
    Calls Tryd.prog 93 #[.agg #[.int .u64 0, .int .u64 0, .bool true]] w (Ret w (.tuple #[vs (bytesE none), .int .i64 0])) := by
  have n1 := in_good none rfl
  rw [inG_none] at n1
  change ∀ w, Calls _ _ #[.agg #[.int .u64 0, .int .u64 0, .bool true]] w _ at n1
  go_enter Tryd.func93, Tryd.ntmps93
  go_wp2_with fail
  refine (n1 _).mono ?_
  rintro e w1 ⟨rfl, hB⟩
  (have HBn : Below w.heap.size w w1 := Below.on hB (by repeat (first | assumption | exact Below.refl _ _ | refine Below.setCell ?_ (by first | exact Nat.le_refl _ | (simp; done) | omega | (simp; omega)) _ | refine Below.alloc ?_ (by first | exact Nat.le_refl _ | (simp; done) | omega | (simp; omega)) _ | refine below_drewN ?_ _ | refine Below.drew ?_ | refine Below.on (by assumption) ?_ | refine Below.via (by assumption) (by first | exact Nat.le_refl _ | (simp; done) | omega | (simp; omega)) ?_)); have N0 := Lib.hid (Blk.below (g := w.heap.size) (by repeat (first | with_reducible exact Blk.new0 _ _ _ | with_reducible exact Blk.new1 _ _ _ _ | with_reducible exact Blk.new2 _ _ _ _ _ | with_reducible exact Blk.new3 _ _ _ _ _ _ | with_reducible exact Blk.new4 _ _ _ _ _ _ _ | with_reducible apply Blk.set_ | with_reducible apply Blk.alloc | with_reducible apply Blk.drewN | with_reducible apply Blk.drew | (with_reducible apply Blk.over; first | (intro h; omega) | (simp; done) | (simp; omega)))) hB); (try simp only [List.setIfInBounds_toArray, List.set_cons_succ, List.set_cons_zero] at N0); (try clear HB); clear hB; have HB := HBn; clear HBn; have HZw1 := HB.size; have K0 := N0; clear N0; have k0 := Blk.cell K0.out; have f0 := Blk.free K0.out; have l0 := Blk.lt K0.out; have m0 := Nat.le_of_lt l0)
  go_wp2_with fail
  refine wp_loop_rounds 5 ?_
  iterate 5 (rw [rounds_succ]; go_wp2_with fail)
  go_ret2
  exact ⟨rfl, (by repeat (first | assumption | exact Below.refl _ _ | refine Below.setCell ?_ (by first | exact Nat.le_refl _ | (simp; done) | omega | (simp; omega)) _ | refine Below.alloc ?_ (by first | exact Nat.le_refl _ | (simp; done) | omega | (simp; omega)) _ | refine below_drewN ?_ _ | refine Below.drew ?_ | refine Below.on (by assumption) ?_ | refine Below.via (by assumption) (by first | exact Nat.le_refl _ | (simp; done) | omega | (simp; omega)) ?_))⟩
theorem bytes_good {p : E} (h : inG p = true) (w : World) :
    Calls Tryd.prog 93 #[.agg #[.int .u64 (px p), .int .u64 (py p), .bool (pf p)]] w (Ret w (.tuple #[vs (bytesE p), .int .i64 0])) := by
  rcases p with _ | ⟨x, y⟩
  · exact bytes_none w
  · exact bytes_some x y h w

set_option maxRecDepth 100000 in
set_option maxHeartbeats 2000000 in
theorem rbytes_none (w : World) :
    Calls Tryd.prog 86 #[.agg #[.int .u64 0, .int .u64 0, .bool true]] w (Ret w (.tuple #[vs (bytesE none), .int .i64 0])) := by
  have n1 := rin_good none rfl
  rw [inG_none] at n1
  change ∀ w, Calls _ _ #[.agg #[.int .u64 0, .int .u64 0, .bool true]] w _ at n1
  go_enter Tryd.func86, Tryd.ntmps86
  go_wp2_with fail
  refine (n1 _).mono ?_
  rintro e w1 ⟨rfl, hB⟩
  (have HBn : Below w.heap.size w w1 := Below.on hB (by repeat (first | assumption | exact Below.refl _ _ | refine Below.setCell ?_ (by first | exact Nat.le_refl _ | (simp; done) | omega | (simp; omega)) _ | refine Below.alloc ?_ (by first | exact Nat.le_refl _ | (simp; done) | omega | (simp; omega)) _ | refine below_drewN ?_ _ | refine Below.drew ?_ | refine Below.on (by assumption) ?_ | refine Below.via (by assumption) (by first | exact Nat.le_refl _ | (simp; done) | omega | (simp; omega)) ?_)); have N0 := Lib.hid (Blk.below (g := w.heap.size) (by repeat (first | with_reducible exact Blk.new0 _ _ _ | with_reducible exact Blk.new1 _ _ _ _ | with_reducible exact Blk.new2 _ _ _ _ _ | with_reducible exact Blk.new3 _ _ _ _ _ _ | with_reducible exact Blk.new4 _ _ _ _ _ _ _ | with_reducible apply Blk.set_ | with_reducible apply Blk.alloc | with_reducible apply Blk.drewN | with_reducible apply Blk.drew | (with_reducible apply Blk.over; first | (intro h; omega) | (simp; done) | (simp; omega)))) hB); (try simp only [List.setIfInBounds_toArray, List.set_cons_succ, List.set_cons_zero] at N0); (try clear HB); clear hB; have HB := HBn; clear HBn; have HZw1 := HB.size; have K0 := N0; clear N0; have k0 := Blk.cell K0.out; have f0 := Blk.free K0.out; have l0 := Blk.lt K0.out; have m0 := Nat.le_of_lt l0)
  go_wp2_with fail
  go_ret2
  exact ⟨rfl, (by repeat (first | assumption | exact Below.refl _ _ | refine Below.setCell ?_ (by first | exact Nat.le_refl _ | (simp; done) | omega | (simp; omega)) _ | refine Below.alloc ?_ (by first | exact Nat.le_refl _ | (simp; done) | omega | (simp; omega)) _ | refine below_drewN ?_ _ | refine Below.drew ?_ | refine Below.on (by assumption) ?_ | refine Below.via (by assumption) (by first | exact Nat.le_refl _ | (simp; done) | omega | (simp; omega)) ?_))⟩
set_option maxRecDepth 100000 in
set_option maxHeartbeats 2000000 in
theorem rbytes_some (x y : F) (h : inG (some (x, y)) = true) (w : World) :
    Calls Tryd.prog 86 #[.agg #[.int .u64 (vz x), .int .u64 (vz y), .bool false]] w (Ret w (.tuple #[vs (bytesE (some (x, y))), .int .i64 0])) := by
  have n1 := rin_good (some (x, y)) (inG_on h)
  rw [h] at n1
  change ∀ w, Calls _ _ #[.agg #[.int .u64 (vz x), .int .u64 (vz y), .bool false]] w _ at n1
  have b1 := vz_nonneg x
  have b2 := vz_lt x
  have b3 := vz_nonneg y
  have b4 := vz_lt y
  clear h
  go_enter Tryd.func86, Tryd.ntmps86
  go_wp2_with fail
  refine (n1 _).mono ?_
  rintro e w1 ⟨rfl, hB⟩
  (have HBn : Below w.heap.size w w1 := Below.on hB (by repeat (first | assumption | exact Below.refl _ _ | refine Below.setCell ?_ (by first | exact Nat.le_refl _ | (simp; done) | omega | (simp; omega)) _ | refine Below.alloc ?_ (by first | exact Nat.le_refl _ | (simp; done) | omega | (simp; omega)) _ | refine below_drewN ?_ _ | refine Below.drew ?_ | refine Below.on (by assumption) ?_ | refine Below.via (by assumption) (by first | exact Nat.le_refl _ | (simp; done) | omega | (simp; omega)) ?_)); have N0 := Lib.hid (Blk.below (g := w.heap.size) (by repeat (first | with_reducible exact Blk.new0 _ _ _ | with_reducible exact Blk.new1 _ _ _ _ | with_reducible exact Blk.new2 _ _ _ _ _ | with_reducible exact Blk.new3 _ _ _ _ _ _ | with_reducible exact Blk.new4 _ _ _ _ _ _ _ | with_reducible apply Blk.set_ | with_reducible apply Blk.alloc | with_reducible apply Blk.drewN | with_reducible apply Blk.drew | (with_reducible apply Blk.over; first | (intro h; omega) | (simp; done) | (simp; omega)))) hB); (try simp only [List.setIfInBounds_toArray, List.set_cons_succ, List.set_cons_zero] at N0); (try clear HB); clear hB; have HB := HBn; clear HBn; have HZw1 := HB.size; have K0 := N0; clear N0; have k0 := Blk.cell K0.out; have f0 := Blk.free K0.out; have l0 := Blk.lt K0.out; have m0 := Nat.le_of_lt l0)
  go_wp2_with fail
  go_ret2
  refine ⟨?_, (by repeat (first | assumption | exact Below.refl _ _ | refine Below.setCell ?_ (by first | exact Nat.le_refl _ | (simp; done) | omega | (simp; omega)) _ | refine Below.alloc ?_ (by first | exact Nat.le_refl _ | (simp; done) | omega | (simp; omega)) _ | refine below_drewN ?_ _ | refine Below.drew ?_ | refine Below.on (by assumption) ?_ | refine Below.via (by assumption) (by first | exact Nat.le_refl _ | (simp; done) | omega | (simp; omega)) ?_))⟩
  simp only [byte_sum, byte_top, byte_low]
  rw [show vz x / 65536 = vz x / ((65536 : Nat) : Int) from rfl, show vz x / 256 = vz x / ((256 : Nat) : Int) from rfl, byte_at, byte_at]
  rfl
theorem rbytes_good {p : E} (h : inG p = true) (w : World) :
    Calls Tryd.prog 86 #[.agg #[.int .u64 (px p), .int .u64 (py p), .bool (pf p)]] w (Ret w (.tuple #[vs (bytesE p), .int .i64 0])) := by
  rcases p with _ | ⟨x, y⟩
  · exact rbytes_none w
  · exact rbytes_some x y h w
end Go.Proofs.YtpmmjomejackkaaDoor
end
