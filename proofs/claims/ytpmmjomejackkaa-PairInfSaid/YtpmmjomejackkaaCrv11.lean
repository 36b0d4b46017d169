/- The curve's told functions, and the reference's: which points there are, sums, negatives, multiples, the group. Any points. -/
import Derived.Test.YtpmmjomejackkaaCrv10
set_option linter.unusedSimpArgs false
set_option linter.unusedVariables false
namespace Go.Proofs.Ytpmmjomejackkaa
open BigFrame Go.RowKit Go.Phx Go.Shelf
attribute [local go_sem] Oper.semAt_some

set_option maxRecDepth 100000 in
set_option maxHeartbeats 2000000 in
theorem ron_calls (x y : Int) (i : Bool) (hx : 0 ≤ x) (hy : 0 ≤ y) (w : World) : Calls Try.prog 47 #[.agg #[.int .u64 x, .int .u64 y, .bool i]] w (Ret w (.bool (isOn x y i))) := by
  cases i
  · by_cases h1 : x < 2147482867
    · by_cases h2 : y < 2147482867
      · have d1 : decide (x < 2147482867) = true := decide_eq_true h1
        have d2 : decide (y < 2147482867) = true := decide_eq_true h2
        have hv : isOn x y false = (vz (zf y * zf y) == vz (zf x * zf x * zf x + zf x)) := by
          unfold isOn
          simp only [Bool.false_eq_true, if_false, h1, h2, true_and]
          by_cases h3 : zf y * zf y = zf x * zf x * zf x + zf x
          · rw [h3]; simp
          · have h4 : vz (zf y * zf y) ≠ vz (zf x * zf x * zf x + zf x) := fun h => h3 (vz_inj h)
            simp [h3, h4]
        rw [hv]
        clear h1 h2 hv
        go_enter Try.func47, Try.ntmps47
        go_wp2_with fail
        (refine wp_region_later (by kernel_rfl) (by kernel_rfl) ?_; (repeat (go_big_quiet_step ((first
          | (go_at_call 29; exact lw (rmul_calls _ _ hy hy _))
          | (go_at_call 71; exact lw (rside_calls _ hx _)))))); refine wpQuiet_nil ?_; intro w' hB)
        go_wp2_with fail
        go_ret
        exact ⟨rfl, (by repeat (first | assumption | exact Below.refl _ _ | refine Below.setCell ?_ (by first | exact Nat.le_refl _ | (simp; done) | omega | (simp; omega)) _ | refine Below.alloc ?_ (by first | exact Nat.le_refl _ | (simp; done) | omega | (simp; omega)) _ | refine below_drewN ?_ _ | refine Below.drew ?_ | refine Below.on (by assumption) ?_ | refine Below.via (by assumption) (by first | exact Nat.le_refl _ | (simp; done) | omega | (simp; omega)) ?_))⟩
      · have d1 : decide (x < 2147482867) = true := decide_eq_true h1
        have d2 : decide (y < 2147482867) = false := decide_eq_false h2
        have hv : isOn x y false = false := by unfold isOn; simp [h2]
        rw [hv]
        clear h1 h2 hv
        go_enter Try.func47, Try.ntmps47
        go_wp2_with fail
        (refine wp_region_later (by kernel_rfl) (by kernel_rfl) ?_; (repeat (go_big_quiet_step (fail))); refine wpQuiet_nil ?_; intro w' hB)
        go_wp2_with fail
        go_ret
        exact ⟨rfl, (by repeat (first | assumption | exact Below.refl _ _ | refine Below.setCell ?_ (by first | exact Nat.le_refl _ | (simp; done) | omega | (simp; omega)) _ | refine Below.alloc ?_ (by first | exact Nat.le_refl _ | (simp; done) | omega | (simp; omega)) _ | refine below_drewN ?_ _ | refine Below.drew ?_ | refine Below.on (by assumption) ?_ | refine Below.via (by assumption) (by first | exact Nat.le_refl _ | (simp; done) | omega | (simp; omega)) ?_))⟩
    · have d1 : decide (x < 2147482867) = false := decide_eq_false h1
      have hv : isOn x y false = false := by unfold isOn; simp [h1]
      rw [hv]
      clear h1 hv
      go_enter Try.func47, Try.ntmps47
      go_wp2_with fail
      (refine wp_region_later (by kernel_rfl) (by kernel_rfl) ?_; (repeat (go_big_quiet_step (fail))); refine wpQuiet_nil ?_; intro w' hB)
      go_wp2_with fail
      go_ret
      exact ⟨rfl, (by repeat (first | assumption | exact Below.refl _ _ | refine Below.setCell ?_ (by first | exact Nat.le_refl _ | (simp; done) | omega | (simp; omega)) _ | refine Below.alloc ?_ (by first | exact Nat.le_refl _ | (simp; done) | omega | (simp; omega)) _ | refine below_drewN ?_ _ | refine Below.drew ?_ | refine Below.on (by assumption) ?_ | refine Below.via (by assumption) (by first | exact Nat.le_refl _ | (simp; done) | omega | (simp; omega)) ?_))⟩
  · by_cases h1 : x = 0
    · by_cases h2 : y = 0
      · subst h1 h2
        rw [show isOn 0 0 true = true from by unfold isOn; simp]
        go_enter Try.func47, Try.ntmps47
        go_wp2_with fail
        go_ret
        exact ⟨rfl, (by repeat (first | assumption | exact Below.refl _ _ | refine Below.setCell ?_ (by first | exact Nat.le_refl _ | (simp; done) | omega | (simp; omega)) _ | refine Below.alloc ?_ (by first | exact Nat.le_refl _ | (simp; done) | omega | (simp; omega)) _ | refine below_drewN ?_ _ | refine Below.drew ?_ | refine Below.on (by assumption) ?_ | refine Below.via (by assumption) (by first | exact Nat.le_refl _ | (simp; done) | omega | (simp; omega)) ?_))⟩
      · subst h1
        rw [show isOn 0 y true = false from by unfold isOn; simp [h2]]
        have e : (y == 0) = false := by simp [h2]
        clear h2
        go_enter Try.func47, Try.ntmps47
        go_wp2_with fail
        go_ret
        exact ⟨rfl, (by repeat (first | assumption | exact Below.refl _ _ | refine Below.setCell ?_ (by first | exact Nat.le_refl _ | (simp; done) | omega | (simp; omega)) _ | refine Below.alloc ?_ (by first | exact Nat.le_refl _ | (simp; done) | omega | (simp; omega)) _ | refine below_drewN ?_ _ | refine Below.drew ?_ | refine Below.on (by assumption) ?_ | refine Below.via (by assumption) (by first | exact Nat.le_refl _ | (simp; done) | omega | (simp; omega)) ?_))⟩
    · rw [show isOn x y true = false from by unfold isOn; simp [h1]]
      have e : (x == 0) = false := by simp [h1]
      clear h1
      go_enter Try.func47, Try.ntmps47
      go_wp2_with fail
      go_ret
      exact ⟨rfl, (by repeat (first | assumption | exact Below.refl _ _ | refine Below.setCell ?_ (by first | exact Nat.le_refl _ | (simp; done) | omega | (simp; omega)) _ | refine Below.alloc ?_ (by first | exact Nat.le_refl _ | (simp; done) | omega | (simp; omega)) _ | refine below_drewN ?_ _ | refine Below.drew ?_ | refine Below.on (by assumption) ?_ | refine Below.via (by assumption) (by first | exact Nat.le_refl _ | (simp; done) | omega | (simp; omega)) ?_))⟩

/-- what is told of a point, or that there is none -/
def rx : Option E → Int | none => 0 | some p => px p
def ry : Option E → Int | none => 0 | some p => py p
def ri : Option E → Bool | none => false | some p => pf p
def re : Option E → Int | none => 100 | some _ => 0
/-- the point that these say, if they say one -/
noncomputable def said (x y : Int) (i : Bool) : Option E := if isOn x y i then some (ptOf x y i) else none
theorem said_none {x y : Int} {i : Bool} (h : isOn x y i = false) : said x y i = none := by unfold said; rw [h]; rfl
theorem said_some {x y : Int} {i : Bool} (hx : 0 ≤ x) (hy : 0 ≤ y) (h : isOn x y i = true) : ∃ p, onE p = true ∧ said x y i = some p ∧ x = px p ∧ y = py p ∧ i = pf p := by
  obtain ⟨h1, h2⟩ := isOn_pt hx hy h
  refine ⟨ptOf x y i, h2, by unfold said; rw [h]; rfl, ?_⟩
  rw [vp_parts] at h1
  injection h1 with h1
  injection h1 with h1
  injection h1 with e1 h1
  injection h1 with e2 h1
  injection h1 with e3 h1
  injection e1 with _ e1
  injection e2 with _ e2
  injection e3 with e3
  exact ⟨e1, e2, e3⟩
theorem isOn_parts {p : E} (h : onE p = true) : isOn (px p) (py p) (pf p) = true := by
  rcases p with _ | ⟨x, y⟩
  · show isOn 0 0 true = true
    unfold isOn; simp
  · show isOn (vz x) (vz y) false = true
    rw [isOn_vp]; exact h
theorem said_parts {p : E} (h : onE p = true) : said (px p) (py p) (pf p) = some p := by
  obtain ⟨q, hq, h1, h2, h3, h4⟩ := said_some (px_nonneg p) (py_nonneg p) (isOn_parts h)
  rw [h1]
  rcases p with _ | ⟨x, y⟩ <;> rcases q with _ | ⟨x', y'⟩
  · rfl
  · exact absurd h4 (by simp [pf])
  · exact absurd h4 (by simp [pf])
  · have e1 : x = x' := vz_inj h2
    have e2 : y = y' := vz_inj h3
    rw [e1, e2]

/-- two points in cells, and a third one, 0 -/
def Trio (n : Nat) (x1 y1 : Int) (i1 : Bool) (x2 y2 : Int) (i2 : Bool) (W : World) : Prop :=
  (W.cell? ⟨n, 0, none⟩ = some (.int .u64 x1) ∧ W.cell? ⟨n, 1, none⟩ = some (.int .u64 y1) ∧ W.cell? ⟨n, 2, none⟩ = some (.bool i1)) ∧
  (W.cell? ⟨n + 1, 0, none⟩ = some (.int .u64 x2) ∧ W.cell? ⟨n + 1, 1, none⟩ = some (.int .u64 y2) ∧ W.cell? ⟨n + 1, 2, none⟩ = some (.bool i2)) ∧
  (W.cell? ⟨n + 1 + 1, 0, none⟩ = some (.int .u64 0) ∧ W.cell? ⟨n + 1 + 1, 1, none⟩ = some (.int .u64 0) ∧ W.cell? ⟨n + 1 + 1, 2, none⟩ = some (.bool false)) ∧
  (W.frozen? ⟨n + 1 + 1, 0, none⟩ = false ∧ W.frozen? ⟨n + 1 + 1, 1, none⟩ = false ∧ W.frozen? ⟨n + 1 + 1, 2, none⟩ = false) ∧
  n + 1 + 1 < W.heap.size
theorem Trio.on {n : Nat} {x1 y1 x2 y2 : Int} {i1 i2 : Bool} {W W2 : World} (h : Trio n x1 y1 i1 x2 y2 i2 W) (hB : Below W.heap.size W W2) : Trio n x1 y1 i1 x2 y2 i2 W2 := by
  obtain ⟨⟨c0, c1, c2⟩, ⟨d0, d1, d2⟩, ⟨r0, r1, r2⟩, ⟨f0, f1, f2⟩, hz⟩ := h
  obtain ⟨hc, hf⟩ := bcell hB
  have hz2 := hB.size
  refine ⟨⟨?_, ?_, ?_⟩, ⟨?_, ?_, ?_⟩, ⟨?_, ?_, ?_⟩, ⟨?_, ?_, ?_⟩, ?_⟩
  all_goals first | (rw [hc _ _ (by omega)]; assumption) | (rw [hf _ _ (by omega)]; assumption) | omega
/-- a point in a cell, and a second one, 0 -/
def Duo (n : Nat) (x1 y1 : Int) (i1 : Bool) (W : World) : Prop :=
  (W.cell? ⟨n, 0, none⟩ = some (.int .u64 x1) ∧ W.cell? ⟨n, 1, none⟩ = some (.int .u64 y1) ∧ W.cell? ⟨n, 2, none⟩ = some (.bool i1)) ∧
  (W.cell? ⟨n + 1, 0, none⟩ = some (.int .u64 0) ∧ W.cell? ⟨n + 1, 1, none⟩ = some (.int .u64 0) ∧ W.cell? ⟨n + 1, 2, none⟩ = some (.bool false)) ∧
  (W.frozen? ⟨n + 1, 0, none⟩ = false ∧ W.frozen? ⟨n + 1, 1, none⟩ = false ∧ W.frozen? ⟨n + 1, 2, none⟩ = false) ∧
  n + 1 < W.heap.size
theorem Duo.on {n : Nat} {x1 y1 : Int} {i1 : Bool} {W W2 : World} (h : Duo n x1 y1 i1 W) (hB : Below W.heap.size W W2) : Duo n x1 y1 i1 W2 := by
  obtain ⟨⟨c0, c1, c2⟩, ⟨r0, r1, r2⟩, ⟨f0, f1, f2⟩, hz⟩ := h
  obtain ⟨hc, hf⟩ := bcell hB
  have hz2 := hB.size
  refine ⟨⟨?_, ?_, ?_⟩, ⟨?_, ?_, ?_⟩, ⟨?_, ?_, ?_⟩, ?_⟩
  all_goals first | (rw [hc _ _ (by omega)]; assumption) | (rw [hf _ _ (by omega)]; assumption) | omega
theorem Duo.start {x1 y1 : Int} {i1 : Bool} {t : TypeId} {w : World} :
    Duo w.heap.size x1 y1 i1 ((w.alloc (.cells #[.int .u64 x1, .int .u64 y1, .bool i1] t)).alloc (.cells #[.int .u64 0, .int .u64 0, .bool false] t)) := by
  refine ⟨⟨?_, ?_, ?_⟩, ⟨?_, ?_, ?_⟩, ⟨?_, ?_, ?_⟩, ?_⟩
  all_goals simp [go_sem]
end Go.Proofs.Ytpmmjomejackkaa
