/- Multiples of points, by the curve's package and by the reference: any number, any point. -/
import Derived.Test.YtpmmjomejackkaaCrv5
import Derived.Test.YtpmmjomejackkaaCrv7
import Derived.Test.YtpmmjomejackkaaCrv8
set_option linter.unusedSimpArgs false
set_option linter.unusedVariables false
namespace Go.Proofs.Ytpmmjomejackkaa
open Go.RowKit Go.Phx Go.Shelf
attribute [local go_sem] Oper.semAt_some

/-- a point's parts -/
def px : E → Int | none => 0 | some (x, _) => vz x
def py : E → Int | none => 0 | some (_, y) => vz y
def pf : E → Bool | none => true | some _ => false
theorem vp_parts (p : E) : vp p = .agg #[.int .u64 (px p), .int .u64 (py p), .bool (pf p)] := by
  rcases p with _ | ⟨x, y⟩ <;> rfl
theorem px_nonneg (p : E) : 0 ≤ px p := by
  rcases p with _ | ⟨x, y⟩
  · exact Int.le_refl _
  · exact vz_nonneg _
theorem py_nonneg (p : E) : 0 ≤ py p := by
  rcases p with _ | ⟨x, y⟩
  · exact Int.le_refl _
  · exact vz_nonneg _
theorem plus_u (p q : E) (w : World) : Calls Try.prog 65 #[.agg #[.int .u64 (px p), .int .u64 (py p), .bool (pf p)], .agg #[.int .u64 (px q), .int .u64 (py q), .bool (pf q)]] w (Ret w (.agg #[.int .u64 (px (addE p q)), .int .u64 (py (addE p q)), .bool (pf (addE p q))])) := by
  rw [← vp_parts, ← vp_parts, ← vp_parts]
  exact plus_calls p q w
theorem rplus_u (p q : E) (w : World) : Calls Try.prog 68 #[.agg #[.int .u64 (px p), .int .u64 (py p), .bool (pf p)], .agg #[.int .u64 (px q), .int .u64 (py q), .bool (pf q)]] w (Ret w (.agg #[.int .u64 (px (addE p q)), .int .u64 (py (addE p q)), .bool (pf (addE p q))])) := by
  rw [← vp_parts, ← vp_parts, ← vp_parts]
  exact rplus_calls p q w

/-- what stands in the cells of a multiple under way: the point, the result's own cell, the sum -/
def TimesAt (n b : Nat) (p o : E) (W : World) : Prop :=
  n + 1 < b ∧ b < W.heap.size ∧
  (W.cell? ⟨n, 0, none⟩ = some (.int .u64 (px p)) ∧ W.cell? ⟨n, 1, none⟩ = some (.int .u64 (py p)) ∧ W.cell? ⟨n, 2, none⟩ = some (.bool (pf p))) ∧
  (W.cell? ⟨n + 1, 0, none⟩ = some (.int .u64 0) ∧ W.cell? ⟨n + 1, 1, none⟩ = some (.int .u64 0) ∧ W.cell? ⟨n + 1, 2, none⟩ = some (.bool false)) ∧
  (W.frozen? ⟨n + 1, 0, none⟩ = false ∧ W.frozen? ⟨n + 1, 1, none⟩ = false ∧ W.frozen? ⟨n + 1, 2, none⟩ = false) ∧
  (W.cell? ⟨b, 0, none⟩ = some (.int .u64 (px o)) ∧ W.cell? ⟨b, 1, none⟩ = some (.int .u64 (py o)) ∧ W.cell? ⟨b, 2, none⟩ = some (.bool (pf o))) ∧
  (W.frozen? ⟨b, 0, none⟩ = false ∧ W.frozen? ⟨b, 1, none⟩ = false ∧ W.frozen? ⟨b, 2, none⟩ = false)
theorem TimesAt.on {n b : Nat} {p o : E} {W W2 : World} (h : TimesAt n b p o W) (hB : Below W.heap.size W W2) : TimesAt n b p o W2 := by
  obtain ⟨h0, h1, ⟨a0, a1, a2⟩, ⟨b0, b1, b2⟩, ⟨c0, c1, c2⟩, ⟨d0, d1, d2⟩, ⟨e0, e1, e2⟩⟩ := h
  obtain ⟨hc, hf⟩ := bcell hB
  have hz2 := hB.size
  refine ⟨h0, ?_, ⟨?_, ?_, ?_⟩, ⟨?_, ?_, ?_⟩, ⟨?_, ?_, ?_⟩, ⟨?_, ?_, ?_⟩, ⟨?_, ?_, ?_⟩⟩
  all_goals first | (rw [hc _ _ (by omega)]; assumption) | (rw [hf _ _ (by omega)]; assumption) | omega
/-- a sum is stored -/
def put3 (W : World) (b : Nat) (o : E) : World := ((W.setCell ⟨b, 0, none⟩ (.int .u64 (px o))).setCell ⟨b, 1, none⟩ (.int .u64 (py o))).setCell ⟨b, 2, none⟩ (.bool (pf o))
theorem TimesAt.put {n b : Nat} {p o : E} {W : World} (h : TimesAt n b p o W) (o' : E) : TimesAt n b p o' (put3 W b o') := by
  obtain ⟨h0, h1, ⟨a0, a1, a2⟩, ⟨b0, b1, b2⟩, ⟨c0, c1, c2⟩, ⟨d0, d1, d2⟩, ⟨e0, e1, e2⟩⟩ := h
  have n1 : n ≠ b := by omega
  have n2 : n + 1 ≠ b := by omega
  unfold put3
  refine ⟨h0, by simp; omega, ⟨?_, ?_, ?_⟩, ⟨?_, ?_, ?_⟩, ⟨?_, ?_, ?_⟩, ⟨?_, ?_, ?_⟩, ⟨?_, ?_, ?_⟩⟩
  all_goals (simp (maxDischargeDepth := 9) [go_sem, n1, n2, n1.symm, n2.symm, *])
theorem TimesAt.own (n b : Nat) (p : E) : Own (fun pre W => TimesAt n b p (timesBits p pre) W) := fun _ _ _ _ ⟨h0, h1, ⟨a0, a1, a2⟩, ⟨b0, b1, b2⟩, ⟨c0, c1, c2⟩, ⟨d0, d1, d2⟩, ⟨e0, e1, e2⟩⟩ hg hr =>
  ⟨h0, Nat.lt_of_lt_of_le h1 hg.size, ⟨cell_kept a0 hg hr, cell_kept a1 hg hr, cell_kept a2 hg hr⟩, ⟨cell_kept b0 hg hr, cell_kept b1 hg hr, cell_kept b2 hg hr⟩,
   ⟨(frozen_kept b0 hg hr).trans c0, (frozen_kept b1 hg hr).trans c1, (frozen_kept b2 hg hr).trans c2⟩, ⟨cell_kept d0 hg hr, cell_kept d1 hg hr, cell_kept d2 hg hr⟩,
   ⟨(frozen_kept d0 hg hr).trans e0, (frozen_kept d1 hg hr).trans e1, (frozen_kept d2 hg hr).trans e2⟩⟩

theorem TimesAt.start {t : TypeId} {p : E} {w w1 : World}
    (hB : Below ((w.alloc (.cells #[.int .u64 (px p), .int .u64 (py p), .bool (pf p)] t)).alloc (.cells #[.int .u64 0, .int .u64 0, .bool false] t)).heap.size
      ((w.alloc (.cells #[.int .u64 (px p), .int .u64 (py p), .bool (pf p)] t)).alloc (.cells #[.int .u64 0, .int .u64 0, .bool false] t)) w1) :
    TimesAt w.heap.size w1.heap.size p none (w1.alloc (.cells #[.int .u64 0, .int .u64 0, .bool true] t)) ∧ Below w.heap.size w (w1.alloc (.cells #[.int .u64 0, .int .u64 0, .bool true] t)) := by
  obtain ⟨hc, hf⟩ := bcell hB
  have hz := hB.size
  have hB0 : Below w.heap.size w w1 := (by repeat (first | assumption | exact Below.refl _ _ | refine Below.setCell ?_ (by first | exact Nat.le_refl _ | (simp; done) | omega | (simp; omega)) _ | refine Below.alloc ?_ (by first | exact Nat.le_refl _ | (simp; done) | omega | (simp; omega)) _ | refine below_drewN ?_ _ | refine Below.drew ?_ | refine Below.on (by assumption) ?_ | refine Below.via (by assumption) (by first | exact Nat.le_refl _ | (simp; done) | omega | (simp; omega)) ?_))
  simp at hz
  refine ⟨⟨by omega, by simp, ⟨?_, ?_, ?_⟩, ⟨?_, ?_, ?_⟩, ⟨?_, ?_, ?_⟩, ⟨?_, ?_, ?_⟩, ⟨?_, ?_, ?_⟩⟩, (by repeat (first | assumption | exact Below.refl _ _ | refine Below.setCell ?_ (by first | exact Nat.le_refl _ | (simp; done) | omega | (simp; omega)) _ | refine Below.alloc ?_ (by first | exact Nat.le_refl _ | (simp; done) | omega | (simp; omega)) _ | refine below_drewN ?_ _ | refine Below.drew ?_ | refine Below.on (by assumption) ?_ | refine Below.via (by assumption) (by first | exact Nat.le_refl _ | (simp; done) | omega | (simp; omega)) ?_))⟩
  all_goals first
    | (simp [go_sem, px, py, pf]; done)
    | (rw [show ∀ (b o : Nat) (_ : b < w1.heap.size), (w1.alloc (.cells #[.int .u64 0, .int .u64 0, .bool true] t)).cell? ⟨b, o, none⟩ = w1.cell? ⟨b, o, none⟩ from fun b o hb => by simp [go_sem, hb]] <;> first | omega | (rw [hc _ _ (by first | (simp; done) | (simp; omega))]; simp [go_sem]; done))
    | (rw [show ∀ (b o : Nat) (_ : b < w1.heap.size), (w1.alloc (.cells #[.int .u64 0, .int .u64 0, .bool true] t)).frozen? ⟨b, o, none⟩ = w1.frozen? ⟨b, o, none⟩ from fun b o hb => by simp [go_sem, hb]] <;> first | omega | (rw [hf _ _ (by first | (simp; done) | (simp; omega))]; simp [go_sem]; done))

set_option maxRecDepth 100000 in
set_option maxHeartbeats 8000000 in
theorem rmany_calls (p : E) (x : Int) (hx : 0 ≤ x) (hx2 : x ≤ 18446744073709551615) (w : World) :
    Calls Try.prog 64 #[.int .u64 x, .agg #[.int .u64 (px p), .int .u64 (py p), .bool (pf p)]] w (Ret w (vp (timesE x p))) := by
  have hbit := bit_and x hx hx2
  clear hx2
  obtain ⟨O, hO⟩ : ∃ O, timesBits p (bitsUp x 64) = O := ⟨_, rfl⟩
  rw [show timesE x p = timesBits p (bitsUp x 64) from rfl, hO, vp_parts]
  replace hO := Lib.hid hO
  go_enter Try.func64, Try.ntmps64
  go_wp2_with fail
  refine (rnone_x _).mono ?_
  rintro e w1 ⟨rfl, hB1⟩
  go_wp2_with fail
  obtain ⟨hT0, hB0⟩ := TimesAt.start hB1
  go_loopw [6] (fun i wr => ∃ k : Nat, k ≤ 64 ∧ i = .int .i64 (63 - k) ∧ TimesAt w.heap.size w1.heap.size p (timesBits p (bitsUp x k)) wr ∧ Below w.heap.size w wr)
    (fun i _ => (intOf i + 1).toNat)
  case atStart =>
    exact ⟨0, Nat.zero_le _, by simp, hT0, hB0⟩
  case round =>
    obtain ⟨k, hk, rfl, hT, hBr⟩ := hrel
    have hw1 : w.heap.size + 1 + 1 ≤ w1.heap.size := by have := hT.1; omega
    clear hT0 hB0 hB1
    by_cases hlt : k < 64
    · have HS : timesBits p (bitsUp x (k + 1)) = if bitAt x (63 - k) then addE (addE (timesBits p (bitsUp x k)) (timesBits p (bitsUp x k))) p else addE (timesBits p (bitsUp x k)) (timesBits p (bitsUp x k)) := by rw [bitsUp_succ, timesBits_snoc]
      obtain ⟨o, ho⟩ : ∃ o, o = timesBits p (bitsUp x k) := ⟨_, rfl⟩
      rw [← ho] at hT HS
      have HT := Lib.hid hT
      obtain ⟨h0, h1, ⟨a0, a1, a2⟩, ⟨b0, b1, b2⟩, ⟨c0, c1, c2⟩, ⟨d0, d1, d2⟩, ⟨e0, e1, e2⟩⟩ := hT
      clear ho
      cases hb : bitAt x (63 - k)
      · have HS := Lib.hid (HS.trans (by rw [hb]; rfl : _ = addE o o))
        go_wp2_with fail
        refine (rplus_u o o _).mono ?_
        rintro e w2 ⟨rfl, hB2⟩
        have HT2 := Lib.hid (HT.out.on hB2)
        have hB4 : Below w.heap.size w w2 := by clear a0 a1 a2 b0 b1 b2 c0 c1 c2 d0 d1 d2 e0 e1 e2; exact (by repeat (first | assumption | exact Below.refl _ _ | refine Below.setCell ?_ (by first | exact Nat.le_refl _ | (simp; done) | omega | (simp; omega)) _ | refine Below.alloc ?_ (by first | exact Nat.le_refl _ | (simp; done) | omega | (simp; omega)) _ | refine below_drewN ?_ _ | refine Below.drew ?_ | refine Below.on (by assumption) ?_ | refine Below.via (by assumption) (by first | exact Nat.le_refl _ | (simp; done) | omega | (simp; omega)) ?_))
        clear h0 h1 a0 a1 a2 b0 b1 b2 c0 c1 c2 d0 d1 d2 e0 e1 e2 HT hB2
        obtain ⟨h0, h1, ⟨a0, a1, a2⟩, ⟨b0, b1, b2⟩, ⟨c0, c1, c2⟩, ⟨d0, d1, d2⟩, ⟨e0, e1, e2⟩⟩ := HT2.out
        go_wp2_with fail
        go_roundw
        case rel =>
          exact ⟨k + 1, by omega, by congr 1; omega, by rw [HS.out]; exact HT2.out.put _, (by repeat (first | assumption | exact Below.refl _ _ | refine Below.setCell ?_ (by first | exact Nat.le_refl _ | (simp; done) | omega | (simp; omega)) _ | refine Below.alloc ?_ (by first | exact Nat.le_refl _ | (simp; done) | omega | (simp; omega)) _ | refine below_drewN ?_ _ | refine Below.drew ?_ | refine Below.on (by assumption) ?_ | refine Below.via (by assumption) (by first | exact Nat.le_refl _ | (simp; done) | omega | (simp; omega)) ?_))⟩
        case measure => simp [intOf]; omega
      · have HS := Lib.hid (HS.trans (by rw [hb]; rfl : _ = addE (addE o o) p))
        go_wp2_with fail
        refine (rplus_u o o _).mono ?_
        rintro e w2 ⟨rfl, hB2⟩
        have HT2 := Lib.hid (HT.out.on hB2)
        have hB4 : Below w.heap.size w w2 := by clear a0 a1 a2 b0 b1 b2 c0 c1 c2 d0 d1 d2 e0 e1 e2; exact (by repeat (first | assumption | exact Below.refl _ _ | refine Below.setCell ?_ (by first | exact Nat.le_refl _ | (simp; done) | omega | (simp; omega)) _ | refine Below.alloc ?_ (by first | exact Nat.le_refl _ | (simp; done) | omega | (simp; omega)) _ | refine below_drewN ?_ _ | refine Below.drew ?_ | refine Below.on (by assumption) ?_ | refine Below.via (by assumption) (by first | exact Nat.le_refl _ | (simp; done) | omega | (simp; omega)) ?_))
        clear h0 h1 a0 a1 a2 b0 b1 b2 c0 c1 c2 d0 d1 d2 e0 e1 e2 HT hB2
        obtain ⟨h0, h1, ⟨a0, a1, a2⟩, ⟨b0, b1, b2⟩, ⟨c0, c1, c2⟩, ⟨d0, d1, d2⟩, ⟨e0, e1, e2⟩⟩ := HT2.out
        have HT3 := Lib.hid (HT2.out.put (addE o o))
        go_wp2_with fail
        refine (rplus_u (addE o o) p _).mono ?_
        rintro e w3 ⟨rfl, hB3⟩
        have HT4 := Lib.hid (HT3.out.on hB3)
        have hB5 : Below w.heap.size w w3 := by clear a0 a1 a2 b0 b1 b2 c0 c1 c2 d0 d1 d2 e0 e1 e2; exact (by repeat (first | assumption | exact Below.refl _ _ | refine Below.setCell ?_ (by first | exact Nat.le_refl _ | (simp; done) | omega | (simp; omega)) _ | refine Below.alloc ?_ (by first | exact Nat.le_refl _ | (simp; done) | omega | (simp; omega)) _ | refine below_drewN ?_ _ | refine Below.drew ?_ | refine Below.on (by assumption) ?_ | refine Below.via (by assumption) (by first | exact Nat.le_refl _ | (simp; done) | omega | (simp; omega)) ?_))
        clear h0 h1 a0 a1 a2 b0 b1 b2 c0 c1 c2 d0 d1 d2 e0 e1 e2 HT2 HT3 hB3 hB4
        obtain ⟨h0, h1, ⟨a0, a1, a2⟩, ⟨b0, b1, b2⟩, ⟨c0, c1, c2⟩, ⟨d0, d1, d2⟩, ⟨e0, e1, e2⟩⟩ := HT4.out
        go_wp2_with fail
        go_roundw
        case rel =>
          exact ⟨k + 1, by omega, by congr 1; omega, by rw [HS.out]; exact HT4.out.put _, (by repeat (first | assumption | exact Below.refl _ _ | refine Below.setCell ?_ (by first | exact Nat.le_refl _ | (simp; done) | omega | (simp; omega)) _ | refine Below.alloc ?_ (by first | exact Nat.le_refl _ | (simp; done) | omega | (simp; omega)) _ | refine below_drewN ?_ _ | refine Below.drew ?_ | refine Below.on (by assumption) ?_ | refine Below.via (by assumption) (by first | exact Nat.le_refl _ | (simp; done) | omega | (simp; omega)) ?_))⟩
        case measure => simp [intOf]; omega
    · obtain rfl : k = 64 := by omega
      rw [hO.out] at hT
      obtain ⟨h0, h1, ⟨a0, a1, a2⟩, ⟨b0, b1, b2⟩, ⟨c0, c1, c2⟩, ⟨d0, d1, d2⟩, ⟨e0, e1, e2⟩⟩ := hT
      go_wp2
      exact bodyPost_ret (v := .agg #[.int .u64 (px O), .int .u64 (py O), .bool (pf O)]) (by simp (maxDischargeDepth := 9) [results, Try.results64, go_sem, vp, v2, *]) rfl ⟨rfl, (by repeat (first | assumption | exact Below.refl _ _ | refine Below.setCell ?_ (by first | exact Nat.le_refl _ | (simp; done) | omega | (simp; omega)) _ | refine Below.alloc ?_ (by first | exact Nat.le_refl _ | (simp; done) | omega | (simp; omega)) _ | refine below_drewN ?_ _ | refine Below.drew ?_ | refine Below.on (by assumption) ?_ | refine Below.via (by assumption) (by first | exact Nat.le_refl _ | (simp; done) | omega | (simp; omega)) ?_))⟩
end Go.Proofs.Ytpmmjomejackkaa
