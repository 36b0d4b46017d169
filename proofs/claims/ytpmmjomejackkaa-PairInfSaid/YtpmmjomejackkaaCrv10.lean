/- Multiples of points, by the curve's package: any number, any point. -/
import Derived.Test.YtpmmjomejackkaaCrv9
set_option linter.unusedSimpArgs false
set_option linter.unusedVariables false
namespace Go.Proofs.Ytpmmjomejackkaa
open Go.RowKit Go.Phx Go.Shelf
attribute [local go_sem] Oper.semAt_some

theorem keeps_put (W : World) (b : Nat) (o : E) : KeepsOthers W (put3 W b o) := ((KeepsOthers.setCell _ _ _).trans (KeepsOthers.setCell _ _ _)).trans (KeepsOthers.setCell _ _ _)
theorem keepb_put {B b : Nat} (h : B ≠ b) (W : World) (o : E) : KeepB B W (put3 W b o) := ((KeepB.setCell (a := ⟨b, 0, none⟩) h _).trans (KeepB.setCell (a := ⟨b, 1, none⟩) h _)).trans (KeepB.setCell (a := ⟨b, 2, none⟩) h _)
theorem size_put (W : World) (b : Nat) (o : E) : (put3 W b o).heap.size = W.heap.size := by simp [put3]
theorem size_own (k : Nat) : Own (fun (_ : List Bool) W => k < W.heap.size) := fun _ _ _ _ h hg _ => Nat.lt_of_lt_of_le h hg.size

set_option maxRecDepth 100000 in
set_option maxHeartbeats 8000000 in
theorem times_calls (p : E) (x : Int) (hx : 0 ≤ x) (hx2 : x ≤ 18446744073709551615) (w : World) :
    Calls Try.prog 63 #[.int .u64 x, .agg #[.int .u64 (px p), .int .u64 (py p), .bool (pf p)]] w (Ret w (vp (timesE x p))) := by
  have TT := timesE_top x hx p
  obtain ⟨O, hO⟩ : ∃ O, timesE x p = O := ⟨_, rfl⟩
  rw [hO] at TT ⊢
  clear hO
  rw [vp_parts]
  replace TT := Lib.hid TT
  refine (callsIn_wide (n := 9)).1 ?_
  have hwf : ∀ f, Fence.wide.fn f := fun _ => trivial
  refine callsIn_of_wp_marks Try.func63 rfl trivial ?_ rfl
  simp only [Try.ntmps63, List.size_toArray, List.length_cons, List.length_nil, Nat.reduceAdd, Nat.reduceSub, Array.replicate_succ, Array.replicate_zero, List.push_toArray, List.append_toArray, List.nil_append, List.cons_append]
  gi_wp2
  refine wpIn_scope ?_
  gi_wp2_with fail
  refine (callsIn_wide.2 (none_x _)).mono ?_
  rintro e w1 ⟨rfl, hB1⟩
  gi_wp2_with fail
  obtain ⟨hT0, hB0⟩ := TimesAt.start hB1
  clear hB1
  refine wpIn_label ?_
  gi_wp2_with (gi_at_call 80; refine (cdigits_in Fence.wide _ trivial rfl _ _).mono ?_; rintro e w' ⟨rfl, rfl⟩)
  have hw1 : w.heap.size + 1 + 1 ≤ w1.heap.size := by have := hT0.1; omega
  obtain ⟨W0, hW0⟩ : ∃ W0, (w1.alloc (.cells #[.int .u64 0, .int .u64 0, .bool true] 40)).alloc (.cells #[.int .u64 x] 22) = W0 := ⟨_, rfl⟩
  have hs0 : W0.heap.size = w1.heap.size + 2 := by rw [← hW0]; simp
  have hB2 : Below w.heap.size w W0 := by rw [← hW0]; exact hB0.alloc (by simp; omega) _
  have cx : W0.cell? ⟨w1.heap.size + 1, 0, none⟩ = some (.int .u64 x) := by rw [← hW0]; simp [go_sem]
  have hT1 : TimesAt w.heap.size w1.heap.size p none W0 := by rw [← hW0]; exact hT0.on ((Below.refl _ _).alloc (Nat.le_refl _) _)
  clear hT0 hB0
  rw [hW0]
  have hf := enters_of Try.func87 (by kernel_rfl) rfl
  clear hW0
  refine wpIn_rangeFunc_ownF rfl (by decide) (gf := 87) (lb := #[.pointer (some ⟨w1.heap.size + 1, 0, none⟩)]) rfl trivial hf
    (cdigits_stops Fence.wide _ trivial rfl (by decide) (w1.heap.size + 1) x hx hx2 W0 (by omega) cx) keepB_t (keepB_b (by omega)) (Below.refl _ _) (fun _ => rfl)
    (fun pre W => (TimesAt w.heap.size w1.heap.size p (timesBits p pre) W ∧ w1.heap.size + 1 < W.heap.size) ∧ Below w.heap.size w W)
    (fun _ _ _ => False)
    (OwnFrom.and (OwnFrom.and (Own.from (TimesAt.own _ _ _) _) (Own.from (size_own _) _)) (ownFrom_below (Nat.le_refl _) (by omega)))
    (fun _ _ _ _ _ hs _ _ => hs)
    ⟨⟨hT1, by omega⟩, hB2⟩
    (fun y => { tmps := #[.int .u64 x, .agg #[.int .u64 (px p), .int .u64 (py p), .bool (pf p)], undef, .pointer (some ⟨w.heap.size, 0, none⟩), .pointer (some ⟨w.heap.size + 1, 0, none⟩), .pointer (some ⟨w1.heap.size, 0, none⟩), .bool y, .agg #[.int .u64 0, .int .u64 0, .bool true], .int .u64 x, .func (.func 87) #[] #[.pointer (some ⟨w1.heap.size + 1, 0, none⟩)], .bool y, undef, undef, undef, undef, undef, undef, undef, undef, undef], defers := [] }) ?assign ?body ?done ?stop
  case assign =>
    intro l x W K hK
    gi_wp2
    exact hK
  case body =>
    rintro l pre y W ⟨⟨hT, hk⟩, hB⟩ _
    obtain ⟨o, ho⟩ : ∃ o, timesBits p pre = o := ⟨_, rfl⟩
    have HS := timesBits_snoc p pre y
    rw [ho] at hT HS
    clear ho
    have HT := Lib.hid hT
    obtain ⟨h0, h1, ⟨a0, a1, a2⟩, ⟨b0, b1, b2⟩, ⟨c0, c1, c2⟩, ⟨d0, d1, d2⟩, ⟨e0, e1, e2⟩⟩ := hT
    clear hT1 hB2 cx
    cases y
    · replace HS := Lib.hid (HS.trans (by rfl : _ = addE o o))
      gi_wp2_with fail
      refine (CallsIn.inRound l (callsIn_wide.2 (plus_u o o _))).mono ?_
      rintro e w2 ⟨rfl, hB2⟩
      have HT2 := Lib.hid (HT.out.on hB2)
      have hB4 : Below w.heap.size w w2 := by clear a0 a1 a2 b0 b1 b2 c0 c1 c2 d0 d1 d2 e0 e1 e2; exact (by repeat (first | assumption | exact Below.refl _ _ | refine Below.setCell ?_ (by first | exact Nat.le_refl _ | (simp; done) | omega | (simp; omega)) _ | refine Below.alloc ?_ (by first | exact Nat.le_refl _ | (simp; done) | omega | (simp; omega)) _ | refine below_drewN ?_ _ | refine Below.drew ?_ | refine Below.on (by assumption) ?_ | refine Below.via (by assumption) (by first | exact Nat.le_refl _ | (simp; done) | omega | (simp; omega)) ?_))
      clear h0 h1 a0 a1 a2 b0 b1 b2 c0 c1 c2 d0 d1 d2 e0 e1 e2
      obtain ⟨h0, h1, ⟨a0, a1, a2⟩, ⟨b0, b1, b2⟩, ⟨c0, c1, c2⟩, ⟨d0, d1, d2⟩, ⟨e0, e1, e2⟩⟩ := HT2.out
      gi_wp2_with fail
      clear a0 a1 a2 b0 b1 b2 c0 c1 c2 d0 d1 d2 e0 e1 e2
      exact ⟨(KeepsOthers.below hB2).trans (keeps_put w2 w1.heap.size (addE o o)), (KeepB.below hB2 hk).trans (keepb_put (by omega) w2 (addE o o)), ⟨by rw [HS.out]; exact HT2.out.put _, by have := hB2.size; have := size_put w2 w1.heap.size (addE o o); unfold put3 at this; omega⟩, (by repeat (first | assumption | exact Below.refl _ _ | refine Below.setCell ?_ (by first | exact Nat.le_refl _ | (simp; done) | omega | (simp; omega)) _ | refine Below.alloc ?_ (by first | exact Nat.le_refl _ | (simp; done) | omega | (simp; omega)) _ | refine below_drewN ?_ _ | refine Below.drew ?_ | refine Below.on (by assumption) ?_ | refine Below.via (by assumption) (by first | exact Nat.le_refl _ | (simp; done) | omega | (simp; omega)) ?_))⟩
    · replace HS := Lib.hid (HS.trans (by rfl : _ = addE (addE o o) p))
      gi_wp2_with fail
      refine (CallsIn.inRound l (callsIn_wide.2 (plus_u o o _))).mono ?_
      rintro e w2 ⟨rfl, hB2⟩
      have HT2 := Lib.hid (HT.out.on hB2)
      have hB4 : Below w.heap.size w w2 := by clear a0 a1 a2 b0 b1 b2 c0 c1 c2 d0 d1 d2 e0 e1 e2; exact (by repeat (first | assumption | exact Below.refl _ _ | refine Below.setCell ?_ (by first | exact Nat.le_refl _ | (simp; done) | omega | (simp; omega)) _ | refine Below.alloc ?_ (by first | exact Nat.le_refl _ | (simp; done) | omega | (simp; omega)) _ | refine below_drewN ?_ _ | refine Below.drew ?_ | refine Below.on (by assumption) ?_ | refine Below.via (by assumption) (by first | exact Nat.le_refl _ | (simp; done) | omega | (simp; omega)) ?_))
      clear h0 h1 a0 a1 a2 b0 b1 b2 c0 c1 c2 d0 d1 d2 e0 e1 e2
      obtain ⟨h0, h1, ⟨a0, a1, a2⟩, ⟨b0, b1, b2⟩, ⟨c0, c1, c2⟩, ⟨d0, d1, d2⟩, ⟨e0, e1, e2⟩⟩ := HT2.out
      have HT3 := Lib.hid (HT2.out.put (addE o o))
      gi_wp2_with fail
      refine (CallsIn.inRound l (callsIn_wide.2 (plus_u (addE o o) p _))).mono ?_
      rintro e w3 ⟨rfl, hB3⟩
      have HT4 := Lib.hid (HT3.out.on hB3)
      have hB5 : Below w.heap.size w w3 := by clear a0 a1 a2 b0 b1 b2 c0 c1 c2 d0 d1 d2 e0 e1 e2; exact (by repeat (first | assumption | exact Below.refl _ _ | refine Below.setCell ?_ (by first | exact Nat.le_refl _ | (simp; done) | omega | (simp; omega)) _ | refine Below.alloc ?_ (by first | exact Nat.le_refl _ | (simp; done) | omega | (simp; omega)) _ | refine below_drewN ?_ _ | refine Below.drew ?_ | refine Below.on (by assumption) ?_ | refine Below.via (by assumption) (by first | exact Nat.le_refl _ | (simp; done) | omega | (simp; omega)) ?_))
      clear h0 h1 a0 a1 a2 b0 b1 b2 c0 c1 c2 d0 d1 d2 e0 e1 e2
      obtain ⟨h0, h1, ⟨a0, a1, a2⟩, ⟨b0, b1, b2⟩, ⟨c0, c1, c2⟩, ⟨d0, d1, d2⟩, ⟨e0, e1, e2⟩⟩ := HT4.out
      gi_wp2_with fail
      clear a0 a1 a2 b0 b1 b2 c0 c1 c2 d0 d1 d2 e0 e1 e2
      have z2 := size_put w2 w1.heap.size (addE o o)
      have z3 : w1.heap.size + 1 < (put3 w2 w1.heap.size (addE o o)).heap.size := by have := hB2.size; omega
      exact ⟨(((KeepsOthers.below hB2).trans (keeps_put w2 w1.heap.size (addE o o))).trans (KeepsOthers.below hB3)).trans (keeps_put w3 w1.heap.size (addE (addE o o) p)),
        (((KeepB.below hB2 hk).trans (keepb_put (by omega) w2 (addE o o))).trans (KeepB.below hB3 z3)).trans (keepb_put (by omega) w3 (addE (addE o o) p)),
        ⟨by rw [HS.out]; exact HT4.out.put _, by have := hB3.size; have := size_put w3 w1.heap.size (addE (addE o o) p); unfold put3 at *; omega⟩, (by repeat (first | assumption | exact Below.refl _ _ | refine Below.setCell ?_ (by first | exact Nat.le_refl _ | (simp; done) | omega | (simp; omega)) _ | refine Below.alloc ?_ (by first | exact Nat.le_refl _ | (simp; done) | omega | (simp; omega)) _ | refine below_drewN ?_ _ | refine Below.drew ?_ | refine Below.on (by assumption) ?_ | refine Below.via (by assumption) (by first | exact Nat.le_refl _ | (simp; done) | omega | (simp; omega)) ?_))⟩
  case done =>
    rintro D ys W hD rfl ⟨⟨hT, hk⟩, hB⟩ hK
    rw [TT.out] at hT
    obtain ⟨h0, h1, ⟨a0, a1, a2⟩, ⟨b0, b1, b2⟩, ⟨c0, c1, c2⟩, ⟨d0, d1, d2⟩, ⟨e0, e1, e2⟩⟩ := hT
    gi_wp2
    have hK' := (keeps_put W (w.heap.size + 1) O).same D _ hK rfl
    have hB5 : Below w.heap.size w (put3 W (w.heap.size + 1) O) := by unfold put3; exact (by repeat (first | assumption | exact Below.refl _ _ | refine Below.setCell ?_ (by first | exact Nat.le_refl _ | (simp; done) | omega | (simp; omega)) _ | refine Below.alloc ?_ (by first | exact Nat.le_refl _ | (simp; done) | omega | (simp; omega)) _ | refine below_drewN ?_ _ | refine Below.drew ?_ | refine Below.on (by assumption) ?_ | refine Below.via (by assumption) (by first | exact Nat.le_refl _ | (simp; done) | omega | (simp; omega)) ?_))
    have k0 : (put3 W (w.heap.size + 1) O).cell? ⟨w.heap.size + 1, 0, none⟩ = some (.int .u64 (px O)) := by unfold put3; simp (maxDischargeDepth := 9) [go_sem, *]
    have k1 : (put3 W (w.heap.size + 1) O).cell? ⟨w.heap.size + 1, 1, none⟩ = some (.int .u64 (py O)) := by unfold put3; simp (maxDischargeDepth := 9) [go_sem, *]
    have k2 : (put3 W (w.heap.size + 1) O).cell? ⟨w.heap.size + 1, 2, none⟩ = some (.bool (pf O)) := by unfold put3; simp (maxDischargeDepth := 9) [go_sem, *]
    rw [Exit.noGoto_ret]
    refine ⟨by simp, .inl ⟨_, _, rfl, run_takeDeferred hK', ?_⟩⟩
    have f0 := cell_kept k0 (grownBy_putObj' _ D (.deferred none)) (fun r e => by cases e; exact ⟨_, hK', rfl⟩)
    have f1 := cell_kept k1 (grownBy_putObj' _ D (.deferred none)) (fun r e => by cases e; exact ⟨_, hK', rfl⟩)
    have f2 := cell_kept k2 (grownBy_putObj' _ D (.deferred none)) (fun r e => by cases e; exact ⟨_, hK', rfl⟩)
    unfold put3 at *
    exact ⟨.agg #[.int .u64 (px O), .int .u64 (py O), .bool (pf O)], by simp [results, Try.results63, go_sem, f0, f1, f2], rfl, below_shut hB5 (Nat.le_refl _) (by omega)⟩
  case stop =>
    rintro D c pre W _ _ h _
    exact h.elim
end Go.Proofs.Ytpmmjomejackkaa
