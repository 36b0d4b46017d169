/- Powers in the extension: of the program (over its iterator of bits) and of the reference. Any numbers. -/
import Derived.Test.YtpmmjomejackkaaFld3
namespace Go.Proofs.Ytpmmjomejackkaa
open Go.RowKit Go.Phx Go.Shelf
attribute [local go_sem] Oper.semAt_some

theorem mul2_u (x y : F2) (w : World) : Calls Try.prog 33 #[.agg #[.int .u64 (vz x.1), .int .u64 (vz x.2)], .agg #[.int .u64 (vz y.1), .int .u64 (vz y.2)]] w (Ret w (.agg #[.int .u64 (vz (mul2 x y).1), .int .u64 (vz (mul2 x y).2)])) := mul2_v x y w
theorem rmul2_u (x y : F2) (w : World) : Calls Try.prog 35 #[.agg #[.int .u64 (vz x.1), .int .u64 (vz x.2)], .agg #[.int .u64 (vz y.1), .int .u64 (vz y.2)]] w (Ret w (.agg #[.int .u64 (vz (mul2 x y).1), .int .u64 (vz (mul2 x y).2)])) := rmul2_v x y w
theorem mul2_r (x : F2) (a b : Int) (ha : 0 ≤ a) (hb : 0 ≤ b) (w : World) : Calls Try.prog 33 #[.agg #[.int .u64 (vz x.1), .int .u64 (vz x.2)], .agg #[.int .u64 a, .int .u64 b]] w (Ret w (.agg #[.int .u64 (vz (mul2 x (zf a, zf b)).1), .int .u64 (vz (mul2 x (zf a, zf b)).2)])) := by
  have h := mul2_calls (vz x.1) (vz x.2) a b (vz_nonneg _) (vz_nonneg _) ha hb w
  simp only [zf_vz] at h
  exact h
theorem rmul2_r (x : F2) (a b : Int) (ha : 0 ≤ a) (hb : 0 ≤ b) (w : World) : Calls Try.prog 35 #[.agg #[.int .u64 (vz x.1), .int .u64 (vz x.2)], .agg #[.int .u64 a, .int .u64 b]] w (Ret w (.agg #[.int .u64 (vz (mul2 x (zf a, zf b)).1), .int .u64 (vz (mul2 x (zf a, zf b)).2)])) := by
  have h := rmul2_calls (vz x.1) (vz x.2) a b (vz_nonneg _) (vz_nonneg _) ha hb w
  simp only [zf_vz] at h
  exact h

/-- what stands in the cells of a power under way -/
def Pow2At (n : Nat) (a0 a1 : Int) (pre : List Bool) (s : Bool) (W : World) : Prop :=
  n + 1 + 1 + 1 + 1 < W.heap.size ∧
  (s = false → pow2Bits (zf a0, zf a1) pre = (1, 0)) ∧
  W.cell? ⟨n, 0, none⟩ = some (.int .u64 a0) ∧ W.cell? ⟨n, 1, none⟩ = some (.int .u64 a1) ∧
  W.cell? ⟨n + 1, 0, none⟩ = some (.int .u64 0) ∧ W.cell? ⟨n + 1, 1, none⟩ = some (.int .u64 0) ∧ W.frozen? ⟨n + 1, 0, none⟩ = false ∧ W.frozen? ⟨n + 1, 1, none⟩ = false ∧
  W.cell? ⟨n + 1 + 1, 0, none⟩ = some (.int .u64 (vz (pow2Bits (zf a0, zf a1) pre).1)) ∧ W.cell? ⟨n + 1 + 1, 1, none⟩ = some (.int .u64 (vz (pow2Bits (zf a0, zf a1) pre).2)) ∧ W.frozen? ⟨n + 1 + 1, 0, none⟩ = false ∧ W.frozen? ⟨n + 1 + 1, 1, none⟩ = false ∧
  W.cell? ⟨n + 1 + 1 + 1, 0, none⟩ = some (.bool s) ∧ W.frozen? ⟨n + 1 + 1 + 1, 0, none⟩ = false
def Pow2I (n : Nat) (a0 a1 : Int) (pre : List Bool) (W : World) : Prop := ∃ s, Pow2At n a0 a1 pre s W
theorem Pow2I.own (n : Nat) (a0 a1 : Int) : Own (Pow2I n a0 a1) := fun _ _ _ _ ⟨s, h0, h1, h2, h3, h4, h5, h6, h7, h8, h9, h10, h11, h12, h13⟩ hg hr =>
  ⟨s, Nat.lt_of_lt_of_le h0 hg.size, h1, cell_kept h2 hg hr, cell_kept h3 hg hr, cell_kept h4 hg hr, cell_kept h5 hg hr, (frozen_kept h4 hg hr).trans h6, (frozen_kept h5 hg hr).trans h7, cell_kept h8 hg hr, cell_kept h9 hg hr, (frozen_kept h8 hg hr).trans h10, (frozen_kept h9 hg hr).trans h11, cell_kept h12 hg hr, (frozen_kept h12 hg hr).trans h13⟩

set_option maxRecDepth 100000 in
set_option maxHeartbeats 4000000 in
theorem pow2_calls (a0 a1 x : Int) (ha : 0 ≤ a0) (hb : 0 ≤ a1) (hx : 0 ≤ x) (hx2 : x ≤ 18446744073709551615) (w : World) :
    Calls Try.prog 34 #[.agg #[.int .u64 a0, .int .u64 a1], .int .u64 x] w (Ret w (v2 (pow2 (zf a0, zf a1) x))) := by
  refine (callsIn_wide (n := 9)).1 ?_
  have hwf : ∀ f, Fence.wide.fn f := fun _ => trivial
  refine callsIn_of_wp_marks Try.func34 rfl trivial ?_ rfl
  simp only [Try.ntmps34, List.size_toArray, List.length_cons, List.length_nil, Nat.reduceAdd, Nat.reduceSub, Array.replicate_succ, Array.replicate_zero, List.push_toArray, List.append_toArray, List.nil_append, List.cons_append]
  gi_wp2
  refine wpIn_scope ?_
  gi_wp2
  refine wpIn_label ?_
  gi_wp2_with (gi_at_call 61; refine (fdigits_in Fence.wide _ trivial rfl _ _).mono ?_; rintro e w' ⟨rfl, rfl⟩)
  obtain ⟨W0, hW0⟩ : ∃ W0, ((((w.alloc (.cells #[.int .u64 a0, .int .u64 a1] 32)).alloc (.cells #[.int .u64 0, .int .u64 0] 32)).alloc (.cells #[.int .u64 1, .int .u64 0] 32)).alloc (.cells #[.bool false] 4)).alloc (.cells #[.int .u64 x] 22) = W0 := ⟨_, rfl⟩
  have hs0 : W0.heap.size = w.heap.size + 5 := by rw [← hW0]; simp
  have hB0 : Below w.heap.size w W0 := by rw [← hW0]; exact (by repeat (first | assumption | exact Below.refl _ _ | refine Below.setCell ?_ (by first | exact Nat.le_refl _ | (simp; done) | omega | (simp; omega)) _ | refine Below.alloc ?_ (by first | exact Nat.le_refl _ | (simp; done) | omega | (simp; omega)) _ | refine below_drewN ?_ _ | refine Below.drew ?_ | refine Below.on (by assumption) ?_ | refine Below.via (by assumption) (by first | exact Nat.le_refl _ | (simp; done) | omega | (simp; omega)) ?_))
  have cx : W0.cell? ⟨w.heap.size + 1 + 1 + 1 + 1, 0, none⟩ = some (.int .u64 x) := by rw [← hW0]; simp [go_sem]
  have hI0 : Pow2I w.heap.size a0 a1 [] W0 := ⟨false, by omega, fun _ => rfl, by
    rw [← hW0]
    refine ⟨?_, ?_, ?_, ?_, ?_, ?_, ?_, ?_, ?_, ?_, ?_, ?_⟩ <;> simp [go_sem] <;> rfl⟩
  rw [hW0]
  have hf := enters_of Try.func79 (by kernel_rfl) rfl
  clear hW0
  refine wpIn_rangeFunc_ownF rfl (by decide) (gf := 79) (lb := #[.pointer (some ⟨w.heap.size + 1 + 1 + 1 + 1, 0, none⟩)]) rfl trivial hf
    (fdigits_stops Fence.wide _ trivial rfl (by decide) (w.heap.size + 1 + 1 + 1 + 1) x hx hx2 W0 (by omega) cx) keepB_t (keepB_b (by omega)) (Below.refl _ _) (fun _ => rfl)
    (fun pre W => Pow2I w.heap.size a0 a1 pre W ∧ Below w.heap.size w W)
    (fun _ _ _ => False)
    (OwnFrom.and (Own.from (Pow2I.own _ _ _) _) (ownFrom_below (Nat.le_refl _) (by omega)))
    (fun _ _ _ _ _ hs _ _ => hs)
    ⟨hI0, hB0⟩
    (fun y => { tmps := #[.agg #[.int .u64 a0, .int .u64 a1], .int .u64 x, .pointer (some ⟨w.heap.size, 0, none⟩), undef, .pointer (some ⟨w.heap.size + 1, 0, none⟩), .pointer (some ⟨w.heap.size + 1 + 1, 0, none⟩), .pointer (some ⟨w.heap.size + 1 + 1 + 1, 0, none⟩), .bool y, .agg #[.int .u64 1, .int .u64 0], .int .u64 x, .func (.func 79) #[] #[.pointer (some ⟨w.heap.size + 1 + 1 + 1 + 1, 0, none⟩)], .bool y, undef, undef, undef, undef, undef, undef, undef, undef, undef, undef, undef, undef, undef, undef], defers := [] }) ?assign ?body ?done ?stop
  case assign =>
    intro l x W K hK
    gi_wp2
    exact hK
  case body =>
    rintro l pre y W ⟨⟨s, h0, h1, h2, h3, h4, h5, h6, h7, h8, h9, h10, h11, h12, h13⟩, hB⟩ _
    have g1 : w.heap.size < W.heap.size := by omega
    have g2 : w.heap.size + 1 < W.heap.size := by omega
    have g3 : w.heap.size + 1 + 1 < W.heap.size := by omega
    have g4 : w.heap.size + 1 + 1 + 1 < W.heap.size := by omega
    cases y <;> cases s
    · have hb := Lib.hid (h1 rfl)
      clear h1
      gi_wp2
      refine ⟨KeepsOthers.refl _, KeepB.refl _ _, ⟨false, h0, fun _ => ?_, h2, h3, h4, h5, h6, h7, ?_, ?_, h10, h11, h12, h13⟩, hB⟩
      · rw [pow2Bits_snoc, hb.out]; exact mul2_one_l _
      · rw [pow2Bits_snoc, hb.out]; rw [hb.out] at h8; exact h8
      · rw [pow2Bits_snoc, hb.out]; rw [hb.out] at h9; exact h9
    · clear h1
      gi_wp2_with (gi_at_call 33; refine (CallsIn.inRound l (callsIn_wide.2 (mul2_u _ _ _))).mono ?_; rintro e w' ⟨rfl, hB⟩; obtain ⟨hc, hf⟩ := bcell hB; have hz := hB.size; (try simp at hz); (try simp at hc); (try simp at hf))
      refine ⟨(by repeat (first | exact KeepsOthers.refl _ | refine KeepsOthers.trans ?_ (KeepsOthers.setCell _ _ _) | refine KeepsOthers.trans ?_ (KeepsOthers.alloc _ _) | refine KeepsOthers.trans ?_ (KeepsOthers.drew _) | refine KeepsOthers.trans ?_ (KeepsOthers.below (by assumption)))), (by repeat (first | exact KeepB.refl _ _ | refine KeepB.trans ?_ (KeepB.setCell (by first | exact Nat.le_refl _ | (simp; done) | omega | (simp; omega)) _) | refine KeepB.trans ?_ (KeepB.below (by assumption) (by first | exact Nat.le_refl _ | (simp; done) | omega | (simp; omega))))), ⟨true, ?_⟩, (by repeat (first | assumption | exact Below.refl _ _ | refine Below.setCell ?_ (by first | exact Nat.le_refl _ | (simp; done) | omega | (simp; omega)) _ | refine Below.alloc ?_ (by first | exact Nat.le_refl _ | (simp; done) | omega | (simp; omega)) _ | refine below_drewN ?_ _ | refine Below.drew ?_ | refine Below.on (by assumption) ?_ | refine Below.via (by assumption) (by first | exact Nat.le_refl _ | (simp; done) | omega | (simp; omega)) ?_))⟩
      refine ⟨?_, ?_, ?_, ?_, ?_, ?_, ?_, ?_, ?_, ?_, ?_, ?_, ?_, ?_⟩
      all_goals (first | (intro hh; cases hh; done) | (simp [go_sem, pow2Bits_snoc, *]; done) | (simp [go_sem]; omega) | (simp (maxDischargeDepth := 9) [go_sem, pow2Bits_snoc, *]; done))
    · clear h1
      gi_wp2_with fail
      refine (CallsIn.inRound l (callsIn_wide.2 (mul2_u _ _ _))).mono ?_
      rintro e w' ⟨rfl, hB⟩; obtain ⟨hc, hf⟩ := bcell hB; have hz := hB.size; (try simp at hz); (try simp at hc); (try simp at hf)
      have k1 : w.heap.size < w'.heap.size := by omega
      have k2 : w.heap.size + 1 < w'.heap.size := by omega
      have k3 : w.heap.size + 1 + 1 < w'.heap.size := by omega
      have k4 : w.heap.size + 1 + 1 + 1 < w'.heap.size := by omega
      gi_wp2_with fail
      refine (CallsIn.inRound l (callsIn_wide.2 (mul2_r _ _ _ ha hb _))).mono ?_
      rintro e w' ⟨rfl, hB⟩; obtain ⟨hc, hf⟩ := bcell hB; have hz := hB.size; (try simp at hz); (try simp at hc); (try simp at hf)
      gi_wp2_with fail
      refine ⟨(by repeat (first | exact KeepsOthers.refl _ | refine KeepsOthers.trans ?_ (KeepsOthers.setCell _ _ _) | refine KeepsOthers.trans ?_ (KeepsOthers.alloc _ _) | refine KeepsOthers.trans ?_ (KeepsOthers.drew _) | refine KeepsOthers.trans ?_ (KeepsOthers.below (by assumption)))), (by repeat (first | exact KeepB.refl _ _ | refine KeepB.trans ?_ (KeepB.setCell (by first | exact Nat.le_refl _ | (simp; done) | omega | (simp; omega)) _) | refine KeepB.trans ?_ (KeepB.below (by assumption) (by first | exact Nat.le_refl _ | (simp; done) | omega | (simp; omega))))), ⟨true, ?_⟩, (by repeat (first | assumption | exact Below.refl _ _ | refine Below.setCell ?_ (by first | exact Nat.le_refl _ | (simp; done) | omega | (simp; omega)) _ | refine Below.alloc ?_ (by first | exact Nat.le_refl _ | (simp; done) | omega | (simp; omega)) _ | refine below_drewN ?_ _ | refine Below.drew ?_ | refine Below.on (by assumption) ?_ | refine Below.via (by assumption) (by first | exact Nat.le_refl _ | (simp; done) | omega | (simp; omega)) ?_))⟩
      refine ⟨?_, ?_, ?_, ?_, ?_, ?_, ?_, ?_, ?_, ?_, ?_, ?_, ?_, ?_⟩
      all_goals (first | (intro hh; cases hh; done) | (simp [go_sem, pow2Bits_snoc, *]; done) | (simp [go_sem]; omega) | (simp (maxDischargeDepth := 9) [go_sem, pow2Bits_snoc, *]; done))
    · clear h1
      gi_wp2_with fail
      refine (CallsIn.inRound l (callsIn_wide.2 (mul2_u _ _ _))).mono ?_
      rintro e w' ⟨rfl, hB⟩; obtain ⟨hc, hf⟩ := bcell hB; have hz := hB.size; (try simp at hz); (try simp at hc); (try simp at hf)
      have k1 : w.heap.size < w'.heap.size := by omega
      have k2 : w.heap.size + 1 < w'.heap.size := by omega
      have k3 : w.heap.size + 1 + 1 < w'.heap.size := by omega
      have k4 : w.heap.size + 1 + 1 + 1 < w'.heap.size := by omega
      gi_wp2_with fail
      refine (CallsIn.inRound l (callsIn_wide.2 (mul2_r _ _ _ ha hb _))).mono ?_
      rintro e w' ⟨rfl, hB⟩; obtain ⟨hc, hf⟩ := bcell hB; have hz := hB.size; (try simp at hz); (try simp at hc); (try simp at hf)
      gi_wp2_with fail
      refine ⟨(by repeat (first | exact KeepsOthers.refl _ | refine KeepsOthers.trans ?_ (KeepsOthers.setCell _ _ _) | refine KeepsOthers.trans ?_ (KeepsOthers.alloc _ _) | refine KeepsOthers.trans ?_ (KeepsOthers.drew _) | refine KeepsOthers.trans ?_ (KeepsOthers.below (by assumption)))), (by repeat (first | exact KeepB.refl _ _ | refine KeepB.trans ?_ (KeepB.setCell (by first | exact Nat.le_refl _ | (simp; done) | omega | (simp; omega)) _) | refine KeepB.trans ?_ (KeepB.below (by assumption) (by first | exact Nat.le_refl _ | (simp; done) | omega | (simp; omega))))), ⟨true, ?_⟩, (by repeat (first | assumption | exact Below.refl _ _ | refine Below.setCell ?_ (by first | exact Nat.le_refl _ | (simp; done) | omega | (simp; omega)) _ | refine Below.alloc ?_ (by first | exact Nat.le_refl _ | (simp; done) | omega | (simp; omega)) _ | refine below_drewN ?_ _ | refine Below.drew ?_ | refine Below.on (by assumption) ?_ | refine Below.via (by assumption) (by first | exact Nat.le_refl _ | (simp; done) | omega | (simp; omega)) ?_))⟩
      refine ⟨?_, ?_, ?_, ?_, ?_, ?_, ?_, ?_, ?_, ?_, ?_, ?_, ?_, ?_⟩
      all_goals (first | (intro hh; cases hh; done) | (simp [go_sem, pow2Bits_snoc, *]; done) | (simp [go_sem]; omega) | (simp (maxDischargeDepth := 9) [go_sem, pow2Bits_snoc, *]; done))
  case done =>
    rintro D ys W hD rfl ⟨⟨s, h0, h1, h2, h3, h4, h5, h6, h7, h8, h9, h10, h11, h12, h13⟩, hB⟩ hK
    gi_wp2
    have e0 : ((W.setCell ⟨w.heap.size + 1, 0, none⟩ (.int .u64 (vz (pow2Bits (zf a0, zf a1) (bitsUp x 64)).1))).setCell ⟨w.heap.size + 1, 1, none⟩ (.int .u64 (vz (pow2Bits (zf a0, zf a1) (bitsUp x 64)).2))).cell? ⟨w.heap.size + 1, 0, none⟩ = some (.int .u64 (vz (pow2Bits (zf a0, zf a1) (bitsUp x 64)).1)) := by simp (maxDischargeDepth := 9) [go_sem, *]
    have e1 : ((W.setCell ⟨w.heap.size + 1, 0, none⟩ (.int .u64 (vz (pow2Bits (zf a0, zf a1) (bitsUp x 64)).1))).setCell ⟨w.heap.size + 1, 1, none⟩ (.int .u64 (vz (pow2Bits (zf a0, zf a1) (bitsUp x 64)).2))).cell? ⟨w.heap.size + 1, 1, none⟩ = some (.int .u64 (vz (pow2Bits (zf a0, zf a1) (bitsUp x 64)).2)) := by simp (maxDischargeDepth := 9) [go_sem, *]
    have hK' := (KeepsOthers.trans (KeepsOthers.setCell W ⟨w.heap.size + 1, 0, none⟩ (.int .u64 (vz (pow2Bits (zf a0, zf a1) (bitsUp x 64)).1))) (KeepsOthers.setCell _ ⟨w.heap.size + 1, 1, none⟩ (.int .u64 (vz (pow2Bits (zf a0, zf a1) (bitsUp x 64)).2)))).same D _ hK rfl
    have hB5 : Below w.heap.size w ((W.setCell ⟨w.heap.size + 1, 0, none⟩ (.int .u64 (vz (pow2Bits (zf a0, zf a1) (bitsUp x 64)).1))).setCell ⟨w.heap.size + 1, 1, none⟩ (.int .u64 (vz (pow2Bits (zf a0, zf a1) (bitsUp x 64)).2))) := (by repeat (first | assumption | exact Below.refl _ _ | refine Below.setCell ?_ (by first | exact Nat.le_refl _ | (simp; done) | omega | (simp; omega)) _ | refine Below.alloc ?_ (by first | exact Nat.le_refl _ | (simp; done) | omega | (simp; omega)) _ | refine below_drewN ?_ _ | refine Below.drew ?_ | refine Below.on (by assumption) ?_ | refine Below.via (by assumption) (by first | exact Nat.le_refl _ | (simp; done) | omega | (simp; omega)) ?_))
    rw [Exit.noGoto_ret]
    refine ⟨by simp, .inl ⟨_, _, rfl, run_takeDeferred hK', ?_⟩⟩
    have f0 := cell_kept e0 (grownBy_putObj' _ D (.deferred none)) (fun r e => by cases e; exact ⟨_, hK', rfl⟩)
    have f1 := cell_kept e1 (grownBy_putObj' _ D (.deferred none)) (fun r e => by cases e; exact ⟨_, hK', rfl⟩)
    exact ⟨v2 (pow2 (zf a0, zf a1) x), by simp [results, Try.results34, go_sem, f0, f1, v2, pow2], rfl, below_shut hB5 (Nat.le_refl _) (by omega)⟩
  case stop =>
    rintro D c pre W _ _ h _
    exact h.elim

set_option maxRecDepth 100000 in
set_option maxHeartbeats 4000000 in
theorem rpow2_calls (a0 a1 x : Int) (ha : 0 ≤ a0) (hb : 0 ≤ a1) (hx : 0 ≤ x) (hx2 : x ≤ 18446744073709551615) (w : World) :
    Calls Try.prog 36 #[.agg #[.int .u64 a0, .int .u64 a1], .int .u64 x] w (Ret w (v2 (pow2 (zf a0, zf a1) x))) := by
  have hbit := bit_and x hx hx2
  clear hx2
  go_enter Try.func36, Try.ntmps36
  go_wp2
  go_loopw [6] (fun i wr => ∃ k : Nat, k ≤ 64 ∧ i = .int .i64 (63 - k) ∧ w.heap.size + 1 + 1 < wr.heap.size ∧ Below w.heap.size w wr ∧
      wr.cell? ⟨w.heap.size, 0, none⟩ = some (.int .u64 a0) ∧ wr.cell? ⟨w.heap.size, 1, none⟩ = some (.int .u64 a1) ∧
      wr.cell? ⟨w.heap.size + 1, 0, none⟩ = some (.int .u64 0) ∧ wr.cell? ⟨w.heap.size + 1, 1, none⟩ = some (.int .u64 0) ∧ wr.frozen? ⟨w.heap.size + 1, 0, none⟩ = false ∧ wr.frozen? ⟨w.heap.size + 1, 1, none⟩ = false ∧
      wr.cell? ⟨w.heap.size + 1 + 1, 0, none⟩ = some (.int .u64 (vz (pow2Bits (zf a0, zf a1) (bitsUp x k)).1)) ∧ wr.cell? ⟨w.heap.size + 1 + 1, 1, none⟩ = some (.int .u64 (vz (pow2Bits (zf a0, zf a1) (bitsUp x k)).2)) ∧ wr.frozen? ⟨w.heap.size + 1 + 1, 0, none⟩ = false ∧ wr.frozen? ⟨w.heap.size + 1 + 1, 1, none⟩ = false)
    (fun i _ => (intOf i + 1).toNat)
  case atStart =>
    refine ⟨0, Nat.zero_le _, by simp, by simp, (by repeat (first | assumption | exact Below.refl _ _ | refine Below.setCell ?_ (by first | exact Nat.le_refl _ | (simp; done) | omega | (simp; omega)) _ | refine Below.alloc ?_ (by first | exact Nat.le_refl _ | (simp; done) | omega | (simp; omega)) _ | refine below_drewN ?_ _ | refine Below.drew ?_ | refine Below.on (by assumption) ?_ | refine Below.via (by assumption) (by first | exact Nat.le_refl _ | (simp; done) | omega | (simp; omega)) ?_)), ?_, ?_, ?_, ?_, ?_, ?_, ?_, ?_, ?_, ?_⟩ <;> simp [go_sem] <;> rfl
  case round =>
    obtain ⟨k, hk, rfl, h0, hB0, h2, h3, h4, h5, h6, h7, h8, h9, h10, h11⟩ := hrel
    have g1 : w.heap.size < wr.heap.size := by omega
    have g2 : w.heap.size + 1 < wr.heap.size := by omega
    have HS := Lib.hid (bitsUp_succ x k)
    by_cases hlt : k < 64
    · cases hb : bitAt x (63 - k)
      · go_wp2_with fail
        refine (rmul2_u _ _ _).mono ?_
        rintro e w' ⟨rfl, hB⟩; obtain ⟨hc, hf⟩ := bcell hB; have hz := hB.size; (try simp at hz); (try simp at hc); (try simp at hf)
        go_wp2_with fail
        go_roundw
        case rel =>
          refine ⟨k + 1, by omega, by congr 1; omega, ?_, (by repeat (first | assumption | exact Below.refl _ _ | refine Below.setCell ?_ (by first | exact Nat.le_refl _ | (simp; done) | omega | (simp; omega)) _ | refine Below.alloc ?_ (by first | exact Nat.le_refl _ | (simp; done) | omega | (simp; omega)) _ | refine below_drewN ?_ _ | refine Below.drew ?_ | refine Below.on (by assumption) ?_ | refine Below.via (by assumption) (by first | exact Nat.le_refl _ | (simp; done) | omega | (simp; omega)) ?_)), ?_, ?_, ?_, ?_, ?_, ?_, ?_, ?_, ?_, ?_⟩
          all_goals (try rw [HS.out, pow2Bits_snoc, hb])
          all_goals (first | assumption | omega | (simp [go_sem]; omega) | (simp (maxDischargeDepth := 9) [go_sem, *]; done))
        case measure => simp [intOf]; omega
      · go_wp2_with fail
        refine (rmul2_u _ _ _).mono ?_
        rintro e w' ⟨rfl, hB⟩; obtain ⟨hc, hf⟩ := bcell hB; have hz := hB.size; (try simp at hz); (try simp at hc); (try simp at hf)
        have k1 : w.heap.size < w'.heap.size := by omega
        have k2 : w.heap.size + 1 < w'.heap.size := by omega
        have k3 : w.heap.size + 1 + 1 < w'.heap.size := by omega
        go_wp2_with fail
        refine (rmul2_r _ _ _ (by assumption) (by assumption) _).mono ?_
        rintro e w' ⟨rfl, hB⟩; obtain ⟨hc, hf⟩ := bcell hB; have hz := hB.size; (try simp at hz); (try simp at hc); (try simp at hf)
        go_wp2_with fail
        go_roundw
        case rel =>
          refine ⟨k + 1, by omega, by congr 1; omega, ?_, (by repeat (first | assumption | exact Below.refl _ _ | refine Below.setCell ?_ (by first | exact Nat.le_refl _ | (simp; done) | omega | (simp; omega)) _ | refine Below.alloc ?_ (by first | exact Nat.le_refl _ | (simp; done) | omega | (simp; omega)) _ | refine below_drewN ?_ _ | refine Below.drew ?_ | refine Below.on (by assumption) ?_ | refine Below.via (by assumption) (by first | exact Nat.le_refl _ | (simp; done) | omega | (simp; omega)) ?_)), ?_, ?_, ?_, ?_, ?_, ?_, ?_, ?_, ?_, ?_⟩
          all_goals (try rw [HS.out, pow2Bits_snoc, hb])
          all_goals (first | assumption | omega | (simp [go_sem]; omega) | (simp (maxDischargeDepth := 9) [go_sem, *]; done))
        case measure => simp [intOf]; omega
    · obtain rfl : k = 64 := by omega
      go_wp2
      exact bodyPost_ret (v := v2 (pow2 (zf a0, zf a1) x)) (by simp (maxDischargeDepth := 9) [results, Try.results36, go_sem, v2, pow2, *]) rfl ⟨rfl, (by repeat (first | assumption | exact Below.refl _ _ | refine Below.setCell ?_ (by first | exact Nat.le_refl _ | (simp; done) | omega | (simp; omega)) _ | refine Below.alloc ?_ (by first | exact Nat.le_refl _ | (simp; done) | omega | (simp; omega)) _ | refine below_drewN ?_ _ | refine Below.drew ?_ | refine Below.on (by assumption) ?_ | refine Below.via (by assumption) (by first | exact Nat.le_refl _ | (simp; done) | omega | (simp; omega)) ?_))⟩
end Go.Proofs.Ytpmmjomejackkaa
