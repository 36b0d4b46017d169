/- Plain laws and walks, each by its own conditions. -/
import Derived.Test.YtegaaccioppfjaaGreatDoorFt11
import Derived.Test.YtegaaccioppfjaaGreatDoorFt1
set_option linter.unusedSimpArgs false
set_option linter.unusedVariables false
set_option maxRecDepth 100000
set_option maxHeartbeats 16000000
section
namespace Go.Proofs.YtegaaccioppfjaaGreatDoor
open BigFrame Go.RowKit Go.Phx Go.Shelf
attribute [local go_sem] Oper.semAt_some fldInf

theorem pair_bad1 (x y : Int) (i : Bool) (x' y' : Int) (i' : Bool) (hx : 0 ≤ x) (hy : 0 ≤ y) (h : inR x y i = false) (w : World) :
  Calls Tryz.prog 219 #[.agg #[.int .u64 x, .int .u64 y, .bool i], .agg #[.int .u64 x', .int .u64 y', .bool i']] w (Ret w (.tuple #[.agg #[.int .u64 0, .int .u64 0], .int .i64 100])) := by
 have n1 := in_of x y i hx hy
 rw [h] at n1
 clear h
 go_enter Tryz.func219, Tryz.ntmps219
 go_wp2_with fail
 refine wp_scope_straight ?_
 go_wp2_with fail
 refine (n1 _).mono ?_
 rintro e w1 ⟨rfl, hB⟩
 (replace HB : Below w.heap.size w w1 := Below.on hB bel; replace K0 := hb_ (g := w.heap.size) blJ hB; replace K1 := hb_ (g := w.heap.size + 1) blJ hB; replace K2 := hb_ (g := w.heap.size + 1 + 1) blJ hB; (try simp only [sB, sC, sD] at K0 K1 K2); clear hB; have HZw1 := HB.size; obtain ⟨k0, f0, l0, m0⟩ := rl_ K0; obtain ⟨k1, f1, l1, m1⟩ := rl_ K1; obtain ⟨k2, f2, l2, m2⟩ := rl_ K2)
 go_wp2_with fail
 rw [Exit.noGoto_ret]
 exact bodyPost_ret (v := .tuple #[.agg #[.int .u64 0, .int .u64 0], .int .i64 100]) (by simp (maxDischargeDepth := 9) [results, Tryz.results219, go_sem, vp, v2, *]) rfl ⟨rfl, bel⟩
theorem pair_bad2 (p : E) (x' y' : Int) (i' : Bool) (hp : inG p = true) (hx' : 0 ≤ x') (hy' : 0 ≤ y') (h : inR x' y' i' = false) (w : World) :
  Calls Tryz.prog 219 #[.agg #[.int .u64 (px p), .int .u64 (py p), .bool (pf p)], .agg #[.int .u64 x', .int .u64 y', .bool i']] w (Ret w (.tuple #[.agg #[.int .u64 0, .int .u64 0], .int .i64 100])) := by
 have n1 := in_good p (inG_on hp)
 rw [hp] at n1
 have n2 := in_of x' y' i' hx' hy'
 rw [h] at n2
 clear h hp
 go_enter Tryz.func219, Tryz.ntmps219
 go_wp2_with fail
 refine wp_scope_straight ?_
 go_wp2_with fail
 refine (n1 _).mono ?_
 rintro e w1 ⟨rfl, hB⟩
 (replace HB : Below w.heap.size w w1 := Below.on hB bel; replace K0 := hb_ (g := w.heap.size) blJ hB; replace K1 := hb_ (g := w.heap.size + 1) blJ hB; replace K2 := hb_ (g := w.heap.size + 1 + 1) blJ hB; (try simp only [sB, sC, sD] at K0 K1 K2); clear hB; have HZw1 := HB.size; obtain ⟨k0, f0, l0, m0⟩ := rl_ K0; obtain ⟨k1, f1, l1, m1⟩ := rl_ K1; obtain ⟨k2, f2, l2, m2⟩ := rl_ K2)
 go_wp2_with fail
 refine (n2 _).mono ?_
 rintro e w2 ⟨rfl, hB⟩
 (replace HB : Below w.heap.size w w2 := Below.on hB bel; replace K0 := hkJ K0.out hB; replace K1 := hkJ K1.out hB; replace K2 := hkJ K2.out hB; (try simp only [sB, sC, sD] at K0 K1 K2); clear k0 f0 l0 m0 k1 f1 l1 m1 k2 f2 l2 m2 hB; have HZw2 := HB.size; obtain ⟨k0, f0, l0, m0⟩ := rl_ K0; obtain ⟨k1, f1, l1, m1⟩ := rl_ K1; obtain ⟨k2, f2, l2, m2⟩ := rl_ K2)
 go_wp2_with fail
 rw [Exit.noGoto_ret]
 exact bodyPost_ret (v := .tuple #[.agg #[.int .u64 0, .int .u64 0], .int .i64 100]) (by simp (maxDischargeDepth := 9) [results, Tryz.results219, go_sem, vp, v2, *]) rfl ⟨rfl, bel⟩
theorem pair_none (q : E) (hq : inG q = true) (w : World) : Calls Tryz.prog 219 #[.agg #[.int .u64 0, .int .u64 0, .bool true], .agg #[.int .u64 (px q), .int .u64 (py q), .bool (pf q)]] w (Ret w (.tuple #[.agg #[.int .u64 1, .int .u64 0], .int .i64 0])) := by
 have n1 := in_good none rfl
 rw [inG_none] at n1
 simp only [show px none = 0 from rfl, show py none = 0 from rfl, show pf none = true from rfl] at n1
 have n2 := in_good q (inG_on hq)
 rw [hq] at n2
 clear hq
 go_enter Tryz.func219, Tryz.ntmps219
 go_wp2_with fail
 refine wp_scope_straight ?_
 go_wp2_with fail
 refine (n1 _).mono ?_
 rintro e w1 ⟨rfl, hB⟩
 (replace HB : Below w.heap.size w w1 := Below.on hB bel; replace K0 := hb_ (g := w.heap.size) blJ hB; replace K1 := hb_ (g := w.heap.size + 1) blJ hB; replace K2 := hb_ (g := w.heap.size + 1 + 1) blJ hB; (try simp only [sB, sC, sD] at K0 K1 K2); clear hB; have HZw1 := HB.size; obtain ⟨k0, f0, l0, m0⟩ := rl_ K0; obtain ⟨k1, f1, l1, m1⟩ := rl_ K1; obtain ⟨k2, f2, l2, m2⟩ := rl_ K2)
 go_wp2_with fail
 refine (n2 _).mono ?_
 rintro e w2 ⟨rfl, hB⟩
 (replace HB : Below w.heap.size w w2 := Below.on hB bel; replace K0 := hkJ K0.out hB; replace K1 := hkJ K1.out hB; replace K2 := hkJ K2.out hB; (try simp only [sB, sC, sD] at K0 K1 K2); clear k0 f0 l0 m0 k1 f1 l1 m1 k2 f2 l2 m2 hB; have HZw2 := HB.size; obtain ⟨k0, f0, l0, m0⟩ := rl_ K0; obtain ⟨k1, f1, l1, m1⟩ := rl_ K1; obtain ⟨k2, f2, l2, m2⟩ := rl_ K2)
 go_wp2_with fail
 refine (one_x _).mono ?_
 rintro e w3 ⟨rfl, hB⟩
 (replace HB : Below w.heap.size w w3 := Below.on hB bel; replace K0 := hkJ K0.out hB; replace K1 := hkJ K1.out hB; replace K2 := hkJ K2.out hB; (try simp only [sB, sC, sD] at K0 K1 K2); clear k0 f0 l0 m0 k1 f1 l1 m1 k2 f2 l2 m2 hB; have HZw3 := HB.size; obtain ⟨k0, f0, l0, m0⟩ := rl_ K0; obtain ⟨k1, f1, l1, m1⟩ := rl_ K1; obtain ⟨k2, f2, l2, m2⟩ := rl_ K2)
 go_wp2_with fail
 rw [Exit.noGoto_ret]
 exact bodyPost_ret (v := .tuple #[.agg #[.int .u64 1, .int .u64 0], .int .i64 0]) (by simp (maxDischargeDepth := 9) [results, Tryz.results219, go_sem, vp, v2, *]) rfl ⟨rfl, bel⟩
theorem pair_other (p : F × F) (hp : inG (some p) = true) (w : World) : Calls Tryz.prog 219 #[.agg #[.int .u64 (vz p.1), .int .u64 (vz p.2), .bool false], .agg #[.int .u64 0, .int .u64 0, .bool true]] w (Ret w (.tuple #[.agg #[.int .u64 1, .int .u64 0], .int .i64 0])) := by
 have n2 := in_good none rfl
 rw [inG_none] at n2
 simp only [show px none = 0 from rfl, show py none = 0 from rfl, show pf none = true from rfl] at n2
 have n1 := in_good (some p) (inG_on hp)
 rw [hp] at n1
 simp only [show px (some p) = vz p.1 from rfl, show py (some p) = vz p.2 from rfl, show pf (some p) = false from rfl] at n1
 clear hp
 go_enter Tryz.func219, Tryz.ntmps219
 go_wp2_with fail
 refine wp_scope_straight ?_
 go_wp2_with fail
 refine (n1 _).mono ?_
 rintro e w1 ⟨rfl, hB⟩
 (replace HB : Below w.heap.size w w1 := Below.on hB bel; replace K0 := hb_ (g := w.heap.size) blJ hB; replace K1 := hb_ (g := w.heap.size + 1) blJ hB; replace K2 := hb_ (g := w.heap.size + 1 + 1) blJ hB; (try simp only [sB, sC, sD] at K0 K1 K2); clear hB; have HZw1 := HB.size; obtain ⟨k0, f0, l0, m0⟩ := rl_ K0; obtain ⟨k1, f1, l1, m1⟩ := rl_ K1; obtain ⟨k2, f2, l2, m2⟩ := rl_ K2)
 go_wp2_with fail
 refine (n2 _).mono ?_
 rintro e w2 ⟨rfl, hB⟩
 (replace HB : Below w.heap.size w w2 := Below.on hB bel; replace K0 := hkJ K0.out hB; replace K1 := hkJ K1.out hB; replace K2 := hkJ K2.out hB; (try simp only [sB, sC, sD] at K0 K1 K2); clear k0 f0 l0 m0 k1 f1 l1 m1 k2 f2 l2 m2 hB; have HZw2 := HB.size; obtain ⟨k0, f0, l0, m0⟩ := rl_ K0; obtain ⟨k1, f1, l1, m1⟩ := rl_ K1; obtain ⟨k2, f2, l2, m2⟩ := rl_ K2)
 go_wp2_with fail
 refine (one_x _).mono ?_
 rintro e w3 ⟨rfl, hB⟩
 (replace HB : Below w.heap.size w w3 := Below.on hB bel; replace K0 := hkJ K0.out hB; replace K1 := hkJ K1.out hB; replace K2 := hkJ K2.out hB; (try simp only [sB, sC, sD] at K0 K1 K2); clear k0 f0 l0 m0 k1 f1 l1 m1 k2 f2 l2 m2 hB; have HZw3 := HB.size; obtain ⟨k0, f0, l0, m0⟩ := rl_ K0; obtain ⟨k1, f1, l1, m1⟩ := rl_ K1; obtain ⟨k2, f2, l2, m2⟩ := rl_ K2)
 go_wp2_with fail
 rw [Exit.noGoto_ret]
 exact bodyPost_ret (v := .tuple #[.agg #[.int .u64 1, .int .u64 0], .int .i64 0]) (by simp (maxDischargeDepth := 9) [results, Tryz.results219, go_sem, vp, v2, *]) rfl ⟨rfl, bel⟩
noncomputable def pairR (x y : Int) (i : Bool) (x' y' : Int) (i' : Bool) : Option F2 := if inR x y i && inR x' y' i' then some (pairE (ptOf x y i) (ptOf x' y' i')) else none
theorem pair_calls (p q : E) (hp : inG p = true) (hq : inG q = true) (w : World) : Calls Tryz.prog 219 #[.agg #[.int .u64 (px p), .int .u64 (py p), .bool (pf p)], .agg #[.int .u64 (px q), .int .u64 (py q), .bool (pf q)]] w (Ret w (.tuple #[v2' (pairE p q), .int .i64 0])) := by
 rcases p with _ | p
 ·exact pair_none q hq w
 ·rcases q with _ | q
  ·exact pair_other p hp w
  ·exact pair_good p q hp hq w
theorem pair_of (x y : Int) (i : Bool) (x' y' : Int) (i' : Bool) (hx : 0 ≤ x) (hy : 0 ≤ y) (hx' : 0 ≤ x') (hy' : 0 ≤ y') (w : World) :
  Calls Tryz.prog 219 #[.agg #[.int .u64 x, .int .u64 y, .bool i], .agg #[.int .u64 x', .int .u64 y', .bool i']] w (Ret w (outL (pairR x y i x' y' i'))) := by
 unfold pairR
 cases h : inR x y i
 ·exact pair_bad1 x y i x' y' i' hx hy h w
 ·obtain ⟨p, hp, e, rfl, rfl, rfl⟩ := inR_some hx hy h
  rw [e]
  cases h' : inR x' y' i'
  ·exact pair_bad2 p x' y' i' hp hx' hy' h' w
  ·obtain ⟨q, hq, e', rfl, rfl, rfl⟩ := inR_some hx' hy' h'
   rw [e']
   exact pair_calls p q hp hq w

/-! ### by the reference -/
theorem paired_none (x y : Int) (i : Bool) (w : World) : Calls Tryz.prog 135 #[.agg #[.int .u64 0, .int .u64 0, .bool true], .agg #[.int .u64 x, .int .u64 y, .bool i]] w (Ret w (.agg #[.int .u64 1, .int .u64 0])) := by
 go_enter Tryz.func135, Tryz.ntmps135
 go_wp2_with fail
 refine (rone_x _).mono ?_
 rintro e w1 ⟨rfl, hB⟩
 (replace HB : Below w.heap.size w w1 := Below.on hB bel; replace K0 := hb_ (g := w.heap.size) blJ hB; replace K1 := hb_ (g := w.heap.size + 1) blJ hB; replace K2 := hb_ (g := w.heap.size + 1 + 1) blJ hB; (try simp only [sB, sC, sD] at K0 K1 K2); clear hB; have HZw1 := HB.size; obtain ⟨k0, f0, l0, m0⟩ := rl_ K0; obtain ⟨k1, f1, l1, m1⟩ := rl_ K1; obtain ⟨k2, f2, l2, m2⟩ := rl_ K2)
 go_wp2_with fail
 exact bodyPost_ret (v := .agg #[.int .u64 1, .int .u64 0]) (by simp (maxDischargeDepth := 9) [results, Tryz.results135, go_sem, vp, v2, *]) rfl ⟨rfl, bel⟩
theorem paired_other (p : F × F) (w : World) : Calls Tryz.prog 135 #[.agg #[.int .u64 (vz p.1), .int .u64 (vz p.2), .bool false], .agg #[.int .u64 0, .int .u64 0, .bool true]] w (Ret w (.agg #[.int .u64 1, .int .u64 0])) := by
 go_enter Tryz.func135, Tryz.ntmps135
 go_wp2_with fail
 refine (rone_x _).mono ?_
 rintro e w1 ⟨rfl, hB⟩
 (replace HB : Below w.heap.size w w1 := Below.on hB bel; replace K0 := hb_ (g := w.heap.size) blJ hB; replace K1 := hb_ (g := w.heap.size + 1) blJ hB; replace K2 := hb_ (g := w.heap.size + 1 + 1) blJ hB; (try simp only [sB, sC, sD] at K0 K1 K2); clear hB; have HZw1 := HB.size; obtain ⟨k0, f0, l0, m0⟩ := rl_ K0; obtain ⟨k1, f1, l1, m1⟩ := rl_ K1; obtain ⟨k2, f2, l2, m2⟩ := rl_ K2)
 go_wp2_with fail
 exact bodyPost_ret (v := .agg #[.int .u64 1, .int .u64 0]) (by simp (maxDischargeDepth := 9) [results, Tryz.results135, go_sem, vp, v2, *]) rfl ⟨rfl, bel⟩
theorem paired_good (p q : F × F) (w : World) :
  Calls Tryz.prog 135 #[.agg #[.int .u64 (vz p.1), .int .u64 (vz p.2), .bool false], .agg #[.int .u64 (vz q.1), .int .u64 (vz q.2), .bool false]] w (Ret w (v2' (pairE (some p) (some q)))) := by
 rw [show pairE (some p) (some q) = pow2 (mill (some p) q (obits 28)).1 8589931464 from rfl]
 obtain ⟨O, hO⟩ : ∃ O, mill (some p) q (obits 28) = O := ⟨_, rfl⟩
 rw [hO]
 replace hO := Lib.hid hO
 go_enter Tryz.func135, Tryz.ntmps135
 go_wp2_with fail
 refine (rone_x _).mono ?_
 rintro e w1 ⟨rfl, hB⟩
 (replace HB : Below w.heap.size w w1 := Below.on hB bel; replace K0 := hb_ (g := w.heap.size) blJ hB; replace K1 := hb_ (g := w.heap.size + 1) blJ hB; replace K2 := hb_ (g := w.heap.size + 1 + 1) blJ hB; (try simp only [sB, sC, sD] at K0 K1 K2); clear hB; have HZw1 := HB.size; obtain ⟨k0, f0, l0, m0⟩ := rl_ K0; obtain ⟨k1, f1, l1, m1⟩ := rl_ K1; obtain ⟨k2, f2, l2, m2⟩ := rl_ K2)
 go_wp2_with fail
 obtain ⟨bf, hbf⟩ : ∃ bf, w1.heap.size = bf := ⟨_, rfl⟩
 have a0 : w.heap.size + 1 + 1 < bf := by omega
 have HM : MillAt w.heap.size bf (bf + 1) p q ((1, 0), some p) ((w1.alloc (.cells #[.int .u64 1, .int .u64 0] 147)).alloc (.cells #[.int .u64 (vz p.1), .int .u64 (vz p.2), .bool false] 96)) := by
  rw [← hbf]
  exact ⟨(by apply Blk.to; (repeat (first | with_reducible exact K0.out | exact nwJ | with_reducible apply Blk.set_ | with_reducible apply Blk.alloc | with_reducible apply Blk.drewN | with_reducible apply Blk.drew | (with_reducible apply Blk.over2; first | assumption | omega))); rfl), (by apply Blk.to; (repeat (first | with_reducible exact K1.out | exact nwJ | with_reducible apply Blk.set_ | with_reducible apply Blk.alloc | with_reducible apply Blk.drewN | with_reducible apply Blk.drew | (with_reducible apply Blk.over2; first | assumption | omega))); rfl), (by apply Blk.to; (repeat (first | with_reducible exact K2.out | exact nwJ | with_reducible apply Blk.set_ | with_reducible apply Blk.alloc | with_reducible apply Blk.drewN | with_reducible apply Blk.drew | (with_reducible apply Blk.over2; first | assumption | omega))); rfl), (by apply Blk.to; (repeat (first | with_reducible exact K0.out | exact nwJ | with_reducible apply Blk.set_ | with_reducible apply Blk.alloc | with_reducible apply Blk.drewN | with_reducible apply Blk.drew | (with_reducible apply Blk.over2; first | assumption | omega))); rfl), (by apply Blk.to; (repeat (first | with_reducible exact K0.out | exact nwJ | with_reducible apply Blk.set_ | with_reducible apply Blk.alloc | with_reducible apply Blk.drewN | with_reducible apply Blk.drew | (with_reducible apply Blk.over2; first | assumption | omega))); rfl)⟩
 have HB' : Below w.heap.size w ((w1.alloc (.cells #[.int .u64 1, .int .u64 0] 147)).alloc (.cells #[.int .u64 (vz p.1), .int .u64 (vz p.2), .bool false] 96)) := bel
 rw [hbf]
 clear hbf HB HZw1 K0 k0 f0 l0 m0 K1 k1 f1 l1 m1 K2 k2 f2 l2 m2
 have hbit := obit_and
 go_loopw [7] (fun i wr => ∃ k : Nat, k ≤ 28 ∧ i = .int .i64 (27 - k) ∧ MillAt w.heap.size bf (bf + 1) p q (mill (some p) q (obits k)) wr ∧ Below w.heap.size w wr)
  (fun i _ => (intOf i + 1).toNat)
 case atStart => exact ⟨0, Nat.zero_le _, by simp, HM, HB'⟩
 case round =>
  obtain ⟨k, hk, rfl, HMr, HB⟩ := hrel
  clear HM HB'
  have c1 : bf ≠ bf + 1 := by omega
  have c2 : bf + 1 ≠ bf := by omega
  have a2 : w.heap.size ≠ bf := by omega
  have a3 : w.heap.size + 1 ≠ bf := by omega
  have a4 : w.heap.size + 1 + 1 ≠ bf := by omega
  have a5 : w.heap.size ≠ bf + 1 := by omega
  have a6 : w.heap.size + 1 ≠ bf + 1 := by omega
  have a7 : w.heap.size + 1 + 1 ≠ bf + 1 := by omega
  have a8 : bf ≠ w.heap.size := by omega
  have a9 : bf ≠ w.heap.size + 1 := by omega
  have b1 : bf ≠ w.heap.size + 1 + 1 := by omega
  have b2 : bf + 1 ≠ w.heap.size := by omega
  have b3 : bf + 1 ≠ w.heap.size + 1 := by omega
  have b4 : bf + 1 ≠ w.heap.size + 1 + 1 := by omega
  have b5 : w.heap.size ≤ bf := by omega
  have b6 : w.heap.size ≤ bf + 1 := by omega
  by_cases hlt : k < 28
  ·have HS := mill_snoc (some p) q (obits k) (bitAt 536870717 (27 - k))
   obtain ⟨s, hs⟩ : ∃ s, mill (some p) q (obits k) = s := ⟨_, rfl⟩
   rw [hs] at HMr HS
   clear hs
   obtain ⟨f, t⟩ := s
   have n4 := rline_calls t t q
   have n5 := rplus_u t t
   have n6 := rline_calls (addE t t) (some p) q
   have n7 := rplus_u (addE t t) (some p)
   simp only [show px (some p) = vz p.1 from rfl, show py (some p) = vz p.2 from rfl, show pf (some p) = false from rfl] at n6 n7
   obtain ⟨K0, K1, K2, K3, K4⟩ := HMr
   replace K0 := Lib.hid K0
   replace K1 := Lib.hid K1
   replace K2 := Lib.hid K2
   replace K3 := Lib.hid K3
   replace K4 := Lib.hid K4
   (obtain ⟨k0, f0, l0, m0⟩ := rl_ K0; obtain ⟨k1, f1, l1, m1⟩ := rl_ K1; obtain ⟨k2, f2, l2, m2⟩ := rl_ K2; obtain ⟨k3, f3, l3, m3⟩ := rl_ K3; obtain ⟨k4, f4, l4, m4⟩ := rl_ K4)
   cases hb : bitAt 536870717 (27 - k)
   ·rw [hb] at HS
    replace HS := Lib.hid (HS.trans (by rfl : _ = (mul2 (mul2 f f) (lineE t t q), addE t t)))
    go_wp2_with fail
    (refine wp_region_later_tail 8 (by kernel_rfl) (by kernel_rfl) ?_; simp only [List.take_succ_cons, List.take_zero, List.drop_succ_cons, List.drop_zero]; (repeat (go_big_quiet_step ((first
     | (go_at_call 175; exact lq (rmul2_w _ _ _))
     | (go_at_call 176; exact lq (n4 _)))))); refine wpQuiet_nil ?_; intro w' hB)
    (replace HB : Below w.heap.size w w' := Below.on hB bel; replace K0 := hkJ K0.out hB; replace K1 := hkJ K1.out hB; replace K2 := hkJ K2.out hB; replace K3 := hkJ K3.out hB; replace K4 := hkJ K4.out hB; (try simp only [sB, sC, sD] at K0 K1 K2 K3 K4); clear k0 f0 l0 m0 k1 f1 l1 m1 k2 f2 l2 m2 k3 f3 l3 m3 k4 f4 l4 m4 hB; have HZw' := HB.size; obtain ⟨k0, f0, l0, m0⟩ := rl_ K0; obtain ⟨k1, f1, l1, m1⟩ := rl_ K1; obtain ⟨k2, f2, l2, m2⟩ := rl_ K2; obtain ⟨k3, f3, l3, m3⟩ := rl_ K3; obtain ⟨k4, f4, l4, m4⟩ := rl_ K4)
    go_wp2_with fail
    refine (n5 _).mono ?_
    rintro e w2 ⟨rfl, hB⟩
    (replace HB : Below w.heap.size w w2 := Below.on hB bel; replace K0 := hkJ K0.out hB; replace K1 := hkJ K1.out hB; replace K2 := hkJ K2.out hB; replace K3 := hkJ K3.out hB; replace K4 := hkJ K4.out hB; (try simp only [sB, sC, sD] at K0 K1 K2 K3 K4); clear k0 f0 l0 m0 k1 f1 l1 m1 k2 f2 l2 m2 k3 f3 l3 m3 k4 f4 l4 m4 hB; have HZw2 := HB.size; obtain ⟨k0, f0, l0, m0⟩ := rl_ K0; obtain ⟨k1, f1, l1, m1⟩ := rl_ K1; obtain ⟨k2, f2, l2, m2⟩ := rl_ K2; obtain ⟨k3, f3, l3, m3⟩ := rl_ K3; obtain ⟨k4, f4, l4, m4⟩ := rl_ K4)
    go_wp2_with fail
    go_roundw
    case rel => exact ⟨k + 1, by omega, by congr 1; omega, by rw [obits_succ, hb, HS.out]; exact ⟨(by apply Blk.to; (repeat (first | with_reducible exact K0.out | exact nwJ | with_reducible apply Blk.set_ | with_reducible apply Blk.alloc | with_reducible apply Blk.drewN | with_reducible apply Blk.drew | (with_reducible apply Blk.over2; first | assumption | omega))); rfl), (by apply Blk.to; (repeat (first | with_reducible exact K1.out | exact nwJ | with_reducible apply Blk.set_ | with_reducible apply Blk.alloc | with_reducible apply Blk.drewN | with_reducible apply Blk.drew | (with_reducible apply Blk.over2; first | assumption | omega))); rfl), (by apply Blk.to; (repeat (first | with_reducible exact K2.out | exact nwJ | with_reducible apply Blk.set_ | with_reducible apply Blk.alloc | with_reducible apply Blk.drewN | with_reducible apply Blk.drew | (with_reducible apply Blk.over2; first | assumption | omega))); rfl), (by apply Blk.to; (repeat (first | with_reducible exact K3.out | exact nwJ | with_reducible apply Blk.set_ | with_reducible apply Blk.alloc | with_reducible apply Blk.drewN | with_reducible apply Blk.drew | (with_reducible apply Blk.over2; first | assumption | omega))); rfl), (by apply Blk.to; (repeat (first | with_reducible exact K4.out | exact nwJ | with_reducible apply Blk.set_ | with_reducible apply Blk.alloc | with_reducible apply Blk.drewN | with_reducible apply Blk.drew | (with_reducible apply Blk.over2; first | assumption | omega))); rfl)⟩, bel⟩
    case measure => simp [intOf]; omega
   ·rw [hb] at HS
    replace HS := Lib.hid (HS.trans (by rfl : _ = (mul2 (mul2 (mul2 f f) (lineE t t q)) (lineE (addE t t) (some p) q), addE (addE t t) (some p))))
    go_wp2_with fail
    (refine wp_region_later_tail 8 (by kernel_rfl) (by kernel_rfl) ?_; simp only [List.take_succ_cons, List.take_zero, List.drop_succ_cons, List.drop_zero]; (repeat (go_big_quiet_step ((first
     | (go_at_call 175; exact lq (rmul2_w _ _ _))
     | (go_at_call 176; exact lq (n4 _)))))); refine wpQuiet_nil ?_; intro w' hB)
    (replace HB : Below w.heap.size w w' := Below.on hB bel; replace K0 := hkJ K0.out hB; replace K1 := hkJ K1.out hB; replace K2 := hkJ K2.out hB; replace K3 := hkJ K3.out hB; replace K4 := hkJ K4.out hB; (try simp only [sB, sC, sD] at K0 K1 K2 K3 K4); clear k0 f0 l0 m0 k1 f1 l1 m1 k2 f2 l2 m2 k3 f3 l3 m3 k4 f4 l4 m4 hB; have HZw' := HB.size; obtain ⟨k0, f0, l0, m0⟩ := rl_ K0; obtain ⟨k1, f1, l1, m1⟩ := rl_ K1; obtain ⟨k2, f2, l2, m2⟩ := rl_ K2; obtain ⟨k3, f3, l3, m3⟩ := rl_ K3; obtain ⟨k4, f4, l4, m4⟩ := rl_ K4)
    go_wp2_with fail
    refine (n5 _).mono ?_
    rintro e w2 ⟨rfl, hB⟩
    (replace HB : Below w.heap.size w w2 := Below.on hB bel; replace K0 := hkJ K0.out hB; replace K1 := hkJ K1.out hB; replace K2 := hkJ K2.out hB; replace K3 := hkJ K3.out hB; replace K4 := hkJ K4.out hB; (try simp only [sB, sC, sD] at K0 K1 K2 K3 K4); clear k0 f0 l0 m0 k1 f1 l1 m1 k2 f2 l2 m2 k3 f3 l3 m3 k4 f4 l4 m4 hB; have HZw2 := HB.size; obtain ⟨k0, f0, l0, m0⟩ := rl_ K0; obtain ⟨k1, f1, l1, m1⟩ := rl_ K1; obtain ⟨k2, f2, l2, m2⟩ := rl_ K2; obtain ⟨k3, f3, l3, m3⟩ := rl_ K3; obtain ⟨k4, f4, l4, m4⟩ := rl_ K4)
    go_wp2_with fail
    (refine wp_region_later_tail 6 (by kernel_rfl) (by kernel_rfl) ?_; simp only [List.take_succ_cons, List.take_zero, List.drop_succ_cons, List.drop_zero]; (repeat (go_big_quiet_step ((first
     | (go_at_call 175; exact lq (rmul2_w _ _ _))
     | (go_at_call 176; exact lq (n6 _)))))); refine wpQuiet_nil ?_; intro w' hB)
    (replace HB : Below w.heap.size w w' := Below.on hB bel; replace K0 := hkJ K0.out hB; replace K1 := hkJ K1.out hB; replace K2 := hkJ K2.out hB; replace K3 := hkJ K3.out hB; replace K4 := hkJ K4.out hB; (try simp only [sB, sC, sD] at K0 K1 K2 K3 K4); clear k0 f0 l0 m0 k1 f1 l1 m1 k2 f2 l2 m2 k3 f3 l3 m3 k4 f4 l4 m4 hB; have HZw' := HB.size; obtain ⟨k0, f0, l0, m0⟩ := rl_ K0; obtain ⟨k1, f1, l1, m1⟩ := rl_ K1; obtain ⟨k2, f2, l2, m2⟩ := rl_ K2; obtain ⟨k3, f3, l3, m3⟩ := rl_ K3; obtain ⟨k4, f4, l4, m4⟩ := rl_ K4)
    go_wp2_with fail
    refine (n7 _).mono ?_
    rintro e w4 ⟨rfl, hB⟩
    (replace HB : Below w.heap.size w w4 := Below.on hB bel; replace K0 := hkJ K0.out hB; replace K1 := hkJ K1.out hB; replace K2 := hkJ K2.out hB; replace K3 := hkJ K3.out hB; replace K4 := hkJ K4.out hB; (try simp only [sB, sC, sD] at K0 K1 K2 K3 K4); clear k0 f0 l0 m0 k1 f1 l1 m1 k2 f2 l2 m2 k3 f3 l3 m3 k4 f4 l4 m4 hB; have HZw4 := HB.size; obtain ⟨k0, f0, l0, m0⟩ := rl_ K0; obtain ⟨k1, f1, l1, m1⟩ := rl_ K1; obtain ⟨k2, f2, l2, m2⟩ := rl_ K2; obtain ⟨k3, f3, l3, m3⟩ := rl_ K3; obtain ⟨k4, f4, l4, m4⟩ := rl_ K4)
    go_wp2_with fail
    go_roundw
    case rel => exact ⟨k + 1, by omega, by congr 1; omega, by rw [obits_succ, hb, HS.out]; exact ⟨(by apply Blk.to; (repeat (first | with_reducible exact K0.out | exact nwJ | with_reducible apply Blk.set_ | with_reducible apply Blk.alloc | with_reducible apply Blk.drewN | with_reducible apply Blk.drew | (with_reducible apply Blk.over2; first | assumption | omega))); rfl), (by apply Blk.to; (repeat (first | with_reducible exact K1.out | exact nwJ | with_reducible apply Blk.set_ | with_reducible apply Blk.alloc | with_reducible apply Blk.drewN | with_reducible apply Blk.drew | (with_reducible apply Blk.over2; first | assumption | omega))); rfl), (by apply Blk.to; (repeat (first | with_reducible exact K2.out | exact nwJ | with_reducible apply Blk.set_ | with_reducible apply Blk.alloc | with_reducible apply Blk.drewN | with_reducible apply Blk.drew | (with_reducible apply Blk.over2; first | assumption | omega))); rfl), (by apply Blk.to; (repeat (first | with_reducible exact K3.out | exact nwJ | with_reducible apply Blk.set_ | with_reducible apply Blk.alloc | with_reducible apply Blk.drewN | with_reducible apply Blk.drew | (with_reducible apply Blk.over2; first | assumption | omega))); rfl), (by apply Blk.to; (repeat (first | with_reducible exact K4.out | exact nwJ | with_reducible apply Blk.set_ | with_reducible apply Blk.alloc | with_reducible apply Blk.drewN | with_reducible apply Blk.drew | (with_reducible apply Blk.over2; first | assumption | omega))); rfl)⟩, bel⟩
    case measure => simp [intOf]; omega
  ·obtain rfl : k = 28 := by omega
   rw [hO.out] at HMr
   obtain ⟨f, t⟩ := O
   obtain ⟨K0, K1, K2, K3, K4⟩ := HMr
   replace K0 := Lib.hid K0
   replace K1 := Lib.hid K1
   replace K2 := Lib.hid K2
   replace K3 := Lib.hid K3
   replace K4 := Lib.hid K4
   (obtain ⟨k0, f0, l0, m0⟩ := rl_ K0; obtain ⟨k1, f1, l1, m1⟩ := rl_ K1; obtain ⟨k2, f2, l2, m2⟩ := rl_ K2; obtain ⟨k3, f3, l3, m3⟩ := rl_ K3; obtain ⟨k4, f4, l4, m4⟩ := rl_ K4)
   go_wp2_with fail
   refine (rpow2_w f _).mono ?_
   rintro e w2 ⟨rfl, hB⟩
   (replace HB : Below w.heap.size w w2 := Below.on hB bel; replace K0 := hkJ K0.out hB; replace K1 := hkJ K1.out hB; replace K2 := hkJ K2.out hB; replace K3 := hkJ K3.out hB; replace K4 := hkJ K4.out hB; (try simp only [sB, sC, sD] at K0 K1 K2 K3 K4); clear k0 f0 l0 m0 k1 f1 l1 m1 k2 f2 l2 m2 k3 f3 l3 m3 k4 f4 l4 m4 hB; have HZw2 := HB.size; obtain ⟨k0, f0, l0, m0⟩ := rl_ K0; obtain ⟨k1, f1, l1, m1⟩ := rl_ K1; obtain ⟨k2, f2, l2, m2⟩ := rl_ K2; obtain ⟨k3, f3, l3, m3⟩ := rl_ K3; obtain ⟨k4, f4, l4, m4⟩ := rl_ K4)
   go_wp2_with fail
   exact bodyPost_ret (v := v2' (pow2 f 8589931464)) (by simp (maxDischargeDepth := 9) [results, Tryz.results135, go_sem, vp, v2, *]) rfl ⟨rfl, bel⟩
theorem paired_calls (p q : E) (w : World) : Calls Tryz.prog 135 #[.agg #[.int .u64 (px p), .int .u64 (py p), .bool (pf p)], .agg #[.int .u64 (px q), .int .u64 (py q), .bool (pf q)]] w (Ret w (v2' (pairE p q))) := by
 rcases p with _ | p
 ·exact paired_none _ _ _ w
 ·rcases q with _ | q
  ·exact paired_other p w
  ·exact paired_good p q w
end Go.Proofs.YtegaaccioppfjaaGreatDoor
end
