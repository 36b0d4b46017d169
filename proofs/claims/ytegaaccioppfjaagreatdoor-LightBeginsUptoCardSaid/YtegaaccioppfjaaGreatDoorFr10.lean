/- What the later texts stand on (Sha8, Sha9, Sha10, Bld, Hex, ShaL): plain laws and walks, each by its own conditions. -/
import Derived.Test.YtegaaccioppfjaaGreatDoorFr6
import Derived.Deep.AppendLies
import Derived.Deep.RegionLaw
import Derived.Test.YtegaaccioppfjaaGreatDoorShelf
import Derived.Lib.Builder
set_option linter.unusedSimpArgs false
set_option linter.unusedVariables false
section
namespace Go.Proofs.YtegaaccioppfjaaGreatDoor
open BigFrame Go.RowKit Go.Phx Go.Shelf
attribute [local go_sem] Oper.semAt_some

theorem blk_over8 {w : World} {g b : Nat} {t : TypeId} {cs : Array Value} (hn : g ≠ b) (x0 x1 x2 x3 x4 x5 x6 x7 : Value) (h : Blk w g t cs) : Blk ((((((((w.setCell ⟨b, 0, none⟩ x0).setCell ⟨b, 1, none⟩ x1).setCell ⟨b, 2, none⟩ x2).setCell ⟨b, 3, none⟩ x3).setCell ⟨b, 4, none⟩ x4).setCell ⟨b, 5, none⟩ x5).setCell ⟨b, 6, none⟩ x6).setCell ⟨b, 7, none⟩ x7) g t cs :=
 Blk.over2 hn (Blk.over2 hn (Blk.over2 hn (Blk.over2 hn (Blk.over2 hn (Blk.over2 hn (Blk.over2 hn (Blk.over2 hn (h))))))))
theorem blk_put8 {w : World} {b : Nat} {t : TypeId} {y0 y1 y2 y3 y4 y5 y6 y7 : Value} (x0 x1 x2 x3 x4 x5 x6 x7 : Value) (h : Blk w b t #[y0, y1, y2, y3, y4, y5, y6, y7]) : Blk ((((((((w.setCell ⟨b, 0, none⟩ x0).setCell ⟨b, 1, none⟩ x1).setCell ⟨b, 2, none⟩ x2).setCell ⟨b, 3, none⟩ x3).setCell ⟨b, 4, none⟩ x4).setCell ⟨b, 5, none⟩ x5).setCell ⟨b, 6, none⟩ x6).setCell ⟨b, 7, none⟩ x7) b t #[x0, x1, x2, x3, x4, x5, x6, x7] := by
 have := ((((((((h.set_ 0 x0).set_ 1 x1).set_ 2 x2).set_ 3 x3).set_ 4 x4).set_ 5 x5).set_ 6 x6).set_ 7 x7)
 simpa using this
theorem below_put8 {n : Nat} {w0 w : World} {b : Nat} (hb : n ≤ b) (x0 x1 x2 x3 x4 x5 x6 x7 : Value) (h : Below n w0 w) : Below n w0 ((((((((w.setCell ⟨b, 0, none⟩ x0).setCell ⟨b, 1, none⟩ x1).setCell ⟨b, 2, none⟩ x2).setCell ⟨b, 3, none⟩ x3).setCell ⟨b, 4, none⟩ x4).setCell ⟨b, 5, none⟩ x5).setCell ⟨b, 6, none⟩ x6).setCell ⟨b, 7, none⟩ x7) :=
 ((((((((h.setCell (p := ⟨b, 0, none⟩) hb x0).setCell (p := ⟨b, 1, none⟩) hb x1).setCell (p := ⟨b, 2, none⟩) hb x2).setCell (p := ⟨b, 3, none⟩) hb x3).setCell (p := ⟨b, 4, none⟩) hb x4).setCell (p := ⟨b, 5, none⟩) hb x5).setCell (p := ⟨b, 6, none⟩) hb x6).setCell (p := ⟨b, 7, none⟩) hb x7)
@[go_sem] theorem not_w (x : Wd) : bits .xor .u32 (if IntKind.u32.signed = true then -1 else IntKind.u32.max) (vw x) = vw (~~~x) := by
 rw [show (if IntKind.u32.signed = true then -1 else IntKind.u32.max : Int) = vw (BitVec.allOnes 32) from by decide, xor_w, BitVec.allOnes_xor]
set_option maxRecDepth 100000 in
set_option maxHeartbeats 4000000 in
theorem rtake_calls (v : St) (g o c : Nat) (l : List UInt8) (hl : l.length = 64) (w : World) (hb : BytesAt w g o l) (ho : o + 64 ≤ 9223372036854775807) (hc : 64 ≤ c) :
  Calls Tryz.prog 139 #[.agg (cS v), .slice (some ⟨g, o, none⟩) 64 c] w (Ret w (.agg (cS (takeB v l)))) := by
 have hTB : takeB v l = v.add (roundW v (moreW l 48) 64) := by
  rw [roundW_all _ _ (moreW_len l 48 (by decide)), moreW_all]
  rfl
 rw [hTB]
 clear hTB
 have hML := moreW_len l 48 (by decide)
 have HSP := fun W => Lib.hid (spread_calls g o c l hl W)
 have HBA := Lib.hid hb
 have hgl := hb.1
 clear hb
 unfold cS
 go_enter Tryz.func139, Tryz.ntmps139
 go_wp2_with fail
 refine (HSP _).out (HBA.out.from (n := w.heap.size) bel hgl (by simp; omega)) ho hc |>.mono ?_
 rintro e w1 ⟨rfl, hB⟩
 clear HSP HBA
 (have HBn : Below w.heap.size w w1 := Below.on hB bel; have N0 := Lib.hid (Blk.below (g := w.heap.size) blJ hB); (try simp only [List.setIfInBounds_toArray, List.set_cons_succ, List.set_cons_zero] at N0); have N1 := Lib.hid (Blk.below (g := w.heap.size + 1) blJ hB); (try simp only [List.setIfInBounds_toArray, List.set_cons_succ, List.set_cons_zero] at N1); (try clear HB); clear hB; have HB := HBn; clear HBn; have HZw1 := HB.size; have K0 := N0; clear N0; obtain ⟨k0, f0, l0, m0⟩ := K0.out.rl; have K1 := N1; clear N1; obtain ⟨k1, f1, l1, m1⟩ := K1.out.rl)
 have hz1 := l1
 go_wp2_with (first
  | (with_reducible refine wpList_store_new (o := ⟨none, .store 183 _ _, _, _, _, _⟩) rfl _ _ rfl rfl rfl ?hs1 ?hi1 (cw_one _) ?_)
  | fail)
 case hs1 => rw [cw_size, hML]; kernel_rfl
 case hi1 => rw [cw_size, hML]; kernel_rfl
 go_wp2_with fail
 refine (words_calls _).mono ?_
 rintro e w2 ⟨rfl, hB⟩
 (have HBn : Below w.heap.size w w2 := Below.on hB bel; have N0 := Lib.hid (Blk.below (g := w.heap.size) (by have kk := K0.out; exact blJ) hB); (try simp only [List.setIfInBounds_toArray, List.set_cons_succ, List.set_cons_zero] at N0); have N1 := Lib.hid (Blk.below (g := w.heap.size + 1) (by have kk := K1.out; exact blJ) hB); (try simp only [List.setIfInBounds_toArray, List.set_cons_succ, List.set_cons_zero] at N1); have N2 := Lib.hid (Blk.below (g := w1.heap.size) blJ hB); (try simp only [List.setIfInBounds_toArray, List.set_cons_succ, List.set_cons_zero] at N2); clear K0 k0 f0 l0 m0 K1 k1 f1 l1 m1; (try clear HB); clear hB; have HB := HBn; clear HBn; have HZw2 := HB.size; have K0 := N0; clear N0; obtain ⟨k0, f0, l0, m0⟩ := K0.out.rl; have K1 := N1; clear N1; obtain ⟨k1, f1, l1, m1⟩ := K1.out.rl; have K2 := N2; clear N2; obtain ⟨k2, f2, l2, m2⟩ := K2.out.rl)
 go_wp2_with (first
  | (with_reducible refine wpList_store_new (o := ⟨none, .store 183 _ _, _, _, _, _⟩) rfl _ _ rfl rfl rfl ?hs2 ?hi2 (cw_one _) ?_)
  | fail)
 case hs2 => kernel_rfl
 case hi2 => kernel_rfl
 go_wp2_with fail
 have hz2 : w1.heap.size < w2.heap.size := l2
 have K3 := Lib.hid (show Blk ((w2.alloc (.cells (cw kTab) 183)).alloc (.cells #[.int .u32 (vw v.a), .int .u32 (vw v.b), .int .u32 (vw v.c), .int .u32 (vw v.d), .int .u32 (vw v.e), .int .u32 (vw v.f), .int .u32 (vw v.g), .int .u32 (vw v.h)] 151)) w2.heap.size 183 (cw kTab) from (Blk.new0 _ _ _).alloc _)
 have K4 := Lib.hid (Blk.new1 w2 (.cells (cw kTab) 183) 151 #[.int .u32 (vw v.a), .int .u32 (vw v.b), .int .u32 (vw v.c), .int .u32 (vw v.d), .int .u32 (vw v.e), .int .u32 (vw v.f), .int .u32 (vw v.g), .int .u32 (vw v.h)])
 replace K0 := Lib.hid ((K0.out.alloc (.cells (cw kTab) 183)).alloc (.cells #[.int .u32 (vw v.a), .int .u32 (vw v.b), .int .u32 (vw v.c), .int .u32 (vw v.d), .int .u32 (vw v.e), .int .u32 (vw v.f), .int .u32 (vw v.g), .int .u32 (vw v.h)] 151))
 replace K1 := Lib.hid ((K1.out.alloc (.cells (cw kTab) 183)).alloc (.cells #[.int .u32 (vw v.a), .int .u32 (vw v.b), .int .u32 (vw v.c), .int .u32 (vw v.d), .int .u32 (vw v.e), .int .u32 (vw v.f), .int .u32 (vw v.g), .int .u32 (vw v.h)] 151))
 replace K2 := Lib.hid ((K2.out.alloc (.cells (cw kTab) 183)).alloc (.cells #[.int .u32 (vw v.a), .int .u32 (vw v.b), .int .u32 (vw v.c), .int .u32 (vw v.d), .int .u32 (vw v.e), .int .u32 (vw v.f), .int .u32 (vw v.g), .int .u32 (vw v.h)] 151))
 have HB3 : Below w.heap.size w ((w2.alloc (.cells (cw kTab) 183)).alloc (.cells #[.int .u32 (vw v.a), .int .u32 (vw v.b), .int .u32 (vw v.c), .int .u32 (vw v.d), .int .u32 (vw v.e), .int .u32 (vw v.f), .int .u32 (vw v.g), .int .u32 (vw v.h)] 151)) := bel
 clear HB HZw1 HZw2 k0 k1 k2 f0 f1 f2 l0 l1 l2 m0 m1 m2
 generalize ((w2.alloc (.cells (cw kTab) 183)).alloc (.cells #[.int .u32 (vw v.a), .int .u32 (vw v.b), .int .u32 (vw v.c), .int .u32 (vw v.d), .int .u32 (vw v.e), .int .u32 (vw v.f), .int .u32 (vw v.g), .int .u32 (vw v.h)] 151)) = W at K0 K1 K2 K3 K4 HB3 ⊢
 obtain ⟨b2, hb2⟩ : ∃ b2, w1.heap.size = b2 := ⟨_, rfl⟩
 obtain ⟨b3, hb3⟩ : ∃ b3, w2.heap.size = b3 := ⟨_, rfl⟩
 rw [hb2] at hz1 hz2 K2 ⊢
 rw [hb3] at hz2 K3 K4 ⊢
 clear hb2 hb3
 have HR := fun k hk => roundW_succ v (moreW l 48) hML k hk
 have hg := fun (i : Nat) (hi : i < 64) => cw_get (L := moreW l 48) (i := i) (by omega)
 have hgk := fun (i : Nat) (hi : i < 64) => cw_get (L := kTab) (i := i) hi
 generalize moreW l 48 = L at *
 go_loopw [8] (fun i wr => ∃ (k : Nat) (u : St), k ≤ 64 ∧ u = roundW v L k ∧ i = .int .i64 k ∧ Blk wr (b3 + 1) 151 (cS u) ∧ Blk wr b2 183 (cw L) ∧ Blk wr b3 183 (cw kTab) ∧ Blk wr w.heap.size 151 (cS v) ∧
   Blk wr (w.heap.size + 1) 151 #[.int .u32 0, .int .u32 0, .int .u32 0, .int .u32 0, .int .u32 0, .int .u32 0, .int .u32 0, .int .u32 0] ∧ Below w.heap.size w wr) (fun i _ => (64 - intOf i).toNat)
 case atStart => exact ⟨0, v, by omega, rfl, rfl, K4.out, K2.out, K3.out, K0.out, K1.out, HB3⟩
 case round =>
  clear K0 K1 K2 K3 K4 HB3
  obtain ⟨k, u, hk, hu, rfl, K4, K2, K3, K0, K1, HB⟩ := hrel
  replace K0 := Lib.hid K0
  replace K1 := Lib.hid K1
  replace K2 := Lib.hid K2
  replace K3 := Lib.hid K3
  unfold cS at K4
  replace K4 := Lib.hid K4
  by_cases hlt : k < 64
  ·have HS := HR k hlt
   rw [← hu] at HS
   have e2 := hg k hlt
   have e3 := hgk k hlt
   clear HR hg hgk hu hML
   generalize L.getD k 0 = y at *
   generalize kTab.getD k 0 = kk at *
   replace HS := Lib.hid HS
   (obtain ⟨k0, f0, l0, m0⟩ := K0.out.rl; obtain ⟨k1, f1, l1, m1⟩ := K1.out.rl; obtain ⟨k2, f2, l2, m2⟩ := K2.out.rl; obtain ⟨k3, f3, l3, m3⟩ := K3.out.rl; obtain ⟨k4, f4, l4, m4⟩ := K4.out.rl)
   go_wp2_with fail
   (refine wp_region_later (by kernel_rfl) (by kernel_rfl) ?_; (repeat (go_big_quiet_step ((go_at_call 180; exact lq (rturn_calls _ _ (by decide) _))))); refine wpQuiet_nil ?_; intro w' hB)
   have c1 := ch_eq u.e u.f u.g
   have c2 := maj_eq u.a u.b u.c
   replace c1 := Lib.hid c1
   replace c2 := Lib.hid c2
   (have HBn : Below w.heap.size w w' := Below.on hB bel; have N0 := Lib.hid (Blk.below (g := w.heap.size) (by have kk := K0.out; exact blJ) hB); (try simp only [List.setIfInBounds_toArray, List.set_cons_succ, List.set_cons_zero] at N0); have N1 := Lib.hid (Blk.below (g := w.heap.size + 1) (by have kk := K1.out; exact blJ) hB); (try simp only [List.setIfInBounds_toArray, List.set_cons_succ, List.set_cons_zero] at N1); have N2 := Lib.hid (Blk.below (g := b2) (by have kk := K2.out; exact blJ) hB); (try simp only [List.setIfInBounds_toArray, List.set_cons_succ, List.set_cons_zero] at N2); have N3 := Lib.hid (Blk.below (g := b3) (by have kk := K3.out; exact blJ) hB); (try simp only [List.setIfInBounds_toArray, List.set_cons_succ, List.set_cons_zero] at N3); have N4 := Lib.hid (Blk.below (g := b3 + 1) (by have kk := K4.out; exact blJ) hB); (try simp only [List.setIfInBounds_toArray, List.set_cons_succ, List.set_cons_zero] at N4); clear K0 k0 f0 l0 m0 K1 k1 f1 l1 m1 K2 k2 f2 l2 m2 K3 k3 f3 l3 m3 K4 k4 f4 l4 m4; (try clear HB); clear hB; have HB := HBn; clear HBn; have HZw' := HB.size; have K0 := N0; clear N0; obtain ⟨k0, f0, l0, m0⟩ := K0.out.rl; have K1 := N1; clear N1; obtain ⟨k1, f1, l1, m1⟩ := K1.out.rl; have K2 := N2; clear N2; obtain ⟨k2, f2, l2, m2⟩ := K2.out.rl; have K3 := N3; clear N3; obtain ⟨k3, f3, l3, m3⟩ := K3.out.rl; have K4 := N4; clear N4; obtain ⟨k4, f4, l4, m4⟩ := K4.out.rl)
   go_wp2_with fail
   (refine wp_region_later (by kernel_rfl) (by kernel_rfl) ?_; (repeat (go_big_quiet_step ((go_at_call 180; exact lq (rturn_calls _ _ (by decide) _))))); refine wpQuiet_nil ?_; intro w' hB)
   (have HBn : Below w.heap.size w w' := Below.on hB bel; have N0 := Lib.hid (Blk.below (g := w.heap.size) (by have kk := K0.out; exact blJ) hB); (try simp only [List.setIfInBounds_toArray, List.set_cons_succ, List.set_cons_zero] at N0); have N1 := Lib.hid (Blk.below (g := w.heap.size + 1) (by have kk := K1.out; exact blJ) hB); (try simp only [List.setIfInBounds_toArray, List.set_cons_succ, List.set_cons_zero] at N1); have N2 := Lib.hid (Blk.below (g := b2) (by have kk := K2.out; exact blJ) hB); (try simp only [List.setIfInBounds_toArray, List.set_cons_succ, List.set_cons_zero] at N2); have N3 := Lib.hid (Blk.below (g := b3) (by have kk := K3.out; exact blJ) hB); (try simp only [List.setIfInBounds_toArray, List.set_cons_succ, List.set_cons_zero] at N3); have N4 := Lib.hid (Blk.below (g := b3 + 1) (by have kk := K4.out; exact blJ) hB); (try simp only [List.setIfInBounds_toArray, List.set_cons_succ, List.set_cons_zero] at N4); clear K0 k0 f0 l0 m0 K1 k1 f1 l1 m1 K2 k2 f2 l2 m2 K3 k3 f3 l3 m3 K4 k4 f4 l4 m4; (try clear HB); clear hB; have HB := HBn; clear HBn; have HZw' := HB.size; have K0 := N0; clear N0; obtain ⟨k0, f0, l0, m0⟩ := K0.out.rl; have K1 := N1; clear N1; obtain ⟨k1, f1, l1, m1⟩ := K1.out.rl; have K2 := N2; clear N2; obtain ⟨k2, f2, l2, m2⟩ := K2.out.rl; have K3 := N3; clear N3; obtain ⟨k3, f3, l3, m3⟩ := K3.out.rl; have K4 := N4; clear N4; obtain ⟨k4, f4, l4, m4⟩ := K4.out.rl)
   go_wp2_with fail
   rw [c1.out, c2.out]
   go_roundw
   case rel => exact ⟨k + 1, rnd u kk y, by omega, HS.out.symm, by go_num, blk_put8 _ _ _ _ _ _ _ _ K4.out, blk_over8 (by omega) _ _ _ _ _ _ _ _ K2.out, blk_over8 (by omega) _ _ _ _ _ _ _ _ K3.out, blk_over8 (by omega) _ _ _ _ _ _ _ _ K0.out, blk_over8 (by omega) _ _ _ _ _ _ _ _ K1.out, below_put8 (by omega) _ _ _ _ _ _ _ _ HB⟩
   case measure => simp [intOf]; omega
  ·obtain rfl : k = 64 := by omega
   have HU := Lib.hid hu
   clear hu HR hg hgk K2 K3
   simp only [show ((64 : Nat) : Int) = 64 from rfl]
   unfold cS at K0
   replace K0 := Lib.hid K0.out
   go_wp2_with fail
   refine wp_loop_rounds 9 ?_
   rw [rounds_succ]
   (obtain ⟨k0, f0, l0, m0⟩ := K0.out.rl; obtain ⟨k4, f4, l4, m4⟩ := K4.out.rl)
   go_wp2_with fail
   (refine wp_region_later_tail 9 (by kernel_rfl) (by kernel_rfl) ?_; simp only [List.take_succ_cons, List.take_zero, List.drop_succ_cons, List.drop_zero]; (repeat (go_big_quiet_step (fail))); refine wpQuiet_nil ?_; intro w' hB)
   clear k0 f0 l0 m0 k4 f4 l4 m4
   replace K0 := Lib.hid (K0.out.below hB)
   replace K4 := Lib.hid (K4.out.below hB)
   replace K1 := Lib.hid (K1.out.below hB)
   replace HB := Below.on hB HB
   clear hB
   (obtain ⟨k0, f0, l0, m0⟩ := K0.out.rl)
   go_wp2_with fail
   clear k0 f0 l0 m0
   replace K0 := Lib.hid (K0.out.set_ 0 (.int .u32 (vw (v.a + u.a))))
   replace K4 := Lib.hid (K4.out.over2 (b := w.heap.size) (i := 0) (u := .int .u32 (vw (v.a + u.a))) (by omega))
   replace K1 := Lib.hid (K1.out.over2 (b := w.heap.size) (i := 0) (u := .int .u32 (vw (v.a + u.a))) (by omega))
   replace HB := HB.setCell (p := ⟨w.heap.size, 0, none⟩) (Nat.le_refl _) (.int .u32 (vw (v.a + u.a)))
   simp only [List.setIfInBounds_toArray, List.set_cons_succ, List.set_cons_zero] at K0
   generalize w'.setCell ⟨w.heap.size, 0, none⟩ (.int .u32 (vw (v.a + u.a))) = v0 at K0 K1 K4 HB ⊢
   rw [rounds_succ]
   (obtain ⟨k0, f0, l0, m0⟩ := K0.out.rl; obtain ⟨k4, f4, l4, m4⟩ := K4.out.rl)
   go_wp2_with fail
   (refine wp_region_later_tail 9 (by kernel_rfl) (by kernel_rfl) ?_; simp only [List.take_succ_cons, List.take_zero, List.drop_succ_cons, List.drop_zero]; (repeat (go_big_quiet_step (fail))); refine wpQuiet_nil ?_; intro w' hB)
   clear k0 f0 l0 m0 k4 f4 l4 m4
   replace K0 := Lib.hid (K0.out.below hB)
   replace K4 := Lib.hid (K4.out.below hB)
   replace K1 := Lib.hid (K1.out.below hB)
   replace HB := Below.on hB HB
   clear hB
   (obtain ⟨k0, f0, l0, m0⟩ := K0.out.rl)
   go_wp2_with fail
   clear k0 f0 l0 m0
   replace K0 := Lib.hid (K0.out.set_ 1 (.int .u32 (vw (v.b + u.b))))
   replace K4 := Lib.hid (K4.out.over2 (b := w.heap.size) (i := 1) (u := .int .u32 (vw (v.b + u.b))) (by omega))
   replace K1 := Lib.hid (K1.out.over2 (b := w.heap.size) (i := 1) (u := .int .u32 (vw (v.b + u.b))) (by omega))
   replace HB := HB.setCell (p := ⟨w.heap.size, 1, none⟩) (Nat.le_refl _) (.int .u32 (vw (v.b + u.b)))
   simp only [List.setIfInBounds_toArray, List.set_cons_succ, List.set_cons_zero] at K0
   generalize w'.setCell ⟨w.heap.size, 1, none⟩ (.int .u32 (vw (v.b + u.b))) = v1 at K0 K1 K4 HB ⊢
   rw [rounds_succ]
   (obtain ⟨k0, f0, l0, m0⟩ := K0.out.rl; obtain ⟨k4, f4, l4, m4⟩ := K4.out.rl)
   go_wp2_with fail
   (refine wp_region_later_tail 9 (by kernel_rfl) (by kernel_rfl) ?_; simp only [List.take_succ_cons, List.take_zero, List.drop_succ_cons, List.drop_zero]; (repeat (go_big_quiet_step (fail))); refine wpQuiet_nil ?_; intro w' hB)
   clear k0 f0 l0 m0 k4 f4 l4 m4
   replace K0 := Lib.hid (K0.out.below hB)
   replace K4 := Lib.hid (K4.out.below hB)
   replace K1 := Lib.hid (K1.out.below hB)
   replace HB := Below.on hB HB
   clear hB
   (obtain ⟨k0, f0, l0, m0⟩ := K0.out.rl)
   go_wp2_with fail
   clear k0 f0 l0 m0
   replace K0 := Lib.hid (K0.out.set_ 2 (.int .u32 (vw (v.c + u.c))))
   replace K4 := Lib.hid (K4.out.over2 (b := w.heap.size) (i := 2) (u := .int .u32 (vw (v.c + u.c))) (by omega))
   replace K1 := Lib.hid (K1.out.over2 (b := w.heap.size) (i := 2) (u := .int .u32 (vw (v.c + u.c))) (by omega))
   replace HB := HB.setCell (p := ⟨w.heap.size, 2, none⟩) (Nat.le_refl _) (.int .u32 (vw (v.c + u.c)))
   simp only [List.setIfInBounds_toArray, List.set_cons_succ, List.set_cons_zero] at K0
   generalize w'.setCell ⟨w.heap.size, 2, none⟩ (.int .u32 (vw (v.c + u.c))) = v2 at K0 K1 K4 HB ⊢
   rw [rounds_succ]
   (obtain ⟨k0, f0, l0, m0⟩ := K0.out.rl; obtain ⟨k4, f4, l4, m4⟩ := K4.out.rl)
   go_wp2_with fail
   (refine wp_region_later_tail 9 (by kernel_rfl) (by kernel_rfl) ?_; simp only [List.take_succ_cons, List.take_zero, List.drop_succ_cons, List.drop_zero]; (repeat (go_big_quiet_step (fail))); refine wpQuiet_nil ?_; intro w' hB)
   clear k0 f0 l0 m0 k4 f4 l4 m4
   replace K0 := Lib.hid (K0.out.below hB)
   replace K4 := Lib.hid (K4.out.below hB)
   replace K1 := Lib.hid (K1.out.below hB)
   replace HB := Below.on hB HB
   clear hB
   (obtain ⟨k0, f0, l0, m0⟩ := K0.out.rl)
   go_wp2_with fail
   clear k0 f0 l0 m0
   replace K0 := Lib.hid (K0.out.set_ 3 (.int .u32 (vw (v.d + u.d))))
   replace K4 := Lib.hid (K4.out.over2 (b := w.heap.size) (i := 3) (u := .int .u32 (vw (v.d + u.d))) (by omega))
   replace K1 := Lib.hid (K1.out.over2 (b := w.heap.size) (i := 3) (u := .int .u32 (vw (v.d + u.d))) (by omega))
   replace HB := HB.setCell (p := ⟨w.heap.size, 3, none⟩) (Nat.le_refl _) (.int .u32 (vw (v.d + u.d)))
   simp only [List.setIfInBounds_toArray, List.set_cons_succ, List.set_cons_zero] at K0
   generalize w'.setCell ⟨w.heap.size, 3, none⟩ (.int .u32 (vw (v.d + u.d))) = v3 at K0 K1 K4 HB ⊢
   rw [rounds_succ]
   (obtain ⟨k0, f0, l0, m0⟩ := K0.out.rl; obtain ⟨k4, f4, l4, m4⟩ := K4.out.rl)
   go_wp2_with fail
   (refine wp_region_later_tail 9 (by kernel_rfl) (by kernel_rfl) ?_; simp only [List.take_succ_cons, List.take_zero, List.drop_succ_cons, List.drop_zero]; (repeat (go_big_quiet_step (fail))); refine wpQuiet_nil ?_; intro w' hB)
   clear k0 f0 l0 m0 k4 f4 l4 m4
   replace K0 := Lib.hid (K0.out.below hB)
   replace K4 := Lib.hid (K4.out.below hB)
   replace K1 := Lib.hid (K1.out.below hB)
   replace HB := Below.on hB HB
   clear hB
   (obtain ⟨k0, f0, l0, m0⟩ := K0.out.rl)
   go_wp2_with fail
   clear k0 f0 l0 m0
   replace K0 := Lib.hid (K0.out.set_ 4 (.int .u32 (vw (v.e + u.e))))
   replace K4 := Lib.hid (K4.out.over2 (b := w.heap.size) (i := 4) (u := .int .u32 (vw (v.e + u.e))) (by omega))
   replace K1 := Lib.hid (K1.out.over2 (b := w.heap.size) (i := 4) (u := .int .u32 (vw (v.e + u.e))) (by omega))
   replace HB := HB.setCell (p := ⟨w.heap.size, 4, none⟩) (Nat.le_refl _) (.int .u32 (vw (v.e + u.e)))
   simp only [List.setIfInBounds_toArray, List.set_cons_succ, List.set_cons_zero] at K0
   generalize w'.setCell ⟨w.heap.size, 4, none⟩ (.int .u32 (vw (v.e + u.e))) = v4 at K0 K1 K4 HB ⊢
   rw [rounds_succ]
   (obtain ⟨k0, f0, l0, m0⟩ := K0.out.rl; obtain ⟨k4, f4, l4, m4⟩ := K4.out.rl)
   go_wp2_with fail
   (refine wp_region_later_tail 9 (by kernel_rfl) (by kernel_rfl) ?_; simp only [List.take_succ_cons, List.take_zero, List.drop_succ_cons, List.drop_zero]; (repeat (go_big_quiet_step (fail))); refine wpQuiet_nil ?_; intro w' hB)
   clear k0 f0 l0 m0 k4 f4 l4 m4
   replace K0 := Lib.hid (K0.out.below hB)
   replace K4 := Lib.hid (K4.out.below hB)
   replace K1 := Lib.hid (K1.out.below hB)
   replace HB := Below.on hB HB
   clear hB
   (obtain ⟨k0, f0, l0, m0⟩ := K0.out.rl)
   go_wp2_with fail
   clear k0 f0 l0 m0
   replace K0 := Lib.hid (K0.out.set_ 5 (.int .u32 (vw (v.f + u.f))))
   replace K4 := Lib.hid (K4.out.over2 (b := w.heap.size) (i := 5) (u := .int .u32 (vw (v.f + u.f))) (by omega))
   replace K1 := Lib.hid (K1.out.over2 (b := w.heap.size) (i := 5) (u := .int .u32 (vw (v.f + u.f))) (by omega))
   replace HB := HB.setCell (p := ⟨w.heap.size, 5, none⟩) (Nat.le_refl _) (.int .u32 (vw (v.f + u.f)))
   simp only [List.setIfInBounds_toArray, List.set_cons_succ, List.set_cons_zero] at K0
   generalize w'.setCell ⟨w.heap.size, 5, none⟩ (.int .u32 (vw (v.f + u.f))) = v5 at K0 K1 K4 HB ⊢
   rw [rounds_succ]
   (obtain ⟨k0, f0, l0, m0⟩ := K0.out.rl; obtain ⟨k4, f4, l4, m4⟩ := K4.out.rl)
   go_wp2_with fail
   (refine wp_region_later_tail 9 (by kernel_rfl) (by kernel_rfl) ?_; simp only [List.take_succ_cons, List.take_zero, List.drop_succ_cons, List.drop_zero]; (repeat (go_big_quiet_step (fail))); refine wpQuiet_nil ?_; intro w' hB)
   clear k0 f0 l0 m0 k4 f4 l4 m4
   replace K0 := Lib.hid (K0.out.below hB)
   replace K4 := Lib.hid (K4.out.below hB)
   replace K1 := Lib.hid (K1.out.below hB)
   replace HB := Below.on hB HB
   clear hB
   (obtain ⟨k0, f0, l0, m0⟩ := K0.out.rl)
   go_wp2_with fail
   clear k0 f0 l0 m0
   replace K0 := Lib.hid (K0.out.set_ 6 (.int .u32 (vw (v.g + u.g))))
   replace K4 := Lib.hid (K4.out.over2 (b := w.heap.size) (i := 6) (u := .int .u32 (vw (v.g + u.g))) (by omega))
   replace K1 := Lib.hid (K1.out.over2 (b := w.heap.size) (i := 6) (u := .int .u32 (vw (v.g + u.g))) (by omega))
   replace HB := HB.setCell (p := ⟨w.heap.size, 6, none⟩) (Nat.le_refl _) (.int .u32 (vw (v.g + u.g)))
   simp only [List.setIfInBounds_toArray, List.set_cons_succ, List.set_cons_zero] at K0
   generalize w'.setCell ⟨w.heap.size, 6, none⟩ (.int .u32 (vw (v.g + u.g))) = v6 at K0 K1 K4 HB ⊢
   rw [rounds_succ]
   (obtain ⟨k0, f0, l0, m0⟩ := K0.out.rl; obtain ⟨k4, f4, l4, m4⟩ := K4.out.rl)
   go_wp2_with fail
   (refine wp_region_later_tail 9 (by kernel_rfl) (by kernel_rfl) ?_; simp only [List.take_succ_cons, List.take_zero, List.drop_succ_cons, List.drop_zero]; (repeat (go_big_quiet_step (fail))); refine wpQuiet_nil ?_; intro w' hB)
   clear k0 f0 l0 m0 k4 f4 l4 m4
   replace K0 := Lib.hid (K0.out.below hB)
   replace K4 := Lib.hid (K4.out.below hB)
   replace K1 := Lib.hid (K1.out.below hB)
   replace HB := Below.on hB HB
   clear hB
   (obtain ⟨k0, f0, l0, m0⟩ := K0.out.rl)
   go_wp2_with fail
   clear k0 f0 l0 m0
   replace K0 := Lib.hid (K0.out.set_ 7 (.int .u32 (vw (v.h + u.h))))
   replace K4 := Lib.hid (K4.out.over2 (b := w.heap.size) (i := 7) (u := .int .u32 (vw (v.h + u.h))) (by omega))
   replace K1 := Lib.hid (K1.out.over2 (b := w.heap.size) (i := 7) (u := .int .u32 (vw (v.h + u.h))) (by omega))
   replace HB := HB.setCell (p := ⟨w.heap.size, 7, none⟩) (Nat.le_refl _) (.int .u32 (vw (v.h + u.h)))
   simp only [List.setIfInBounds_toArray, List.set_cons_succ, List.set_cons_zero] at K0
   generalize w'.setCell ⟨w.heap.size, 7, none⟩ (.int .u32 (vw (v.h + u.h))) = v7 at K0 K1 K4 HB ⊢
   rw [rounds_succ]
   (obtain ⟨k0, f0, l0, m0⟩ := K0.out.rl; obtain ⟨k1, f1, l1, m1⟩ := K1.out.rl)
   go_wp2_with fail
   refine bodyPost_ret (results_cell_row rfl _ _ (w.heap.size + 1) _ _ _ _ rfl (blk_put8 _ _ _ _ _ _ _ _ K1.out) Tryz.underlying151 rfl (by kernel_rfl)) rfl ⟨by rw [← HU.out]; rfl, below_put8 (by omega) _ _ _ _ _ _ _ _ HB⟩
end Go.Proofs.YtegaaccioppfjaaGreatDoor
end
section
namespace Go.Proofs.YtegaaccioppfjaaGreatDoor
open BigFrame Go.RowKit Go.Phx Go.Shelf
attribute [local go_sem] Oper.semAt_some

theorem infoU8 : (Tryz.prog.info? 5).map (fun i => (i.zero, i.size, i.bytes)) = some (some (.int .u8 0), 1, 1) := by kernel_rfl
/-- a call hands back bytes of its own -/
def Gave (w : World) (l : List UInt8) (e : Ending) (w' : World) : Prop := ∃ g cap, e = .returned (.slice (some ⟨g, 0, none⟩) l.length cap) ∧ OwnX w' w.heap.size 5 (.slice (some ⟨g, 0, none⟩) l.length cap) l.length (l.map bv) ∧ Below w.heap.size w w'
/-- bytes 0 behind a text and a byte 128, so many -/
def pad0 (l : List UInt8) (k : Nat) : List UInt8 := l ++ 128 :: List.replicate k 0
theorem pad0_len (l : List UInt8) (k : Nat) : (pad0 l k).length = l.length + 1 + k := by simp [pad0]; omega
theorem pad0_succ (l : List UInt8) (k : Nat) : pad0 l (k + 1) = pad0 l k ++ [0] := by unfold pad0; rw [List.replicate_succ']; simp

set_option maxRecDepth 100000 in
set_option maxHeartbeats 2000000 in
theorem padded_calls (l : List UInt8) (hl : l.length ≤ 100000000000000) (w : World) : Calls Tryz.prog 138 #[.string (bs l)] w (Gave w (padS l)) := by
 obtain ⟨i0, hi, hz0, hz1, hz2⟩ := info_parts infoU8
 go_enter Tryz.func138, Tryz.ntmps138
 go_wp2_with (at_builtin; refine wpList_append_X rfl _ _ 108 rfl w.heap.size 5 i0 (.int .u8 0) Tryz.underlying108 hi hz0 hz1 hz2 rfl _ _ _ rfl ((txt_own w l _ (Nat.le_refl _) (by omega)).alloc _) ⟨_, 0, none⟩ 1 1 [.int .u8 128] rfl rfl (news1 _ _ _) (by simp [Value.oneCell']) (by omega) (by simp [txtCells]; omega) ?_)
 intro v1 w1 hown hg
 have H1 : HoldsX w w1 v1 (pad0 l 0) := HoldsX.step (q := l) 128 ⟨txt_own w l _ (Nat.le_refl _) (by omega), txt_below _ _⟩ rfl hown hg
 clear hown hg
 obtain ⟨c, hc⟩ : ∃ c, (119 - l.length % 64) % 64 = c := ⟨_, rfl⟩
 have hc1 : c < 64 := by omega
 have hcm : ∀ k, k ≤ c → ((l.length + 1 + k) % 64 = 56 ↔ k = c) := fun k hk => by omega
 have HC := Lib.hid hc
 have HCM := Lib.hid hcm
 clear hc hcm
 go_wp2_with fail
 go_loopw [3] (fun v wr => ∃ k : Nat, k ≤ c ∧ HoldsX w wr v (pad0 l k)) (fun v _ => match v with | .slice _ n _ => l.length + 65 - n | _ => 0)
 case atStart => exact ⟨0, by omega, H1⟩
 case round =>
  clear H1
  obtain ⟨k, hk, H⟩ := hrel
  obtain ⟨g, cap, rfl, hbg, hgl, hnc, hcm, hcell⟩ := H.own.form
  have hlen := pad0_len l k
  have hiff := HCM.out k hk
  rw [← hlen] at hiff
  by_cases hlt : k < c
  ·have t1 : (((pad0 l k).length : Int) % 64 == 56) = false := by rw [beq_eq_false_iff_ne]; omega
   have t2 : (((pad0 l k).length : Int) % 64 != 56) = true := by rw [bne_iff_ne]; omega
   have hml : (pad0 l k).length ≤ 100000000000100 := by omega
   have HLEN := Lib.hid hlen
   clear hlen hiff hcell hcm hnc
   go_wp2_with (at_builtin; refine wpList_append_X rfl _ _ 108 rfl w.heap.size 5 i0 (.int .u8 0) Tryz.underlying108 hi hz0 hz1 hz2 rfl _ _ _ rfl (H.own.alloc _) ⟨_, 0, none⟩ 1 1 [.int .u8 0] rfl rfl (news1 _ _ _) (by simp [Value.oneCell']) (by omega) (by have := H.below.size; simp; omega) ?_)
   intro v2 w2 hown hg
   have H2 := H.step 0 rfl hown hg
   rw [← pad0_succ] at H2
   have hl2 := pad0_len l (k + 1)
   have hl1 := HLEN.out
   have em : v2 = .slice (some ⟨(H2.own.form).choose, 0, none⟩) (pad0 l (k + 1)).length (H2.own.form).choose_spec.choose := (H2.own.form).choose_spec.choose_spec.1
   clear hown hg
   replace H2 := Lib.hid H2
   go_wp2_with fail
   go_roundw
   case rel => exact ⟨k + 1, by omega, H2.out⟩
   case measure => rw [em]; simp only; omega
  ·obtain rfl : k = c := by omega
   have t1 : (((pad0 l k).length : Int) % 64 == 56) = true := by rw [beq_iff_eq]; omega
   have t2 : (((pad0 l k).length : Int) % 64 != 56) = false := by simp; omega
   have hml : (pad0 l k).length ≤ 100000000000100 := by omega
   clear hlen hiff hcell hcm hnc HCM
   have hpad : pad0 l k ++ (List.range 8).map (fun i => UInt8.ofNat (8 * l.length / 2 ^ (56 - 8 * i))) = padS l := by
    rw [← HC.out]
    unfold pad0 padS tail64
    simp
   have HPAD := Lib.hid hpad
   clear hpad HC
   go_wp2_with fail
   go_loopw [3, 5] (fun v i wr => ∃ j : Nat, j ≤ 8 ∧ i = .int .i64 (7 - j) ∧ HoldsX w wr v (pad0 l k ++ (List.range j).map fun i => UInt8.ofNat (8 * l.length / 2 ^ (56 - 8 * i)))) (fun _ i _ => (intOf i + 1).toNat)
   case atStart => exact ⟨0, by omega, rfl, by simpa using H⟩
   case round =>
    clear H
    obtain ⟨j, hj, rfl, H⟩ := hrel
    obtain ⟨q, hq⟩ : ∃ q, (pad0 l k ++ (List.range j).map fun i => UInt8.ofNat (8 * l.length / 2 ^ (56 - 8 * i))) = q := ⟨_, rfl⟩
    have hql : q.length ≤ 100000000000200 := by rw [← hq]; simp; omega
    rw [hq] at H
    have HQ := Lib.hid hq
    clear hq
    obtain ⟨g2, cap2, rfl, hbg2, hgl2, hnc2, hcm2, hcell2⟩ := H.own.form
    by_cases hlt8 : j < 8
    ·clear hcell2 hcm2 hnc2
     have hx : 8 * (l.length : Int) / 2 ^ (8 * (7 - j)) % 256 = ((UInt8.ofNat (8 * l.length / 2 ^ (56 - 8 * j))).toNat : Int) := by
      rw [show 8 * (7 - j) = 56 - 8 * j by omega]
      have e : (8 * (l.length : Int) / 2 ^ (56 - 8 * j)) = ((8 * l.length / 2 ^ (56 - 8 * j) : Nat) : Int) := by simp
      rw [e]
      generalize 8 * l.length / 2 ^ (56 - 8 * j) = m
      simp
     replace hx := Lib.hid hx
     go_wp2_with (at_builtin; refine wpList_append_X rfl _ _ 108 rfl w.heap.size 5 i0 (.int .u8 0) Tryz.underlying108 hi hz0 hz1 hz2 rfl _ _ _ rfl (H.own.alloc _) ⟨_, 0, none⟩ 1 1 [.int .u8 (8 * (l.length : Int) / 2 ^ (8 * (7 - j)) % 256)] rfl rfl (news1 _ _ _) (by simp [Value.oneCell']) (by omega) (by have := H.below.size; simp; omega) ?_)
     intro v2 w2 hown hg
     have H2 := H.step _ hx.out hown hg
     rw [← HQ.out, List.append_assoc, show (List.range j).map (fun i => UInt8.ofNat (8 * l.length / 2 ^ (56 - 8 * i))) ++ [UInt8.ofNat (8 * l.length / 2 ^ (56 - 8 * j))] = (List.range (j + 1)).map (fun i => UInt8.ofNat (8 * l.length / 2 ^ (56 - 8 * i))) from by rw [List.range_succ, List.map_append]; rfl] at H2
     clear hown hg
     replace H2 := Lib.hid H2
     go_wp2_with fail
     go_roundw
     case rel => exact ⟨j + 1, by omega, by congr 1; omega, H2.out⟩
     case measure => simp [intOf]; omega
    ·obtain rfl : j = 8 := by omega
     rw [HPAD.out] at HQ
     obtain rfl := HQ.out
     simp only [show (7 : Int) - ((8 : Nat) : Int) = -1 from rfl]
     go_wp2_with fail
     go_ret
     exact ⟨g2, cap2, rfl, H.own, H.below⟩
end Go.Proofs.YtegaaccioppfjaaGreatDoor
end
section
namespace Go.Proofs.YtegaaccioppfjaaGreatDoor
open BigFrame Go.RowKit Go.Phx Go.Shelf
attribute [local go_sem] Oper.semAt_some

theorem rtake_lit (v : St) (g o c : Nat) (l : List UInt8) (hl : l.length = 64) (w : World) (hb : BytesAt w g o l) (ho : o + 64 ≤ 9223372036854775807) (hc : 64 ≤ c) :
  Calls Tryz.prog 139 #[.agg #[.int .u32 (vw v.a), .int .u32 (vw v.b), .int .u32 (vw v.c), .int .u32 (vw v.d), .int .u32 (vw v.e), .int .u32 (vw v.f), .int .u32 (vw v.g), .int .u32 (vw v.h)], .slice (some ⟨g, o, none⟩) 64 c] w
   (Ret w (.agg #[.int .u32 (vw (takeB v l).a), .int .u32 (vw (takeB v l).b), .int .u32 (vw (takeB v l).c), .int .u32 (vw (takeB v l).d), .int .u32 (vw (takeB v l).e), .int .u32 (vw (takeB v l).f), .int .u32 (vw (takeB v l).g), .int .u32 (vw (takeB v l).h)])) :=
 rtake_calls v g o c l hl w hb ho hc
theorem ownX_bytes {w : World} {base : Nat} {g cap : Nat} {p : List UInt8} (h : OwnX w base 5 (.slice (some ⟨g, 0, none⟩) p.length cap) p.length (p.map bv)) (o : Nat) (n : Nat) (hn : o + n ≤ p.length) : BytesAt w g o ((p.drop o).take n) := by
 obtain ⟨g', cap', hv, _, hlt, _, _, hc⟩ := h.form
 injection hv with hv
 injection hv with hv
 injection hv with hv
 subst hv
 refine ⟨hlt, fun j hj => ?_⟩
 have hj' : j < n := by simp at hj; omega
 rw [hc (o + j) (bv (p.getD (o + j) 0)) (by rw [List.getElem?_map, List.getElem?_eq_getElem (by omega), List.getD, List.getElem?_eq_getElem (by omega)]; rfl), vw_bw]
 unfold bv
 congr 4
 rw [List.getD, List.getD, List.getElem?_take_of_lt hj', List.getElem?_drop]

theorem grown_put8 (w : World) (b : Nat) (x0 x1 x2 x3 x4 x5 x6 x7 : Value) : w.grownBy ((((((((w.setCell ⟨b, 0, none⟩ x0).setCell ⟨b, 1, none⟩ x1).setCell ⟨b, 2, none⟩ x2).setCell ⟨b, 3, none⟩ x3).setCell ⟨b, 4, none⟩ x4).setCell ⟨b, 5, none⟩ x5).setCell ⟨b, 6, none⟩ x6).setCell ⟨b, 7, none⟩ x7) (some b) :=
 grown_set (grown_set (grown_set (grown_set (grown_set (grown_set (grown_set (grown_set (World.grownBy.refl w _))))))))
theorem news4 (W : World) (t : TypeId) (a b c d : Value) : ∀ j u, [a, b, c, d][j]? = some u → (W.alloc (.cells #[a, b, c, d] t)).drew.cell? ((⟨W.heap.size, 0, none⟩ : Addr).add j) = some u := by
 intro j u hu
 have hK := (Blk.new0 W t #[a, b, c, d]).drew
 rw [Addr.add_mid, hK.cell, Nat.zero_add]
 simpa using hu
theorem bytesW_bv (x : Wd) : (bytesW x).map bv = [.int .u8 (IntKind.u8.wrap (vw x / 16777216)), .int .u8 (IntKind.u8.wrap (vw x / 65536)), .int .u8 (IntKind.u8.wrap (vw x / 256)), .int .u8 (IntKind.u8.wrap (vw x))] := by
 have e : ∀ m : Nat, ((UInt8.ofNat m).toNat : Int) = IntKind.u8.wrap (m : Int) := fun m => by
  rw [IntKind.wrap_u8']
  simp
 unfold bytesW bv vw
 simp only [List.map_cons, List.map_nil, e]
 rfl
theorem words_all (v : St) : ((wS v).take 8).flatMap bytesW = v.bytes := rfl
theorem cS_lit (v : St) : #[.int .u32 (vw v.a), .int .u32 (vw v.b), .int .u32 (vw v.c), .int .u32 (vw v.d), .int .u32 (vw v.e), .int .u32 (vw v.f), .int .u32 (vw v.g), .int .u32 (vw v.h)] = cS v := rfl
set_option maxRecDepth 100000 in
set_option maxHeartbeats 4000000 in
theorem rsum_calls (l : List UInt8) (hl : l.length ≤ 100000000000000) (w : World) : Calls Tryz.prog 90 #[.string (bs l)] w (Ret w (.string (bs (sha l)))) := by
 obtain ⟨i0, hi, hz0, hz1, hz2⟩ := info_parts infoU8
 go_enter Tryz.func90, Tryz.ntmps90
 go_wp2_with fail
 refine (padded_calls l hl _).mono ?_
 rintro e w1 ⟨g, cap, rfl, hown, hB⟩
 have hgb : w.heap.size + 1 ≤ g := by
  obtain ⟨g', cap', hv, hb, _⟩ := hown.form
  injection hv with hv
  injection hv with hv
  injection hv with hv
  subst hv
  simpa using hb
 have hnc : (padS l).length ≤ cap := by
  obtain ⟨g', cap', hv, _, _, hn, _⟩ := hown.form
  injection hv with _ _ hv
  omega
 have hpl := padS_len l
 have hpm : (padS l).length ≤ 100000000000200 := by unfold padS tail64; simp; omega
 have TA := Lib.hid (takes_all l)
 obtain ⟨p, hp⟩ : ∃ p, padS l = p := ⟨_, rfl⟩
 rw [hp] at hown hnc hpl hpm TA ⊢
 clear hp
 have hown1 : OwnX w1 (w.heap.size + 1) 5 (.slice (some ⟨g, 0, none⟩) p.length cap) p.length (p.map bv) := by simpa using hown
 have OW := Lib.hid hown1
 clear hown hown1
 (have HBn : Below w.heap.size w w1 := Below.on hB bel; have N0 := Lib.hid (Blk.below (g := w.heap.size) blJ hB); (try simp only [List.setIfInBounds_toArray, List.set_cons_succ, List.set_cons_zero] at N0); (try clear HB); clear hB; have HB := HBn; clear HBn; have HZw1 := HB.size; have K0 := N0; clear N0; obtain ⟨k0, f0, l0, m0⟩ := K0.out.rl)
 go_wp2_with fail
 go_loopw [5] (fun i wr => ∃ m : Nat, 64 * m ≤ p.length ∧ i = .int .i64 ((64 * m : Nat) : Int) ∧ Blk wr w.heap.size 151 (cS (takes (chunks m p))) ∧ OwnX wr (w.heap.size + 1) 5 (.slice (some ⟨g, 0, none⟩) p.length cap) p.length (p.map bv) ∧ Below w.heap.size w wr)
  (fun i _ => (p.length - intOf i).toNat)
 case atStart => exact ⟨0, by omega, rfl, K0.out, OW.out, HB⟩
 case round =>
  clear K0 k0 f0 l0 m0 OW HB HZw1
  obtain ⟨m, hm, rfl, K0, OW, HB⟩ := hrel
  have HBY := fun h => ownX_bytes OW (64 * m) 64 h
  have HS := Lib.hid (takes_snoc (chunks m p) ((p.drop (64 * m)).take 64))
  rw [← chunks_succ] at HS
  obtain ⟨k, hk⟩ : ∃ k, 64 * m = k := ⟨_, rfl⟩
  rw [hk] at HBY hm HS ⊢
  have HK := Lib.hid hk
  by_cases hlt : k < p.length
  ·have hk64 : k + 64 ≤ p.length := by omega
   have hby := Lib.hid (HBY hk64)
   have hyl : ((p.drop k).take 64).length = 64 := by simp; omega
   clear hk HBY
   generalize takes (chunks m p) = V at *
   generalize (p.drop k).take 64 = y at *
   unfold cS at K0
   replace K0 := Lib.hid K0
   replace OW := Lib.hid OW
   have HYL := Lib.hid hyl
   clear hyl
   (obtain ⟨k0, f0, l0, m0⟩ := K0.out.rl)
   have e1 : IntKind.i64.wrap ((k : Int) + 64) = (k : Int) + 64 := IntWalk.i64_in _ (by omega)
   go_wp2_with fail
   (refine wp_region_later_tail 7 (by kernel_rfl) (by kernel_rfl) ?_; simp only [List.take_succ_cons, List.take_zero, List.drop_succ_cons, List.drop_zero]; (repeat (go_big_quiet_step ((go_at_call 139; exact lq (rtake_lit V g k _ y HYL.out _ (hby.out.from (Later.below _) hby.out.1 (Later.below _).size) (by omega) (by omega)))))); refine wpQuiet_nil ?_; intro w' hB)
   clear k0 f0 l0 m0
   replace K0 := Lib.hid (K0.out.below hB)
   replace OW := Lib.hid (OW.out.below hB)
   replace HB := Below.on hB HB
   clear hB e1
   (obtain ⟨k0, f0, l0, m0⟩ := K0.out.rl)
   go_wp2_with fail
   have hK := HK.out
   go_roundw
   case rel => exact ⟨m + 1, by omega, by congr 1; omega, by rw [HS.out, ← cS_lit]; exact blk_put8 _ _ _ _ _ _ _ _ K0.out, OW.out.kept (grown_put8 w' w.heap.size _ _ _ _ _ _ _ _) (by simp [Value.ownBlock]; omega), below_put8 (Nat.le_refl _) _ _ _ _ _ _ _ _ HB⟩
   case measure => simp [intOf]; omega
  ·have hmT : m = p.length / 64 := by omega
   rw [hmT] at K0
   obtain ⟨V, hV⟩ : ∃ V, takes (chunks (p.length / 64) p) = V := ⟨_, rfl⟩
   rw [hV] at K0 TA
   clear hV HS HBY OW hk HK hmT
   rw [cS_words] at K0
   replace K0 := Lib.hid K0
   go_wp2_with fail
   go_loopw [6, 7] (fun v i wr => ∃ k : Nat, k ≤ 8 ∧ i = .int .i64 k ∧ wr.ownsRow (w.heap.size + 1) 5 1 v (4 * k) ((((wS V).take k).flatMap bytesW).map bv) ∧ Blk wr w.heap.size 151 (cw (wS V)) ∧ Below w.heap.size w wr) (fun _ i _ => (8 - intOf i).toNat)
   case atStart => exact ⟨0, by omega, rfl, World.ownsRow_nil _ _ _ _, K0.out, HB⟩
   case round =>
    clear K0 HB
    obtain ⟨k, hk, rfl, OWN, K0, HB⟩ := hrel
    by_cases hlt : k < 8
    ·have g0 := cw_get (L := wS V) (i := k) (by simp [wS]; omega)
     have hq : ((wS V).take (k + 1)).flatMap bytesW = ((wS V).take k).flatMap bytesW ++ bytesW ((wS V).getD k 0) := by
      rw [List.take_add_one, List.getElem?_eq_getElem (show k < (wS V).length by simp [wS]; omega), List.flatMap_append, List.getD, List.getElem?_eq_getElem (show k < (wS V).length by simp [wS]; omega)]
      simp
     have HQ := Lib.hid hq
     clear hq
     generalize ((wS V).take k).flatMap bytesW = q at *
     generalize (wS V).getD k 0 = x at *
     have v1 := vw_nonneg x
     replace OWN := Lib.hid OWN
     replace K0 := Lib.hid K0
     (obtain ⟨k0, f0, l0, m0⟩ := K0.out.rl)
     go_wp2_with fail
     have hc0 := (k0 k).trans g0
     have hne : some w.heap.size ≠ u6.ownBlock := (fun e => by have := (OWN.out.lt _ e.symm).1; omega)
     go_region_held3 (fun w' => w'.cell? ⟨w.heap.size, k, none⟩ = some (.int .u32 (vw x))) (first | go_keep | exact (World.cell?_of_block (a := ⟨w.heap.size, k, none⟩) (hgrow2.block _ (by simp; omega) hne)).trans (by simp (maxDischargeDepth := 9) [go_sem, *])) ((refine step_append_lies _ (by rfl) _ _ _ (by rfl) (w.heap.size + 1) 5 i0 (.int .u8 0) 1 1 Tryz.underlying108 hi hz0 hz1 hz2 (by rfl) (by omega) _ (4 * k) (q.map bv) (by rfl) (OWN.out.alloc _).drew ⟨_, 0, none⟩ 4 4 _ (by rfl) (by rfl) (news4 _ _ _ _ _ _) (by simp [Value.oneCell']) (by omega) (by unfold maxLen; omega) (by omega) (by have := HB.size; simp; omega) (wr.heap.size + 1) (by simp) ?_; intro g2 cap2 w2 hown2 hgrow2 hat2 hlt2))
     have hown3 := hown2
     rw [← bytesW_bv, ← List.map_append, ← HQ.out] at hown3
     have K1 := ((K0.out.alloc (.cells #[.int .u8 (IntKind.u8.wrap (vw x / 16777216)), .int .u8 (IntKind.u8.wrap (vw x / 65536)), .int .u8 (IntKind.u8.wrap (vw x / 256)), .int .u8 (IntKind.u8.wrap (vw x))] 5)).drew).grown hgrow2 hne
     have HB2 := ((HB.alloc HB.size (.cells #[.int .u8 (IntKind.u8.wrap (vw x / 16777216)), .int .u8 (IntKind.u8.wrap (vw x / 65536)), .int .u8 (IntKind.u8.wrap (vw x / 256)), .int .u8 (IntKind.u8.wrap (vw x))] 5)).drew).grown hgrow2 (by have := HB.size; simp; omega) (fun j e => by have := (OWN.out.lt _ e).1; omega)
     clear hown2 hgrow2 hat2 hc0
     replace hown3 := Lib.hid hown3
     go_wp2_with fail
     go_roundw
     case rel => exact ⟨k + 1, by omega, by go_num, hown3.out, K1, HB2⟩
     case measure => simp [intOf]; omega
    ·obtain rfl : k = 8 := by omega
     rw [words_all, TA.out] at OWN
     obtain ⟨g3, cap3, rfl⟩ := ownsRow_succ (k := 31) OWN
     have hcv := conv_cells wr g3 (sha l) 32 cap3 (sha_len _) (own_cells OWN)
     clear OWN K0
     simp only [show ((8 : Nat) : Int) = 8 from rfl]
     go_wp2_with fail
     go_ret
     exact ⟨rfl, HB⟩
end Go.Proofs.YtegaaccioppfjaaGreatDoor
end
section
namespace Go.Proofs.YtegaaccioppfjaaGreatDoor
open BigFrame Go.RowKit Go.Phx Go.Shelf
attribute [local go_sem] Oper.semAt_some

end Go.Proofs.YtegaaccioppfjaaGreatDoor
end
section
namespace Go.Proofs.YtegaaccioppfjaaGreatDoor
open BigFrame Go.RowKit Go.Phx Go.Shelf
attribute [local go_sem] Oper.semAt_some

def digs : List UInt8 := [48, 49, 50, 51, 52, 53, 54, 55, 56, 57, 97, 98, 99, 100, 101, 102]
def dig (d : Nat) : UInt8 := digs.getD d 0
/-- bytes of the call's own as a text, none too -/
theorem conv_owned (W : World) {base : Nat} {v : Value} {L : List UInt8} (h : W.ownsRow base 5 1 v L.length (L.map bv)) :
  ∃ A c, v = .slice A L.length c ∧ (convert 108 9 (.slice A L.length c)).run Tryz.prog W = .ok (.string (bs L)) W := by
 rcases h.2 with ⟨rfl, h0⟩ | ⟨g, cap, cur, rfl, _⟩
 ·obtain rfl := List.eq_nil_of_length_eq_zero h0
  exact ⟨none, 0, rfl, run_convert_bytes_nil W _ _ (show Tryz.prog.underlying 108 = some (.slice 5) by kernel_rfl) (show Tryz.prog.underlying 5 = some (.int .u8) by kernel_rfl) 0 0 _ (show Tryz.prog.underlying 9 = some .string by kernel_rfl)⟩
 ·exact ⟨some ⟨g, 0, none⟩, cap, rfl, conv_cells W g L L.length cap rfl (own_cells h)⟩
@[go_sem] theorem dig_get : ∀ (d : Nat) (h : d < (ByteArray.mk #[48, 49, 50, 51, 52, 53, 54, 55, 56, 57, 97, 98, 99, 100, 101, 102]).size), (ByteArray.mk #[48, 49, 50, 51, 52, 53, 54, 55, 56, 57, 97, 98, 99, 100, 101, 102])[d]'h = dig d
 | 0, _ => rfl
 | 1, _ => rfl
 | 2, _ => rfl
 | 3, _ => rfl
 | 4, _ => rfl
 | 5, _ => rfl
 | 6, _ => rfl
 | 7, _ => rfl
 | 8, _ => rfl
 | 9, _ => rfl
 | 10, _ => rfl
 | 11, _ => rfl
 | 12, _ => rfl
 | 13, _ => rfl
 | 14, _ => rfl
 | 15, _ => rfl
 | d + 16, h => absurd h (by simp [ByteArray.size])
end Go.Proofs.YtegaaccioppfjaaGreatDoor
end
section
namespace Go.Proofs.YtegaaccioppfjaaGreatDoor
open BigFrame Go.RowKit Go.Phx Go.Shelf
attribute [local go_sem] Oper.semAt_some

theorem strs2 (w : World) (a b : ByteArray) : Strs (w.alloc (.cells #[.string a, .string b] 9)) (some ⟨w.heap.size, 0, none⟩) [a, b] :=
 Strs.mk (by simp) fun i x hx => by
  rw [(Blk.new0 w _ _).cell, Nat.zero_add]
  match i, hx with
  | 0, hx => simp at hx; subst hx; rfl
  | 1, hx => simp at hx; subst hx; rfl
end Go.Proofs.YtegaaccioppfjaaGreatDoor
end
