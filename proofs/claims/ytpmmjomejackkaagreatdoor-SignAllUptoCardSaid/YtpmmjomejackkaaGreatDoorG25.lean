/- What the later texts stand on (Sha8): plain laws and walks, each by its own conditions. -/
import Derived.Test.YtpmmjomejackkaaGreatDoorG24
section
set_option linter.unusedSimpArgs false
set_option linter.unusedVariables false
namespace Go.Proofs.YtpmmjomejackkaaGreatDoor
open BigFrame Go.RowKit Go.Phx Go.Shelf
attribute [local go_sem] Oper.semAt_some

theorem blk_over8 {w : World} {g b : Nat} {t : TypeId} {cs : Array Value} (hn : g ≠ b) (x0 x1 x2 x3 x4 x5 x6 x7 : Value) (h : Blk w g t cs) : Blk ((((((((w.setCell ⟨b, 0, none⟩ x0).setCell ⟨b, 1, none⟩ x1).setCell ⟨b, 2, none⟩ x2).setCell ⟨b, 3, none⟩ x3).setCell ⟨b, 4, none⟩ x4).setCell ⟨b, 5, none⟩ x5).setCell ⟨b, 6, none⟩ x6).setCell ⟨b, 7, none⟩ x7) g t cs :=
  Blk.over2 hn (Blk.over2 hn (Blk.over2 hn (Blk.over2 hn (Blk.over2 hn (Blk.over2 hn (Blk.over2 hn (Blk.over2 hn (h))))))))
theorem blk_put8 {w : World} {b : Nat} {t : TypeId} {y0 y1 y2 y3 y4 y5 y6 y7 : Value} (x0 x1 x2 x3 x4 x5 x6 x7 : Value) (h : Blk w b t #[y0, y1, y2, y3, y4, y5, y6, y7]) : Blk ((((((((w.setCell ⟨b, 0, none⟩ x0).setCell ⟨b, 1, none⟩ x1).setCell ⟨b, 2, none⟩ x2).setCell ⟨b, 3, none⟩ x3).setCell ⟨b, 4, none⟩ x4).setCell ⟨b, 5, none⟩ x5).setCell ⟨b, 6, none⟩ x6).setCell ⟨b, 7, none⟩ x7) b t #[x0, x1, x2, x3, x4, x5, x6, x7] := by
  have := ((((((((h.set_ 0 x0).set_ 1 x1).set_ 2 x2).set_ 3 x3).set_ 4 x4).set_ 5 x5).set_ 6 x6).set_ 7 x7)
  simpa using this
theorem below_put8 {n : Nat} {w0 w : World} {b : Nat} (hb : n ≤ b) (x0 x1 x2 x3 x4 x5 x6 x7 : Value) (h : Below n w0 w) : Below n w0 ((((((((w.setCell ⟨b, 0, none⟩ x0).setCell ⟨b, 1, none⟩ x1).setCell ⟨b, 2, none⟩ x2).setCell ⟨b, 3, none⟩ x3).setCell ⟨b, 4, none⟩ x4).setCell ⟨b, 5, none⟩ x5).setCell ⟨b, 6, none⟩ x6).setCell ⟨b, 7, none⟩ x7) :=
  ((((((((h.setCell (p := ⟨b, 0, none⟩) hb x0).setCell (p := ⟨b, 1, none⟩) hb x1).setCell (p := ⟨b, 2, none⟩) hb x2).setCell (p := ⟨b, 3, none⟩) hb x3).setCell (p := ⟨b, 4, none⟩) hb x4).setCell (p := ⟨b, 5, none⟩) hb x5).setCell (p := ⟨b, 6, none⟩) hb x6).setCell (p := ⟨b, 7, none⟩) hb x7)
@[go_sem] theorem not_w (x : Wd) : bits .xor .u32 (if IntKind.u32.signed = true then -1 else IntKind.u32.max) (vw x) = vw (~~~x) := by
  rw [show (if IntKind.u32.signed = true then -1 else IntKind.u32.max : Int) = vw (BitVec.allOnes 32) from by decide, xor_w, BitVec.allOnes_xor]
set_option maxRecDepth 100000 in
set_option maxHeartbeats 4000000 in
theorem rtake_calls (v : St) (g o c : Nat) (l : List UInt8) (hl : l.length = 64) (w : World) (hb : BytesAt w g o l) (ho : o + 64 ≤ 9223372036854775807) (hc : 64 ≤ c) :
    Calls Tryz.prog 71 #[.agg (cS v), .slice (some ⟨g, o, none⟩) 64 c] w (Ret w (.agg (cS (takeB v l)))) := by
  have hTB : takeB v l = v.add (roundW v (moreW l 48) 64) := by
    rw [roundW_all _ _ (moreW_len l 48 (by decide)), moreW_all]
    rfl
  rw [hTB]
  clear hTB
  have hML := moreW_len l 48 (by decide)
  have HSP := fun W => Lib.hid (spread_calls g o c l hl W)
  have HBA := Lib.hid hb
  have hgl := hb.1
  clear hb
  unfold cS
  go_enter Tryz.func71, Tryz.ntmps71
  go_wp2_with fail
  refine (HSP _).out (HBA.out.from (n := w.heap.size) (by repeat (first | assumption | exact Below.refl _ _ | refine Below.setCell ?_ (by first | exact Nat.le_refl _ | (simp; done) | omega | (simp; omega)) _ | refine Below.alloc ?_ (by first | exact Nat.le_refl _ | (simp; done) | omega | (simp; omega)) _ | refine below_drewN ?_ _ | refine Below.drew ?_ | refine Below.on (by assumption) ?_ | refine Below.via (by assumption) (by first | exact Nat.le_refl _ | (simp; done) | omega | (simp; omega)) ?_)) hgl (by simp; omega)) ho hc |>.mono ?_
  rintro e w1 ⟨rfl, hB⟩
  clear HSP HBA
  (have HBn : Below w.heap.size w w1 := Below.on hB (by repeat (first | assumption | exact Below.refl _ _ | refine Below.setCell ?_ (by first | exact Nat.le_refl _ | (simp; done) | omega | (simp; omega)) _ | refine Below.alloc ?_ (by first | exact Nat.le_refl _ | (simp; done) | omega | (simp; omega)) _ | refine below_drewN ?_ _ | refine Below.drew ?_ | refine Below.on (by assumption) ?_ | refine Below.via (by assumption) (by first | exact Nat.le_refl _ | (simp; done) | omega | (simp; omega)) ?_)); have N0 := Lib.hid (Blk.below (g := w.heap.size) (by repeat (first | with_reducible exact Blk.new0 _ _ _ | with_reducible exact Blk.new1 _ _ _ _ | with_reducible exact Blk.new2 _ _ _ _ _ | with_reducible exact Blk.new3 _ _ _ _ _ _ | with_reducible exact Blk.new4 _ _ _ _ _ _ _ | with_reducible exact Blk.newS1 _ _ _ _ _ | with_reducible exact Blk.newS2 _ _ _ _ _ _ _ | with_reducible exact Blk.newS3 _ _ _ _ _ _ _ _ _ | with_reducible apply Blk.set_ | with_reducible apply Blk.alloc | with_reducible apply Blk.drewN | with_reducible apply Blk.drew | (with_reducible apply Blk.over2; first | assumption | omega))) hB); (try simp only [List.setIfInBounds_toArray, List.set_cons_succ, List.set_cons_zero] at N0); have N1 := Lib.hid (Blk.below (g := w.heap.size + 1) (by repeat (first | with_reducible exact Blk.new0 _ _ _ | with_reducible exact Blk.new1 _ _ _ _ | with_reducible exact Blk.new2 _ _ _ _ _ | with_reducible exact Blk.new3 _ _ _ _ _ _ | with_reducible exact Blk.new4 _ _ _ _ _ _ _ | with_reducible exact Blk.newS1 _ _ _ _ _ | with_reducible exact Blk.newS2 _ _ _ _ _ _ _ | with_reducible exact Blk.newS3 _ _ _ _ _ _ _ _ _ | with_reducible apply Blk.set_ | with_reducible apply Blk.alloc | with_reducible apply Blk.drewN | with_reducible apply Blk.drew | (with_reducible apply Blk.over2; first | assumption | omega))) hB); (try simp only [List.setIfInBounds_toArray, List.set_cons_succ, List.set_cons_zero] at N1); (try clear HB); clear hB; have HB := HBn; clear HBn; have HZw1 := HB.size; have K0 := N0; clear N0; have k0 := Blk.cell K0.out; have f0 := Blk.free K0.out; have l0 := Blk.lt K0.out; have m0 := Nat.le_of_lt l0; have K1 := N1; clear N1; have k1 := Blk.cell K1.out; have f1 := Blk.free K1.out; have l1 := Blk.lt K1.out; have m1 := Nat.le_of_lt l1)
  have hz1 := l1
  go_wp2_with (first
    | (with_reducible refine wpList_store_new (o := ⟨none, .store 94 _ _, _, _, _, _⟩) rfl _ _ rfl rfl rfl ?hs1 ?hi1 (cw_one _) ?_)
    | fail)
  case hs1 => rw [cw_size, hML]; kernel_rfl
  case hi1 => rw [cw_size, hML]; kernel_rfl
  go_wp2_with fail
  refine (words_calls _).mono ?_
  rintro e w2 ⟨rfl, hB⟩
  (have HBn : Below w.heap.size w w2 := Below.on hB (by repeat (first | assumption | exact Below.refl _ _ | refine Below.setCell ?_ (by first | exact Nat.le_refl _ | (simp; done) | omega | (simp; omega)) _ | refine Below.alloc ?_ (by first | exact Nat.le_refl _ | (simp; done) | omega | (simp; omega)) _ | refine below_drewN ?_ _ | refine Below.drew ?_ | refine Below.on (by assumption) ?_ | refine Below.via (by assumption) (by first | exact Nat.le_refl _ | (simp; done) | omega | (simp; omega)) ?_)); have N0 := Lib.hid (Blk.below (g := w.heap.size) (by repeat (first | with_reducible exact K0.out | with_reducible exact Blk.new0 _ _ _ | with_reducible exact Blk.new1 _ _ _ _ | with_reducible exact Blk.new2 _ _ _ _ _ | with_reducible exact Blk.new3 _ _ _ _ _ _ | with_reducible exact Blk.new4 _ _ _ _ _ _ _ | with_reducible exact Blk.newS1 _ _ _ _ _ | with_reducible exact Blk.newS2 _ _ _ _ _ _ _ | with_reducible exact Blk.newS3 _ _ _ _ _ _ _ _ _ | with_reducible apply Blk.set_ | with_reducible apply Blk.alloc | with_reducible apply Blk.drewN | with_reducible apply Blk.drew | (with_reducible apply Blk.over2; first | assumption | omega))) hB); (try simp only [List.setIfInBounds_toArray, List.set_cons_succ, List.set_cons_zero] at N0); have N1 := Lib.hid (Blk.below (g := w.heap.size + 1) (by repeat (first | with_reducible exact K1.out | with_reducible exact Blk.new0 _ _ _ | with_reducible exact Blk.new1 _ _ _ _ | with_reducible exact Blk.new2 _ _ _ _ _ | with_reducible exact Blk.new3 _ _ _ _ _ _ | with_reducible exact Blk.new4 _ _ _ _ _ _ _ | with_reducible exact Blk.newS1 _ _ _ _ _ | with_reducible exact Blk.newS2 _ _ _ _ _ _ _ | with_reducible exact Blk.newS3 _ _ _ _ _ _ _ _ _ | with_reducible apply Blk.set_ | with_reducible apply Blk.alloc | with_reducible apply Blk.drewN | with_reducible apply Blk.drew | (with_reducible apply Blk.over2; first | assumption | omega))) hB); (try simp only [List.setIfInBounds_toArray, List.set_cons_succ, List.set_cons_zero] at N1); have N2 := Lib.hid (Blk.below (g := w1.heap.size) (by repeat (first | with_reducible exact Blk.new0 _ _ _ | with_reducible exact Blk.new1 _ _ _ _ | with_reducible exact Blk.new2 _ _ _ _ _ | with_reducible exact Blk.new3 _ _ _ _ _ _ | with_reducible exact Blk.new4 _ _ _ _ _ _ _ | with_reducible exact Blk.newS1 _ _ _ _ _ | with_reducible exact Blk.newS2 _ _ _ _ _ _ _ | with_reducible exact Blk.newS3 _ _ _ _ _ _ _ _ _ | with_reducible apply Blk.set_ | with_reducible apply Blk.alloc | with_reducible apply Blk.drewN | with_reducible apply Blk.drew | (with_reducible apply Blk.over2; first | assumption | omega))) hB); (try simp only [List.setIfInBounds_toArray, List.set_cons_succ, List.set_cons_zero] at N2); clear K0 k0 f0 l0 m0 K1 k1 f1 l1 m1; (try clear HB); clear hB; have HB := HBn; clear HBn; have HZw2 := HB.size; have K0 := N0; clear N0; have k0 := Blk.cell K0.out; have f0 := Blk.free K0.out; have l0 := Blk.lt K0.out; have m0 := Nat.le_of_lt l0; have K1 := N1; clear N1; have k1 := Blk.cell K1.out; have f1 := Blk.free K1.out; have l1 := Blk.lt K1.out; have m1 := Nat.le_of_lt l1; have K2 := N2; clear N2; have k2 := Blk.cell K2.out; have f2 := Blk.free K2.out; have l2 := Blk.lt K2.out; have m2 := Nat.le_of_lt l2)
  go_wp2_with (first
    | (with_reducible refine wpList_store_new (o := ⟨none, .store 94 _ _, _, _, _, _⟩) rfl _ _ rfl rfl rfl ?hs2 ?hi2 (cw_one _) ?_)
    | fail)
  case hs2 => kernel_rfl
  case hi2 => kernel_rfl
  go_wp2_with fail
  have hz2 : w1.heap.size < w2.heap.size := l2
  have K3 := Lib.hid (show Blk ((w2.alloc (.cells (cw kTab) 94)).alloc (.cells #[.int .u32 (vw v.a), .int .u32 (vw v.b), .int .u32 (vw v.c), .int .u32 (vw v.d), .int .u32 (vw v.e), .int .u32 (vw v.f), .int .u32 (vw v.g), .int .u32 (vw v.h)] 80)) w2.heap.size 94 (cw kTab) from (Blk.new0 _ _ _).alloc _)
  have K4 := Lib.hid (Blk.new1 w2 (.cells (cw kTab) 94) 80 #[.int .u32 (vw v.a), .int .u32 (vw v.b), .int .u32 (vw v.c), .int .u32 (vw v.d), .int .u32 (vw v.e), .int .u32 (vw v.f), .int .u32 (vw v.g), .int .u32 (vw v.h)])
  replace K0 := Lib.hid ((K0.out.alloc (.cells (cw kTab) 94)).alloc (.cells #[.int .u32 (vw v.a), .int .u32 (vw v.b), .int .u32 (vw v.c), .int .u32 (vw v.d), .int .u32 (vw v.e), .int .u32 (vw v.f), .int .u32 (vw v.g), .int .u32 (vw v.h)] 80))
  replace K1 := Lib.hid ((K1.out.alloc (.cells (cw kTab) 94)).alloc (.cells #[.int .u32 (vw v.a), .int .u32 (vw v.b), .int .u32 (vw v.c), .int .u32 (vw v.d), .int .u32 (vw v.e), .int .u32 (vw v.f), .int .u32 (vw v.g), .int .u32 (vw v.h)] 80))
  replace K2 := Lib.hid ((K2.out.alloc (.cells (cw kTab) 94)).alloc (.cells #[.int .u32 (vw v.a), .int .u32 (vw v.b), .int .u32 (vw v.c), .int .u32 (vw v.d), .int .u32 (vw v.e), .int .u32 (vw v.f), .int .u32 (vw v.g), .int .u32 (vw v.h)] 80))
  have HB3 : Below w.heap.size w ((w2.alloc (.cells (cw kTab) 94)).alloc (.cells #[.int .u32 (vw v.a), .int .u32 (vw v.b), .int .u32 (vw v.c), .int .u32 (vw v.d), .int .u32 (vw v.e), .int .u32 (vw v.f), .int .u32 (vw v.g), .int .u32 (vw v.h)] 80)) := (by repeat (first | assumption | exact Below.refl _ _ | refine Below.setCell ?_ (by first | exact Nat.le_refl _ | (simp; done) | omega | (simp; omega)) _ | refine Below.alloc ?_ (by first | exact Nat.le_refl _ | (simp; done) | omega | (simp; omega)) _ | refine below_drewN ?_ _ | refine Below.drew ?_ | refine Below.on (by assumption) ?_ | refine Below.via (by assumption) (by first | exact Nat.le_refl _ | (simp; done) | omega | (simp; omega)) ?_))
  clear HB HZw1 HZw2 k0 k1 k2 f0 f1 f2 l0 l1 l2 m0 m1 m2
  generalize ((w2.alloc (.cells (cw kTab) 94)).alloc (.cells #[.int .u32 (vw v.a), .int .u32 (vw v.b), .int .u32 (vw v.c), .int .u32 (vw v.d), .int .u32 (vw v.e), .int .u32 (vw v.f), .int .u32 (vw v.g), .int .u32 (vw v.h)] 80)) = W at K0 K1 K2 K3 K4 HB3 ⊢
  obtain ⟨b2, hb2⟩ : ∃ b2, w1.heap.size = b2 := ⟨_, rfl⟩
  obtain ⟨b3, hb3⟩ : ∃ b3, w2.heap.size = b3 := ⟨_, rfl⟩
  rw [hb2] at hz1 hz2 K2 ⊢
  rw [hb3] at hz2 K3 K4 ⊢
  clear hb2 hb3
  have HR := fun k hk => roundW_succ v (moreW l 48) hML k hk
  have hg := fun (i : Nat) (hi : i < 64) => cw_get (L := moreW l 48) (i := i) (by omega)
  have hgk := fun (i : Nat) (hi : i < 64) => cw_get (L := kTab) (i := i) hi
  generalize moreW l 48 = L at *
  go_loopw [8] (fun i wr => ∃ (k : Nat) (u : St), k ≤ 64 ∧ u = roundW v L k ∧ i = .int .i64 k ∧ Blk wr (b3 + 1) 80 (cS u) ∧ Blk wr b2 94 (cw L) ∧ Blk wr b3 94 (cw kTab) ∧ Blk wr w.heap.size 80 (cS v) ∧
      Blk wr (w.heap.size + 1) 80 #[.int .u32 0, .int .u32 0, .int .u32 0, .int .u32 0, .int .u32 0, .int .u32 0, .int .u32 0, .int .u32 0] ∧ Below w.heap.size w wr) (fun i _ => (64 - intOf i).toNat)
  case atStart => exact ⟨0, v, by omega, rfl, rfl, K4.out, K2.out, K3.out, K0.out, K1.out, HB3⟩
  case round =>
    clear K0 K1 K2 K3 K4 HB3
    obtain ⟨k, u, hk, hu, rfl, K4, K2, K3, K0, K1, HB⟩ := hrel
    replace K0 := Lib.hid K0
    replace K1 := Lib.hid K1
    replace K2 := Lib.hid K2
    replace K3 := Lib.hid K3
    unfold cS at K4
    replace K4 := Lib.hid K4
    by_cases hlt : k < 64
    · have HS := HR k hlt
      rw [← hu] at HS
      have e2 := hg k hlt
      have e3 := hgk k hlt
      clear HR hg hgk hu hML
      generalize L.getD k 0 = y at *
      generalize kTab.getD k 0 = kk at *
      replace HS := Lib.hid HS
      (have k0 := Blk.cell K0.out; have f0 := Blk.free K0.out; have l0 := Blk.lt K0.out; have m0 := Nat.le_of_lt l0; have k1 := Blk.cell K1.out; have f1 := Blk.free K1.out; have l1 := Blk.lt K1.out; have m1 := Nat.le_of_lt l1; have k2 := Blk.cell K2.out; have f2 := Blk.free K2.out; have l2 := Blk.lt K2.out; have m2 := Nat.le_of_lt l2; have k3 := Blk.cell K3.out; have f3 := Blk.free K3.out; have l3 := Blk.lt K3.out; have m3 := Nat.le_of_lt l3; have k4 := Blk.cell K4.out; have f4 := Blk.free K4.out; have l4 := Blk.lt K4.out; have m4 := Nat.le_of_lt l4)
      go_wp2_with fail
      (refine wp_region_later (by kernel_rfl) (by kernel_rfl) ?_; (repeat (go_big_quiet_step ((go_at_call 83; exact lq (rturn_calls _ _ (by decide) _))))); refine wpQuiet_nil ?_; intro w' hB)
      have c1 := ch_eq u.e u.f u.g
      have c2 := maj_eq u.a u.b u.c
      replace c1 := Lib.hid c1
      replace c2 := Lib.hid c2
      (have HBn : Below w.heap.size w w' := Below.on hB (by repeat (first | assumption | exact Below.refl _ _ | refine Below.setCell ?_ (by first | exact Nat.le_refl _ | (simp; done) | omega | (simp; omega)) _ | refine Below.alloc ?_ (by first | exact Nat.le_refl _ | (simp; done) | omega | (simp; omega)) _ | refine below_drewN ?_ _ | refine Below.drew ?_ | refine Below.on (by assumption) ?_ | refine Below.via (by assumption) (by first | exact Nat.le_refl _ | (simp; done) | omega | (simp; omega)) ?_)); have N0 := Lib.hid (Blk.below (g := w.heap.size) (by repeat (first | with_reducible exact K0.out | with_reducible exact Blk.new0 _ _ _ | with_reducible exact Blk.new1 _ _ _ _ | with_reducible exact Blk.new2 _ _ _ _ _ | with_reducible exact Blk.new3 _ _ _ _ _ _ | with_reducible exact Blk.new4 _ _ _ _ _ _ _ | with_reducible exact Blk.newS1 _ _ _ _ _ | with_reducible exact Blk.newS2 _ _ _ _ _ _ _ | with_reducible exact Blk.newS3 _ _ _ _ _ _ _ _ _ | with_reducible apply Blk.set_ | with_reducible apply Blk.alloc | with_reducible apply Blk.drewN | with_reducible apply Blk.drew | (with_reducible apply Blk.over2; first | assumption | omega))) hB); (try simp only [List.setIfInBounds_toArray, List.set_cons_succ, List.set_cons_zero] at N0); have N1 := Lib.hid (Blk.below (g := w.heap.size + 1) (by repeat (first | with_reducible exact K1.out | with_reducible exact Blk.new0 _ _ _ | with_reducible exact Blk.new1 _ _ _ _ | with_reducible exact Blk.new2 _ _ _ _ _ | with_reducible exact Blk.new3 _ _ _ _ _ _ | with_reducible exact Blk.new4 _ _ _ _ _ _ _ | with_reducible exact Blk.newS1 _ _ _ _ _ | with_reducible exact Blk.newS2 _ _ _ _ _ _ _ | with_reducible exact Blk.newS3 _ _ _ _ _ _ _ _ _ | with_reducible apply Blk.set_ | with_reducible apply Blk.alloc | with_reducible apply Blk.drewN | with_reducible apply Blk.drew | (with_reducible apply Blk.over2; first | assumption | omega))) hB); (try simp only [List.setIfInBounds_toArray, List.set_cons_succ, List.set_cons_zero] at N1); have N2 := Lib.hid (Blk.below (g := b2) (by repeat (first | with_reducible exact K2.out | with_reducible exact Blk.new0 _ _ _ | with_reducible exact Blk.new1 _ _ _ _ | with_reducible exact Blk.new2 _ _ _ _ _ | with_reducible exact Blk.new3 _ _ _ _ _ _ | with_reducible exact Blk.new4 _ _ _ _ _ _ _ | with_reducible exact Blk.newS1 _ _ _ _ _ | with_reducible exact Blk.newS2 _ _ _ _ _ _ _ | with_reducible exact Blk.newS3 _ _ _ _ _ _ _ _ _ | with_reducible apply Blk.set_ | with_reducible apply Blk.alloc | with_reducible apply Blk.drewN | with_reducible apply Blk.drew | (with_reducible apply Blk.over2; first | assumption | omega))) hB); (try simp only [List.setIfInBounds_toArray, List.set_cons_succ, List.set_cons_zero] at N2); have N3 := Lib.hid (Blk.below (g := b3) (by repeat (first | with_reducible exact K3.out | with_reducible exact Blk.new0 _ _ _ | with_reducible exact Blk.new1 _ _ _ _ | with_reducible exact Blk.new2 _ _ _ _ _ | with_reducible exact Blk.new3 _ _ _ _ _ _ | with_reducible exact Blk.new4 _ _ _ _ _ _ _ | with_reducible exact Blk.newS1 _ _ _ _ _ | with_reducible exact Blk.newS2 _ _ _ _ _ _ _ | with_reducible exact Blk.newS3 _ _ _ _ _ _ _ _ _ | with_reducible apply Blk.set_ | with_reducible apply Blk.alloc | with_reducible apply Blk.drewN | with_reducible apply Blk.drew | (with_reducible apply Blk.over2; first | assumption | omega))) hB); (try simp only [List.setIfInBounds_toArray, List.set_cons_succ, List.set_cons_zero] at N3); have N4 := Lib.hid (Blk.below (g := b3 + 1) (by repeat (first | with_reducible exact K4.out | with_reducible exact Blk.new0 _ _ _ | with_reducible exact Blk.new1 _ _ _ _ | with_reducible exact Blk.new2 _ _ _ _ _ | with_reducible exact Blk.new3 _ _ _ _ _ _ | with_reducible exact Blk.new4 _ _ _ _ _ _ _ | with_reducible exact Blk.newS1 _ _ _ _ _ | with_reducible exact Blk.newS2 _ _ _ _ _ _ _ | with_reducible exact Blk.newS3 _ _ _ _ _ _ _ _ _ | with_reducible apply Blk.set_ | with_reducible apply Blk.alloc | with_reducible apply Blk.drewN | with_reducible apply Blk.drew | (with_reducible apply Blk.over2; first | assumption | omega))) hB); (try simp only [List.setIfInBounds_toArray, List.set_cons_succ, List.set_cons_zero] at N4); clear K0 k0 f0 l0 m0 K1 k1 f1 l1 m1 K2 k2 f2 l2 m2 K3 k3 f3 l3 m3 K4 k4 f4 l4 m4; (try clear HB); clear hB; have HB := HBn; clear HBn; have HZw' := HB.size; have K0 := N0; clear N0; have k0 := Blk.cell K0.out; have f0 := Blk.free K0.out; have l0 := Blk.lt K0.out; have m0 := Nat.le_of_lt l0; have K1 := N1; clear N1; have k1 := Blk.cell K1.out; have f1 := Blk.free K1.out; have l1 := Blk.lt K1.out; have m1 := Nat.le_of_lt l1; have K2 := N2; clear N2; have k2 := Blk.cell K2.out; have f2 := Blk.free K2.out; have l2 := Blk.lt K2.out; have m2 := Nat.le_of_lt l2; have K3 := N3; clear N3; have k3 := Blk.cell K3.out; have f3 := Blk.free K3.out; have l3 := Blk.lt K3.out; have m3 := Nat.le_of_lt l3; have K4 := N4; clear N4; have k4 := Blk.cell K4.out; have f4 := Blk.free K4.out; have l4 := Blk.lt K4.out; have m4 := Nat.le_of_lt l4)
      go_wp2_with fail
      (refine wp_region_later (by kernel_rfl) (by kernel_rfl) ?_; (repeat (go_big_quiet_step ((go_at_call 83; exact lq (rturn_calls _ _ (by decide) _))))); refine wpQuiet_nil ?_; intro w' hB)
      (have HBn : Below w.heap.size w w' := Below.on hB (by repeat (first | assumption | exact Below.refl _ _ | refine Below.setCell ?_ (by first | exact Nat.le_refl _ | (simp; done) | omega | (simp; omega)) _ | refine Below.alloc ?_ (by first | exact Nat.le_refl _ | (simp; done) | omega | (simp; omega)) _ | refine below_drewN ?_ _ | refine Below.drew ?_ | refine Below.on (by assumption) ?_ | refine Below.via (by assumption) (by first | exact Nat.le_refl _ | (simp; done) | omega | (simp; omega)) ?_)); have N0 := Lib.hid (Blk.below (g := w.heap.size) (by repeat (first | with_reducible exact K0.out | with_reducible exact Blk.new0 _ _ _ | with_reducible exact Blk.new1 _ _ _ _ | with_reducible exact Blk.new2 _ _ _ _ _ | with_reducible exact Blk.new3 _ _ _ _ _ _ | with_reducible exact Blk.new4 _ _ _ _ _ _ _ | with_reducible exact Blk.newS1 _ _ _ _ _ | with_reducible exact Blk.newS2 _ _ _ _ _ _ _ | with_reducible exact Blk.newS3 _ _ _ _ _ _ _ _ _ | with_reducible apply Blk.set_ | with_reducible apply Blk.alloc | with_reducible apply Blk.drewN | with_reducible apply Blk.drew | (with_reducible apply Blk.over2; first | assumption | omega))) hB); (try simp only [List.setIfInBounds_toArray, List.set_cons_succ, List.set_cons_zero] at N0); have N1 := Lib.hid (Blk.below (g := w.heap.size + 1) (by repeat (first | with_reducible exact K1.out | with_reducible exact Blk.new0 _ _ _ | with_reducible exact Blk.new1 _ _ _ _ | with_reducible exact Blk.new2 _ _ _ _ _ | with_reducible exact Blk.new3 _ _ _ _ _ _ | with_reducible exact Blk.new4 _ _ _ _ _ _ _ | with_reducible exact Blk.newS1 _ _ _ _ _ | with_reducible exact Blk.newS2 _ _ _ _ _ _ _ | with_reducible exact Blk.newS3 _ _ _ _ _ _ _ _ _ | with_reducible apply Blk.set_ | with_reducible apply Blk.alloc | with_reducible apply Blk.drewN | with_reducible apply Blk.drew | (with_reducible apply Blk.over2; first | assumption | omega))) hB); (try simp only [List.setIfInBounds_toArray, List.set_cons_succ, List.set_cons_zero] at N1); have N2 := Lib.hid (Blk.below (g := b2) (by repeat (first | with_reducible exact K2.out | with_reducible exact Blk.new0 _ _ _ | with_reducible exact Blk.new1 _ _ _ _ | with_reducible exact Blk.new2 _ _ _ _ _ | with_reducible exact Blk.new3 _ _ _ _ _ _ | with_reducible exact Blk.new4 _ _ _ _ _ _ _ | with_reducible exact Blk.newS1 _ _ _ _ _ | with_reducible exact Blk.newS2 _ _ _ _ _ _ _ | with_reducible exact Blk.newS3 _ _ _ _ _ _ _ _ _ | with_reducible apply Blk.set_ | with_reducible apply Blk.alloc | with_reducible apply Blk.drewN | with_reducible apply Blk.drew | (with_reducible apply Blk.over2; first | assumption | omega))) hB); (try simp only [List.setIfInBounds_toArray, List.set_cons_succ, List.set_cons_zero] at N2); have N3 := Lib.hid (Blk.below (g := b3) (by repeat (first | with_reducible exact K3.out | with_reducible exact Blk.new0 _ _ _ | with_reducible exact Blk.new1 _ _ _ _ | with_reducible exact Blk.new2 _ _ _ _ _ | with_reducible exact Blk.new3 _ _ _ _ _ _ | with_reducible exact Blk.new4 _ _ _ _ _ _ _ | with_reducible exact Blk.newS1 _ _ _ _ _ | with_reducible exact Blk.newS2 _ _ _ _ _ _ _ | with_reducible exact Blk.newS3 _ _ _ _ _ _ _ _ _ | with_reducible apply Blk.set_ | with_reducible apply Blk.alloc | with_reducible apply Blk.drewN | with_reducible apply Blk.drew | (with_reducible apply Blk.over2; first | assumption | omega))) hB); (try simp only [List.setIfInBounds_toArray, List.set_cons_succ, List.set_cons_zero] at N3); have N4 := Lib.hid (Blk.below (g := b3 + 1) (by repeat (first | with_reducible exact K4.out | with_reducible exact Blk.new0 _ _ _ | with_reducible exact Blk.new1 _ _ _ _ | with_reducible exact Blk.new2 _ _ _ _ _ | with_reducible exact Blk.new3 _ _ _ _ _ _ | with_reducible exact Blk.new4 _ _ _ _ _ _ _ | with_reducible exact Blk.newS1 _ _ _ _ _ | with_reducible exact Blk.newS2 _ _ _ _ _ _ _ | with_reducible exact Blk.newS3 _ _ _ _ _ _ _ _ _ | with_reducible apply Blk.set_ | with_reducible apply Blk.alloc | with_reducible apply Blk.drewN | with_reducible apply Blk.drew | (with_reducible apply Blk.over2; first | assumption | omega))) hB); (try simp only [List.setIfInBounds_toArray, List.set_cons_succ, List.set_cons_zero] at N4); clear K0 k0 f0 l0 m0 K1 k1 f1 l1 m1 K2 k2 f2 l2 m2 K3 k3 f3 l3 m3 K4 k4 f4 l4 m4; (try clear HB); clear hB; have HB := HBn; clear HBn; have HZw' := HB.size; have K0 := N0; clear N0; have k0 := Blk.cell K0.out; have f0 := Blk.free K0.out; have l0 := Blk.lt K0.out; have m0 := Nat.le_of_lt l0; have K1 := N1; clear N1; have k1 := Blk.cell K1.out; have f1 := Blk.free K1.out; have l1 := Blk.lt K1.out; have m1 := Nat.le_of_lt l1; have K2 := N2; clear N2; have k2 := Blk.cell K2.out; have f2 := Blk.free K2.out; have l2 := Blk.lt K2.out; have m2 := Nat.le_of_lt l2; have K3 := N3; clear N3; have k3 := Blk.cell K3.out; have f3 := Blk.free K3.out; have l3 := Blk.lt K3.out; have m3 := Nat.le_of_lt l3; have K4 := N4; clear N4; have k4 := Blk.cell K4.out; have f4 := Blk.free K4.out; have l4 := Blk.lt K4.out; have m4 := Nat.le_of_lt l4)
      go_wp2_with fail
      rw [c1.out, c2.out]
      go_roundw
      case rel => exact ⟨k + 1, rnd u kk y, by omega, HS.out.symm, by go_num, blk_put8 _ _ _ _ _ _ _ _ K4.out, blk_over8 (by omega) _ _ _ _ _ _ _ _ K2.out, blk_over8 (by omega) _ _ _ _ _ _ _ _ K3.out, blk_over8 (by omega) _ _ _ _ _ _ _ _ K0.out, blk_over8 (by omega) _ _ _ _ _ _ _ _ K1.out, below_put8 (by omega) _ _ _ _ _ _ _ _ HB⟩
      case measure => simp [intOf]; omega
    · obtain rfl : k = 64 := by omega
      have HU := Lib.hid hu
      clear hu HR hg hgk K2 K3
      simp only [show ((64 : Nat) : Int) = 64 from rfl]
      unfold cS at K0
      replace K0 := Lib.hid K0.out
      go_wp2_with fail
      refine wp_loop_rounds 9 ?_
      rw [rounds_succ]
      (have k0 := Blk.cell K0.out; have f0 := Blk.free K0.out; have l0 := Blk.lt K0.out; have m0 := Nat.le_of_lt l0; have k4 := Blk.cell K4.out; have f4 := Blk.free K4.out; have l4 := Blk.lt K4.out; have m4 := Nat.le_of_lt l4)
      go_wp2_with fail
      (refine wp_region_later_tail 9 (by kernel_rfl) (by kernel_rfl) ?_; simp only [List.take_succ_cons, List.take_zero, List.drop_succ_cons, List.drop_zero]; (repeat (go_big_quiet_step (fail))); refine wpQuiet_nil ?_; intro w' hB)
      clear k0 f0 l0 m0 k4 f4 l4 m4
      replace K0 := Lib.hid (K0.out.below hB)
      replace K4 := Lib.hid (K4.out.below hB)
      replace K1 := Lib.hid (K1.out.below hB)
      replace HB := Below.on hB HB
      clear hB
      (have k0 := Blk.cell K0.out; have f0 := Blk.free K0.out; have l0 := Blk.lt K0.out; have m0 := Nat.le_of_lt l0)
      go_wp2_with fail
      clear k0 f0 l0 m0
      replace K0 := Lib.hid (K0.out.set_ 0 (.int .u32 (vw (v.a + u.a))))
      replace K4 := Lib.hid (K4.out.over2 (b := w.heap.size) (i := 0) (u := .int .u32 (vw (v.a + u.a))) (by omega))
      replace K1 := Lib.hid (K1.out.over2 (b := w.heap.size) (i := 0) (u := .int .u32 (vw (v.a + u.a))) (by omega))
      replace HB := HB.setCell (p := ⟨w.heap.size, 0, none⟩) (Nat.le_refl _) (.int .u32 (vw (v.a + u.a)))
      simp only [List.setIfInBounds_toArray, List.set_cons_succ, List.set_cons_zero] at K0
      generalize w'.setCell ⟨w.heap.size, 0, none⟩ (.int .u32 (vw (v.a + u.a))) = v0 at K0 K1 K4 HB ⊢
      rw [rounds_succ]
      (have k0 := Blk.cell K0.out; have f0 := Blk.free K0.out; have l0 := Blk.lt K0.out; have m0 := Nat.le_of_lt l0; have k4 := Blk.cell K4.out; have f4 := Blk.free K4.out; have l4 := Blk.lt K4.out; have m4 := Nat.le_of_lt l4)
      go_wp2_with fail
      (refine wp_region_later_tail 9 (by kernel_rfl) (by kernel_rfl) ?_; simp only [List.take_succ_cons, List.take_zero, List.drop_succ_cons, List.drop_zero]; (repeat (go_big_quiet_step (fail))); refine wpQuiet_nil ?_; intro w' hB)
      clear k0 f0 l0 m0 k4 f4 l4 m4
      replace K0 := Lib.hid (K0.out.below hB)
      replace K4 := Lib.hid (K4.out.below hB)
      replace K1 := Lib.hid (K1.out.below hB)
      replace HB := Below.on hB HB
      clear hB
      (have k0 := Blk.cell K0.out; have f0 := Blk.free K0.out; have l0 := Blk.lt K0.out; have m0 := Nat.le_of_lt l0)
      go_wp2_with fail
      clear k0 f0 l0 m0
      replace K0 := Lib.hid (K0.out.set_ 1 (.int .u32 (vw (v.b + u.b))))
      replace K4 := Lib.hid (K4.out.over2 (b := w.heap.size) (i := 1) (u := .int .u32 (vw (v.b + u.b))) (by omega))
      replace K1 := Lib.hid (K1.out.over2 (b := w.heap.size) (i := 1) (u := .int .u32 (vw (v.b + u.b))) (by omega))
      replace HB := HB.setCell (p := ⟨w.heap.size, 1, none⟩) (Nat.le_refl _) (.int .u32 (vw (v.b + u.b)))
      simp only [List.setIfInBounds_toArray, List.set_cons_succ, List.set_cons_zero] at K0
      generalize w'.setCell ⟨w.heap.size, 1, none⟩ (.int .u32 (vw (v.b + u.b))) = v1 at K0 K1 K4 HB ⊢
      rw [rounds_succ]
      (have k0 := Blk.cell K0.out; have f0 := Blk.free K0.out; have l0 := Blk.lt K0.out; have m0 := Nat.le_of_lt l0; have k4 := Blk.cell K4.out; have f4 := Blk.free K4.out; have l4 := Blk.lt K4.out; have m4 := Nat.le_of_lt l4)
      go_wp2_with fail
      (refine wp_region_later_tail 9 (by kernel_rfl) (by kernel_rfl) ?_; simp only [List.take_succ_cons, List.take_zero, List.drop_succ_cons, List.drop_zero]; (repeat (go_big_quiet_step (fail))); refine wpQuiet_nil ?_; intro w' hB)
      clear k0 f0 l0 m0 k4 f4 l4 m4
      replace K0 := Lib.hid (K0.out.below hB)
      replace K4 := Lib.hid (K4.out.below hB)
      replace K1 := Lib.hid (K1.out.below hB)
      replace HB := Below.on hB HB
      clear hB
      (have k0 := Blk.cell K0.out; have f0 := Blk.free K0.out; have l0 := Blk.lt K0.out; have m0 := Nat.le_of_lt l0)
      go_wp2_with fail
      clear k0 f0 l0 m0
      replace K0 := Lib.hid (K0.out.set_ 2 (.int .u32 (vw (v.c + u.c))))
      replace K4 := Lib.hid (K4.out.over2 (b := w.heap.size) (i := 2) (u := .int .u32 (vw (v.c + u.c))) (by omega))
      replace K1 := Lib.hid (K1.out.over2 (b := w.heap.size) (i := 2) (u := .int .u32 (vw (v.c + u.c))) (by omega))
      replace HB := HB.setCell (p := ⟨w.heap.size, 2, none⟩) (Nat.le_refl _) (.int .u32 (vw (v.c + u.c)))
      simp only [List.setIfInBounds_toArray, List.set_cons_succ, List.set_cons_zero] at K0
      generalize w'.setCell ⟨w.heap.size, 2, none⟩ (.int .u32 (vw (v.c + u.c))) = v2 at K0 K1 K4 HB ⊢
      rw [rounds_succ]
      (have k0 := Blk.cell K0.out; have f0 := Blk.free K0.out; have l0 := Blk.lt K0.out; have m0 := Nat.le_of_lt l0; have k4 := Blk.cell K4.out; have f4 := Blk.free K4.out; have l4 := Blk.lt K4.out; have m4 := Nat.le_of_lt l4)
      go_wp2_with fail
      (refine wp_region_later_tail 9 (by kernel_rfl) (by kernel_rfl) ?_; simp only [List.take_succ_cons, List.take_zero, List.drop_succ_cons, List.drop_zero]; (repeat (go_big_quiet_step (fail))); refine wpQuiet_nil ?_; intro w' hB)
      clear k0 f0 l0 m0 k4 f4 l4 m4
      replace K0 := Lib.hid (K0.out.below hB)
      replace K4 := Lib.hid (K4.out.below hB)
      replace K1 := Lib.hid (K1.out.below hB)
      replace HB := Below.on hB HB
      clear hB
      (have k0 := Blk.cell K0.out; have f0 := Blk.free K0.out; have l0 := Blk.lt K0.out; have m0 := Nat.le_of_lt l0)
      go_wp2_with fail
      clear k0 f0 l0 m0
      replace K0 := Lib.hid (K0.out.set_ 3 (.int .u32 (vw (v.d + u.d))))
      replace K4 := Lib.hid (K4.out.over2 (b := w.heap.size) (i := 3) (u := .int .u32 (vw (v.d + u.d))) (by omega))
      replace K1 := Lib.hid (K1.out.over2 (b := w.heap.size) (i := 3) (u := .int .u32 (vw (v.d + u.d))) (by omega))
      replace HB := HB.setCell (p := ⟨w.heap.size, 3, none⟩) (Nat.le_refl _) (.int .u32 (vw (v.d + u.d)))
      simp only [List.setIfInBounds_toArray, List.set_cons_succ, List.set_cons_zero] at K0
      generalize w'.setCell ⟨w.heap.size, 3, none⟩ (.int .u32 (vw (v.d + u.d))) = v3 at K0 K1 K4 HB ⊢
      rw [rounds_succ]
      (have k0 := Blk.cell K0.out; have f0 := Blk.free K0.out; have l0 := Blk.lt K0.out; have m0 := Nat.le_of_lt l0; have k4 := Blk.cell K4.out; have f4 := Blk.free K4.out; have l4 := Blk.lt K4.out; have m4 := Nat.le_of_lt l4)
      go_wp2_with fail
      (refine wp_region_later_tail 9 (by kernel_rfl) (by kernel_rfl) ?_; simp only [List.take_succ_cons, List.take_zero, List.drop_succ_cons, List.drop_zero]; (repeat (go_big_quiet_step (fail))); refine wpQuiet_nil ?_; intro w' hB)
      clear k0 f0 l0 m0 k4 f4 l4 m4
      replace K0 := Lib.hid (K0.out.below hB)
      replace K4 := Lib.hid (K4.out.below hB)
      replace K1 := Lib.hid (K1.out.below hB)
      replace HB := Below.on hB HB
      clear hB
      (have k0 := Blk.cell K0.out; have f0 := Blk.free K0.out; have l0 := Blk.lt K0.out; have m0 := Nat.le_of_lt l0)
      go_wp2_with fail
      clear k0 f0 l0 m0
      replace K0 := Lib.hid (K0.out.set_ 4 (.int .u32 (vw (v.e + u.e))))
      replace K4 := Lib.hid (K4.out.over2 (b := w.heap.size) (i := 4) (u := .int .u32 (vw (v.e + u.e))) (by omega))
      replace K1 := Lib.hid (K1.out.over2 (b := w.heap.size) (i := 4) (u := .int .u32 (vw (v.e + u.e))) (by omega))
      replace HB := HB.setCell (p := ⟨w.heap.size, 4, none⟩) (Nat.le_refl _) (.int .u32 (vw (v.e + u.e)))
      simp only [List.setIfInBounds_toArray, List.set_cons_succ, List.set_cons_zero] at K0
      generalize w'.setCell ⟨w.heap.size, 4, none⟩ (.int .u32 (vw (v.e + u.e))) = v4 at K0 K1 K4 HB ⊢
      rw [rounds_succ]
      (have k0 := Blk.cell K0.out; have f0 := Blk.free K0.out; have l0 := Blk.lt K0.out; have m0 := Nat.le_of_lt l0; have k4 := Blk.cell K4.out; have f4 := Blk.free K4.out; have l4 := Blk.lt K4.out; have m4 := Nat.le_of_lt l4)
      go_wp2_with fail
      (refine wp_region_later_tail 9 (by kernel_rfl) (by kernel_rfl) ?_; simp only [List.take_succ_cons, List.take_zero, List.drop_succ_cons, List.drop_zero]; (repeat (go_big_quiet_step (fail))); refine wpQuiet_nil ?_; intro w' hB)
      clear k0 f0 l0 m0 k4 f4 l4 m4
      replace K0 := Lib.hid (K0.out.below hB)
      replace K4 := Lib.hid (K4.out.below hB)
      replace K1 := Lib.hid (K1.out.below hB)
      replace HB := Below.on hB HB
      clear hB
      (have k0 := Blk.cell K0.out; have f0 := Blk.free K0.out; have l0 := Blk.lt K0.out; have m0 := Nat.le_of_lt l0)
      go_wp2_with fail
      clear k0 f0 l0 m0
      replace K0 := Lib.hid (K0.out.set_ 5 (.int .u32 (vw (v.f + u.f))))
      replace K4 := Lib.hid (K4.out.over2 (b := w.heap.size) (i := 5) (u := .int .u32 (vw (v.f + u.f))) (by omega))
      replace K1 := Lib.hid (K1.out.over2 (b := w.heap.size) (i := 5) (u := .int .u32 (vw (v.f + u.f))) (by omega))
      replace HB := HB.setCell (p := ⟨w.heap.size, 5, none⟩) (Nat.le_refl _) (.int .u32 (vw (v.f + u.f)))
      simp only [List.setIfInBounds_toArray, List.set_cons_succ, List.set_cons_zero] at K0
      generalize w'.setCell ⟨w.heap.size, 5, none⟩ (.int .u32 (vw (v.f + u.f))) = v5 at K0 K1 K4 HB ⊢
      rw [rounds_succ]
      (have k0 := Blk.cell K0.out; have f0 := Blk.free K0.out; have l0 := Blk.lt K0.out; have m0 := Nat.le_of_lt l0; have k4 := Blk.cell K4.out; have f4 := Blk.free K4.out; have l4 := Blk.lt K4.out; have m4 := Nat.le_of_lt l4)
      go_wp2_with fail
      (refine wp_region_later_tail 9 (by kernel_rfl) (by kernel_rfl) ?_; simp only [List.take_succ_cons, List.take_zero, List.drop_succ_cons, List.drop_zero]; (repeat (go_big_quiet_step (fail))); refine wpQuiet_nil ?_; intro w' hB)
      clear k0 f0 l0 m0 k4 f4 l4 m4
      replace K0 := Lib.hid (K0.out.below hB)
      replace K4 := Lib.hid (K4.out.below hB)
      replace K1 := Lib.hid (K1.out.below hB)
      replace HB := Below.on hB HB
      clear hB
      (have k0 := Blk.cell K0.out; have f0 := Blk.free K0.out; have l0 := Blk.lt K0.out; have m0 := Nat.le_of_lt l0)
      go_wp2_with fail
      clear k0 f0 l0 m0
      replace K0 := Lib.hid (K0.out.set_ 6 (.int .u32 (vw (v.g + u.g))))
      replace K4 := Lib.hid (K4.out.over2 (b := w.heap.size) (i := 6) (u := .int .u32 (vw (v.g + u.g))) (by omega))
      replace K1 := Lib.hid (K1.out.over2 (b := w.heap.size) (i := 6) (u := .int .u32 (vw (v.g + u.g))) (by omega))
      replace HB := HB.setCell (p := ⟨w.heap.size, 6, none⟩) (Nat.le_refl _) (.int .u32 (vw (v.g + u.g)))
      simp only [List.setIfInBounds_toArray, List.set_cons_succ, List.set_cons_zero] at K0
      generalize w'.setCell ⟨w.heap.size, 6, none⟩ (.int .u32 (vw (v.g + u.g))) = v6 at K0 K1 K4 HB ⊢
      rw [rounds_succ]
      (have k0 := Blk.cell K0.out; have f0 := Blk.free K0.out; have l0 := Blk.lt K0.out; have m0 := Nat.le_of_lt l0; have k4 := Blk.cell K4.out; have f4 := Blk.free K4.out; have l4 := Blk.lt K4.out; have m4 := Nat.le_of_lt l4)
      go_wp2_with fail
      (refine wp_region_later_tail 9 (by kernel_rfl) (by kernel_rfl) ?_; simp only [List.take_succ_cons, List.take_zero, List.drop_succ_cons, List.drop_zero]; (repeat (go_big_quiet_step (fail))); refine wpQuiet_nil ?_; intro w' hB)
      clear k0 f0 l0 m0 k4 f4 l4 m4
      replace K0 := Lib.hid (K0.out.below hB)
      replace K4 := Lib.hid (K4.out.below hB)
      replace K1 := Lib.hid (K1.out.below hB)
      replace HB := Below.on hB HB
      clear hB
      (have k0 := Blk.cell K0.out; have f0 := Blk.free K0.out; have l0 := Blk.lt K0.out; have m0 := Nat.le_of_lt l0)
      go_wp2_with fail
      clear k0 f0 l0 m0
      replace K0 := Lib.hid (K0.out.set_ 7 (.int .u32 (vw (v.h + u.h))))
      replace K4 := Lib.hid (K4.out.over2 (b := w.heap.size) (i := 7) (u := .int .u32 (vw (v.h + u.h))) (by omega))
      replace K1 := Lib.hid (K1.out.over2 (b := w.heap.size) (i := 7) (u := .int .u32 (vw (v.h + u.h))) (by omega))
      replace HB := HB.setCell (p := ⟨w.heap.size, 7, none⟩) (Nat.le_refl _) (.int .u32 (vw (v.h + u.h)))
      simp only [List.setIfInBounds_toArray, List.set_cons_succ, List.set_cons_zero] at K0
      generalize w'.setCell ⟨w.heap.size, 7, none⟩ (.int .u32 (vw (v.h + u.h))) = v7 at K0 K1 K4 HB ⊢
      rw [rounds_succ]
      (have k0 := Blk.cell K0.out; have f0 := Blk.free K0.out; have l0 := Blk.lt K0.out; have m0 := Nat.le_of_lt l0; have k1 := Blk.cell K1.out; have f1 := Blk.free K1.out; have l1 := Blk.lt K1.out; have m1 := Nat.le_of_lt l1)
      go_wp2_with fail
      refine bodyPost_ret (results_cell_row rfl _ _ (w.heap.size + 1) _ _ _ _ rfl (blk_put8 _ _ _ _ _ _ _ _ K1.out) Tryz.underlying80 rfl (by kernel_rfl)) rfl ⟨by rw [← HU.out]; rfl, below_put8 (by omega) _ _ _ _ _ _ _ _ HB⟩
end Go.Proofs.YtpmmjomejackkaaGreatDoor
end
