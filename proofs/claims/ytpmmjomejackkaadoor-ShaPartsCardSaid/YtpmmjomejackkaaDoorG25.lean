/- What the later texts stand on (Sha8, App, Sha9): plain laws and walks, each by its own conditions. -/
import Derived.Test.YtpmmjomejackkaaDoorG24
import Derived.Test.YtpmmjomejackkaaDoorG13
import Derived.Lib.FrozenHead
import Derived.Laws.OwnMore
set_option linter.unusedSimpArgs false
set_option linter.unusedVariables false
section
set_option linter.unusedSimpArgs false
set_option linter.unusedVariables false
namespace Go.Proofs.YtpmmjomejackkaaDoor
open BigFrame Go.RowKit Go.Phx Go.Shelf
attribute [local go_sem] Oper.semAt_some

theorem blk_over8 {w : World} {g b : Nat} {t : TypeId} {cs : Array Value} (hn : g ≠ b) (x0 x1 x2 x3 x4 x5 x6 x7 : Value) (h : Blk w g t cs) : Blk ((((((((w.setCell ⟨b, 0, none⟩ x0).setCell ⟨b, 1, none⟩ x1).setCell ⟨b, 2, none⟩ x2).setCell ⟨b, 3, none⟩ x3).setCell ⟨b, 4, none⟩ x4).setCell ⟨b, 5, none⟩ x5).setCell ⟨b, 6, none⟩ x6).setCell ⟨b, 7, none⟩ x7) g t cs :=
  Blk.over2 hn (Blk.over2 hn (Blk.over2 hn (Blk.over2 hn (Blk.over2 hn (Blk.over2 hn (Blk.over2 hn (Blk.over2 hn (h))))))))
theorem blk_put8 {w : World} {b : Nat} {t : TypeId} {y0 y1 y2 y3 y4 y5 y6 y7 : Value} (x0 x1 x2 x3 x4 x5 x6 x7 : Value) (h : Blk w b t #[y0, y1, y2, y3, y4, y5, y6, y7]) : Blk ((((((((w.setCell ⟨b, 0, none⟩ x0).setCell ⟨b, 1, none⟩ x1).setCell ⟨b, 2, none⟩ x2).setCell ⟨b, 3, none⟩ x3).setCell ⟨b, 4, none⟩ x4).setCell ⟨b, 5, none⟩ x5).setCell ⟨b, 6, none⟩ x6).setCell ⟨b, 7, none⟩ x7) b t #[x0, x1, x2, x3, x4, x5, x6, x7] := by
  have := ((((((((h.set_ 0 x0).set_ 1 x1).set_ 2 x2).set_ 3 x3).set_ 4 x4).set_ 5 x5).set_ 6 x6).set_ 7 x7)
  simpa using this
theorem below_put8 {n : Nat} {w0 w : World} {b : Nat} (hb : n ≤ b) (x0 x1 x2 x3 x4 x5 x6 x7 : Value) (h : Below n w0 w) : Below n w0 ((((((((w.setCell ⟨b, 0, none⟩ x0).setCell ⟨b, 1, none⟩ x1).setCell ⟨b, 2, none⟩ x2).setCell ⟨b, 3, none⟩ x3).setCell ⟨b, 4, none⟩ x4).setCell ⟨b, 5, none⟩ x5).setCell ⟨b, 6, none⟩ x6).setCell ⟨b, 7, none⟩ x7) :=
  ((((((((h.setCell (p := ⟨b, 0, none⟩) hb x0).setCell (p := ⟨b, 1, none⟩) hb x1).setCell (p := ⟨b, 2, none⟩) hb x2).setCell (p := ⟨b, 3, none⟩) hb x3).setCell (p := ⟨b, 4, none⟩) hb x4).setCell (p := ⟨b, 5, none⟩) hb x5).setCell (p := ⟨b, 6, none⟩) hb x6).setCell (p := ⟨b, 7, none⟩) hb x7)
@[go_sem] theorem not_w (x : Wd) : bits .xor .u32 (if IntKind.u32.signed = true then -1 else IntKind.u32.max) (vw x) = vw (~~~x) := by
  rw [show (if IntKind.u32.signed = true then -1 else IntKind.u32.max : Int) = vw (BitVec.allOnes 32) from by decide, xor_w, BitVec.allOnes_xor]
set_option maxRecDepth 100000 in
set_option maxHeartbeats 4000000 in
theorem rtake_calls (v : St) (g o c : Nat) (l : List UInt8) (hl : l.length = 64) (w : World) (hb : BytesAt w g o l) (ho : o + 64 ≤ 9223372036854775807) (hc : 64 ≤ c) :
    Calls Tryd.prog 63 #[.agg (cS v), .slice (some ⟨g, o, none⟩) 64 c] w (Ret w (.agg (cS (takeB v l)))) := by
  have hTB : takeB v l = v.add (roundW v (moreW l 48) 64) := by
    rw [roundW_all _ _ (moreW_len l 48 (by decide)), moreW_all]
    rfl
  rw [hTB]
  clear hTB
  have hML := moreW_len l 48 (by decide)
  have HSP := fun W => Lib.hid (spread_calls g o c l hl W)
  have HBA := Lib.hid hb
  have hgl := hb.1
  clear hb
  unfold cS
  go_enter Tryd.func63, Tryd.ntmps63
  go_wp2_with fail
  refine (HSP _).out (HBA.out.from (n := w.heap.size) (by repeat (first | assumption | exact Below.refl _ _ | refine Below.setCell ?_ (by first | exact Nat.le_refl _ | (simp; done) | omega | (simp; omega)) _ | refine Below.alloc ?_ (by first | exact Nat.le_refl _ | (simp; done) | omega | (simp; omega)) _ | refine below_drewN ?_ _ | refine Below.drew ?_ | refine Below.on (by assumption) ?_ | refine Below.via (by assumption) (by first | exact Nat.le_refl _ | (simp; done) | omega | (simp; omega)) ?_)) hgl (by simp; omega)) ho hc |>.mono ?_
  rintro e w1 ⟨rfl, hB⟩
  clear HSP HBA
  (have HBn : Below w.heap.size w w1 := Below.on hB (by repeat (first | assumption | exact Below.refl _ _ | refine Below.setCell ?_ (by first | exact Nat.le_refl _ | (simp; done) | omega | (simp; omega)) _ | refine Below.alloc ?_ (by first | exact Nat.le_refl _ | (simp; done) | omega | (simp; omega)) _ | refine below_drewN ?_ _ | refine Below.drew ?_ | refine Below.on (by assumption) ?_ | refine Below.via (by assumption) (by first | exact Nat.le_refl _ | (simp; done) | omega | (simp; omega)) ?_)); have N0 := Lib.hid (Blk.below (g := w.heap.size) (by repeat (first | with_reducible exact Blk.new0 _ _ _ | with_reducible exact Blk.new1 _ _ _ _ | with_reducible exact Blk.new2 _ _ _ _ _ | with_reducible exact Blk.new3 _ _ _ _ _ _ | with_reducible exact Blk.new4 _ _ _ _ _ _ _ | with_reducible exact Blk.newS1 _ _ _ _ _ | with_reducible exact Blk.newS2 _ _ _ _ _ _ _ | with_reducible exact Blk.newS3 _ _ _ _ _ _ _ _ _ | with_reducible apply Blk.set_ | with_reducible apply Blk.alloc | with_reducible apply Blk.drewN | with_reducible apply Blk.drew | (with_reducible apply Blk.over2; first | assumption | omega))) hB); (try simp only [List.setIfInBounds_toArray, List.set_cons_succ, List.set_cons_zero] at N0); have N1 := Lib.hid (Blk.below (g := w.heap.size + 1) (by repeat (first | with_reducible exact Blk.new0 _ _ _ | with_reducible exact Blk.new1 _ _ _ _ | with_reducible exact Blk.new2 _ _ _ _ _ | with_reducible exact Blk.new3 _ _ _ _ _ _ | with_reducible exact Blk.new4 _ _ _ _ _ _ _ | with_reducible exact Blk.newS1 _ _ _ _ _ | with_reducible exact Blk.newS2 _ _ _ _ _ _ _ | with_reducible exact Blk.newS3 _ _ _ _ _ _ _ _ _ | with_reducible apply Blk.set_ | with_reducible apply Blk.alloc | with_reducible apply Blk.drewN | with_reducible apply Blk.drew | (with_reducible apply Blk.over2; first | assumption | omega))) hB); (try simp only [List.setIfInBounds_toArray, List.set_cons_succ, List.set_cons_zero] at N1); (try clear HB); clear hB; have HB := HBn; clear HBn; have HZw1 := HB.size; have K0 := N0; clear N0; have k0 := Blk.cell K0.out; have f0 := Blk.free K0.out; have l0 := Blk.lt K0.out; have m0 := Nat.le_of_lt l0; have K1 := N1; clear N1; have k1 := Blk.cell K1.out; have f1 := Blk.free K1.out; have l1 := Blk.lt K1.out; have m1 := Nat.le_of_lt l1)
  have hz1 := l1
  go_wp2_with (first
    | (with_reducible refine wpList_store_new (o := ⟨none, .store 114 _ _, _, _, _, _⟩) rfl _ _ rfl rfl rfl ?hs1 ?hi1 (cw_one _) ?_)
    | fail)
  case hs1 => rw [cw_size, hML]; kernel_rfl
  case hi1 => rw [cw_size, hML]; kernel_rfl
  go_wp2_with fail
  refine (words_calls _).mono ?_
  rintro e w2 ⟨rfl, hB⟩
  (have HBn : Below w.heap.size w w2 := Below.on hB (by repeat (first | assumption | exact Below.refl _ _ | refine Below.setCell ?_ (by first | exact Nat.le_refl _ | (simp; done) | omega | (simp; omega)) _ | refine Below.alloc ?_ (by first | exact Nat.le_refl _ | (simp; done) | omega | (simp; omega)) _ | refine below_drewN ?_ _ | refine Below.drew ?_ | refine Below.on (by assumption) ?_ | refine Below.via (by assumption) (by first | exact Nat.le_refl _ | (simp; done) | omega | (simp; omega)) ?_)); have N0 := Lib.hid (Blk.below (g := w.heap.size) (by repeat (first | with_reducible exact K0.out | with_reducible exact Blk.new0 _ _ _ | with_reducible exact Blk.new1 _ _ _ _ | with_reducible exact Blk.new2 _ _ _ _ _ | with_reducible exact Blk.new3 _ _ _ _ _ _ | with_reducible exact Blk.new4 _ _ _ _ _ _ _ | with_reducible exact Blk.newS1 _ _ _ _ _ | with_reducible exact Blk.newS2 _ _ _ _ _ _ _ | with_reducible exact Blk.newS3 _ _ _ _ _ _ _ _ _ | with_reducible apply Blk.set_ | with_reducible apply Blk.alloc | with_reducible apply Blk.drewN | with_reducible apply Blk.drew | (with_reducible apply Blk.over2; first | assumption | omega))) hB); (try simp only [List.setIfInBounds_toArray, List.set_cons_succ, List.set_cons_zero] at N0); have N1 := Lib.hid (Blk.below (g := w.heap.size + 1) (by repeat (first | with_reducible exact K1.out | with_reducible exact Blk.new0 _ _ _ | with_reducible exact Blk.new1 _ _ _ _ | with_reducible exact Blk.new2 _ _ _ _ _ | with_reducible exact Blk.new3 _ _ _ _ _ _ | with_reducible exact Blk.new4 _ _ _ _ _ _ _ | with_reducible exact Blk.newS1 _ _ _ _ _ | with_reducible exact Blk.newS2 _ _ _ _ _ _ _ | with_reducible exact Blk.newS3 _ _ _ _ _ _ _ _ _ | with_reducible apply Blk.set_ | with_reducible apply Blk.alloc | with_reducible apply Blk.drewN | with_reducible apply Blk.drew | (with_reducible apply Blk.over2; first | assumption | omega))) hB); (try simp only [List.setIfInBounds_toArray, List.set_cons_succ, List.set_cons_zero] at N1); have N2 := Lib.hid (Blk.below (g := w1.heap.size) (by repeat (first | with_reducible exact Blk.new0 _ _ _ | with_reducible exact Blk.new1 _ _ _ _ | with_reducible exact Blk.new2 _ _ _ _ _ | with_reducible exact Blk.new3 _ _ _ _ _ _ | with_reducible exact Blk.new4 _ _ _ _ _ _ _ | with_reducible exact Blk.newS1 _ _ _ _ _ | with_reducible exact Blk.newS2 _ _ _ _ _ _ _ | with_reducible exact Blk.newS3 _ _ _ _ _ _ _ _ _ | with_reducible apply Blk.set_ | with_reducible apply Blk.alloc | with_reducible apply Blk.drewN | with_reducible apply Blk.drew | (with_reducible apply Blk.over2; first | assumption | omega))) hB); (try simp only [List.setIfInBounds_toArray, List.set_cons_succ, List.set_cons_zero] at N2); clear K0 k0 f0 l0 m0 K1 k1 f1 l1 m1; (try clear HB); clear hB; have HB := HBn; clear HBn; have HZw2 := HB.size; have K0 := N0; clear N0; have k0 := Blk.cell K0.out; have f0 := Blk.free K0.out; have l0 := Blk.lt K0.out; have m0 := Nat.le_of_lt l0; have K1 := N1; clear N1; have k1 := Blk.cell K1.out; have f1 := Blk.free K1.out; have l1 := Blk.lt K1.out; have m1 := Nat.le_of_lt l1; have K2 := N2; clear N2; have k2 := Blk.cell K2.out; have f2 := Blk.free K2.out; have l2 := Blk.lt K2.out; have m2 := Nat.le_of_lt l2)
  go_wp2_with (first
    | (with_reducible refine wpList_store_new (o := ⟨none, .store 114 _ _, _, _, _, _⟩) rfl _ _ rfl rfl rfl ?hs2 ?hi2 (cw_one _) ?_)
    | fail)
  case hs2 => kernel_rfl
  case hi2 => kernel_rfl
  go_wp2_with fail
  have hz2 : w1.heap.size < w2.heap.size := l2
  have K3 := Lib.hid (show Blk ((w2.alloc (.cells (cw kTab) 114)).alloc (.cells #[.int .u32 (vw v.a), .int .u32 (vw v.b), .int .u32 (vw v.c), .int .u32 (vw v.d), .int .u32 (vw v.e), .int .u32 (vw v.f), .int .u32 (vw v.g), .int .u32 (vw v.h)] 63)) w2.heap.size 114 (cw kTab) from (Blk.new0 _ _ _).alloc _)
  have K4 := Lib.hid (Blk.new1 w2 (.cells (cw kTab) 114) 63 #[.int .u32 (vw v.a), .int .u32 (vw v.b), .int .u32 (vw v.c), .int .u32 (vw v.d), .int .u32 (vw v.e), .int .u32 (vw v.f), .int .u32 (vw v.g), .int .u32 (vw v.h)])
  replace K0 := Lib.hid ((K0.out.alloc (.cells (cw kTab) 114)).alloc (.cells #[.int .u32 (vw v.a), .int .u32 (vw v.b), .int .u32 (vw v.c), .int .u32 (vw v.d), .int .u32 (vw v.e), .int .u32 (vw v.f), .int .u32 (vw v.g), .int .u32 (vw v.h)] 63))
  replace K1 := Lib.hid ((K1.out.alloc (.cells (cw kTab) 114)).alloc (.cells #[.int .u32 (vw v.a), .int .u32 (vw v.b), .int .u32 (vw v.c), .int .u32 (vw v.d), .int .u32 (vw v.e), .int .u32 (vw v.f), .int .u32 (vw v.g), .int .u32 (vw v.h)] 63))
  replace K2 := Lib.hid ((K2.out.alloc (.cells (cw kTab) 114)).alloc (.cells #[.int .u32 (vw v.a), .int .u32 (vw v.b), .int .u32 (vw v.c), .int .u32 (vw v.d), .int .u32 (vw v.e), .int .u32 (vw v.f), .int .u32 (vw v.g), .int .u32 (vw v.h)] 63))
  have HB3 : Below w.heap.size w ((w2.alloc (.cells (cw kTab) 114)).alloc (.cells #[.int .u32 (vw v.a), .int .u32 (vw v.b), .int .u32 (vw v.c), .int .u32 (vw v.d), .int .u32 (vw v.e), .int .u32 (vw v.f), .int .u32 (vw v.g), .int .u32 (vw v.h)] 63)) := (by repeat (first | assumption | exact Below.refl _ _ | refine Below.setCell ?_ (by first | exact Nat.le_refl _ | (simp; done) | omega | (simp; omega)) _ | refine Below.alloc ?_ (by first | exact Nat.le_refl _ | (simp; done) | omega | (simp; omega)) _ | refine below_drewN ?_ _ | refine Below.drew ?_ | refine Below.on (by assumption) ?_ | refine Below.via (by assumption) (by first | exact Nat.le_refl _ | (simp; done) | omega | (simp; omega)) ?_))
  clear HB HZw1 HZw2 k0 k1 k2 f0 f1 f2 l0 l1 l2 m0 m1 m2
  generalize ((w2.alloc (.cells (cw kTab) 114)).alloc (.cells #[.int .u32 (vw v.a), .int .u32 (vw v.b), .int .u32 (vw v.c), .int .u32 (vw v.d), .int .u32 (vw v.e), .int .u32 (vw v.f), .int .u32 (vw v.g), .int .u32 (vw v.h)] 63)) = W at K0 K1 K2 K3 K4 HB3 ⊢
  obtain ⟨b2, hb2⟩ : ∃ b2, w1.heap.size = b2 := ⟨_, rfl⟩
  obtain ⟨b3, hb3⟩ : ∃ b3, w2.heap.size = b3 := ⟨_, rfl⟩
  rw [hb2] at hz1 hz2 K2 ⊢
  rw [hb3] at hz2 K3 K4 ⊢
  clear hb2 hb3
  have HR := fun k hk => roundW_succ v (moreW l 48) hML k hk
  have hg := fun (i : Nat) (hi : i < 64) => cw_get (L := moreW l 48) (i := i) (by omega)
  have hgk := fun (i : Nat) (hi : i < 64) => cw_get (L := kTab) (i := i) hi
  generalize moreW l 48 = L at *
  go_loopw [8] (fun i wr => ∃ (k : Nat) (u : St), k ≤ 64 ∧ u = roundW v L k ∧ i = .int .i64 k ∧ Blk wr (b3 + 1) 63 (cS u) ∧ Blk wr b2 114 (cw L) ∧ Blk wr b3 114 (cw kTab) ∧ Blk wr w.heap.size 63 (cS v) ∧
      Blk wr (w.heap.size + 1) 63 #[.int .u32 0, .int .u32 0, .int .u32 0, .int .u32 0, .int .u32 0, .int .u32 0, .int .u32 0, .int .u32 0] ∧ Below w.heap.size w wr) (fun i _ => (64 - intOf i).toNat)
  case atStart => exact ⟨0, v, by omega, rfl, rfl, K4.out, K2.out, K3.out, K0.out, K1.out, HB3⟩
  case round =>
    clear K0 K1 K2 K3 K4 HB3
    obtain ⟨k, u, hk, hu, rfl, K4, K2, K3, K0, K1, HB⟩ := hrel
    replace K0 := Lib.hid K0
    replace K1 := Lib.hid K1
    replace K2 := Lib.hid K2
    replace K3 := Lib.hid K3
    unfold cS at K4
    replace K4 := Lib.hid K4
    by_cases hlt : k < 64
    · have HS := HR k hlt
      rw [← hu] at HS
      have e2 := hg k hlt
      have e3 := hgk k hlt
      clear HR hg hgk hu hML
      generalize L.getD k 0 = y at *
      generalize kTab.getD k 0 = kk at *
      replace HS := Lib.hid HS
      (have k0 := Blk.cell K0.out; have f0 := Blk.free K0.out; have l0 := Blk.lt K0.out; have m0 := Nat.le_of_lt l0; have k1 := Blk.cell K1.out; have f1 := Blk.free K1.out; have l1 := Blk.lt K1.out; have m1 := Nat.le_of_lt l1; have k2 := Blk.cell K2.out; have f2 := Blk.free K2.out; have l2 := Blk.lt K2.out; have m2 := Nat.le_of_lt l2; have k3 := Blk.cell K3.out; have f3 := Blk.free K3.out; have l3 := Blk.lt K3.out; have m3 := Nat.le_of_lt l3; have k4 := Blk.cell K4.out; have f4 := Blk.free K4.out; have l4 := Blk.lt K4.out; have m4 := Nat.le_of_lt l4)
      go_wp2_with fail
      (refine wp_region_later (by kernel_rfl) (by kernel_rfl) ?_; (repeat (go_big_quiet_step ((go_at_call 103; exact lq (rturn_calls _ _ (by decide) _))))); refine wpQuiet_nil ?_; intro w' hB)
      have c1 := ch_eq u.e u.f u.g
      have c2 := maj_eq u.a u.b u.c
      replace c1 := Lib.hid c1
      replace c2 := Lib.hid c2
      (have HBn : Below w.heap.size w w' := Below.on hB (by repeat (first | assumption | exact Below.refl _ _ | refine Below.setCell ?_ (by first | exact Nat.le_refl _ | (simp; done) | omega | (simp; omega)) _ | refine Below.alloc ?_ (by first | exact Nat.le_refl _ | (simp; done) | omega | (simp; omega)) _ | refine below_drewN ?_ _ | refine Below.drew ?_ | refine Below.on (by assumption) ?_ | refine Below.via (by assumption) (by first | exact Nat.le_refl _ | (simp; done) | omega | (simp; omega)) ?_)); have N0 := Lib.hid (Blk.below (g := w.heap.size) (by repeat (first | with_reducible exact K0.out | with_reducible exact Blk.new0 _ _ _ | with_reducible exact Blk.new1 _ _ _ _ | with_reducible exact Blk.new2 _ _ _ _ _ | with_reducible exact Blk.new3 _ _ _ _ _ _ | with_reducible exact Blk.new4 _ _ _ _ _ _ _ | with_reducible exact Blk.newS1 _ _ _ _ _ | with_reducible exact Blk.newS2 _ _ _ _ _ _ _ | with_reducible exact Blk.newS3 _ _ _ _ _ _ _ _ _ | with_reducible apply Blk.set_ | with_reducible apply Blk.alloc | with_reducible apply Blk.drewN | with_reducible apply Blk.drew | (with_reducible apply Blk.over2; first | assumption | omega))) hB); (try simp only [List.setIfInBounds_toArray, List.set_cons_succ, List.set_cons_zero] at N0); have N1 := Lib.hid (Blk.below (g := w.heap.size + 1) (by repeat (first | with_reducible exact K1.out | with_reducible exact Blk.new0 _ _ _ | with_reducible exact Blk.new1 _ _ _ _ | with_reducible exact Blk.new2 _ _ _ _ _ | with_reducible exact Blk.new3 _ _ _ _ _ _ | with_reducible exact Blk.new4 _ _ _ _ _ _ _ | with_reducible exact Blk.newS1 _ _ _ _ _ | with_reducible exact Blk.newS2 _ _ _ _ _ _ _ | with_reducible exact Blk.newS3 _ _ _ _ _ _ _ _ _ | with_reducible apply Blk.set_ | with_reducible apply Blk.alloc | with_reducible apply Blk.drewN | with_reducible apply Blk.drew | (with_reducible apply Blk.over2; first | assumption | omega))) hB); (try simp only [List.setIfInBounds_toArray, List.set_cons_succ, List.set_cons_zero] at N1); have N2 := Lib.hid (Blk.below (g := b2) (by repeat (first | with_reducible exact K2.out | with_reducible exact Blk.new0 _ _ _ | with_reducible exact Blk.new1 _ _ _ _ | with_reducible exact Blk.new2 _ _ _ _ _ | with_reducible exact Blk.new3 _ _ _ _ _ _ | with_reducible exact Blk.new4 _ _ _ _ _ _ _ | with_reducible exact Blk.newS1 _ _ _ _ _ | with_reducible exact Blk.newS2 _ _ _ _ _ _ _ | with_reducible exact Blk.newS3 _ _ _ _ _ _ _ _ _ | with_reducible apply Blk.set_ | with_reducible apply Blk.alloc | with_reducible apply Blk.drewN | with_reducible apply Blk.drew | (with_reducible apply Blk.over2; first | assumption | omega))) hB); (try simp only [List.setIfInBounds_toArray, List.set_cons_succ, List.set_cons_zero] at N2); have N3 := Lib.hid (Blk.below (g := b3) (by repeat (first | with_reducible exact K3.out | with_reducible exact Blk.new0 _ _ _ | with_reducible exact Blk.new1 _ _ _ _ | with_reducible exact Blk.new2 _ _ _ _ _ | with_reducible exact Blk.new3 _ _ _ _ _ _ | with_reducible exact Blk.new4 _ _ _ _ _ _ _ | with_reducible exact Blk.newS1 _ _ _ _ _ | with_reducible exact Blk.newS2 _ _ _ _ _ _ _ | with_reducible exact Blk.newS3 _ _ _ _ _ _ _ _ _ | with_reducible apply Blk.set_ | with_reducible apply Blk.alloc | with_reducible apply Blk.drewN | with_reducible apply Blk.drew | (with_reducible apply Blk.over2; first | assumption | omega))) hB); (try simp only [List.setIfInBounds_toArray, List.set_cons_succ, List.set_cons_zero] at N3); have N4 := Lib.hid (Blk.below (g := b3 + 1) (by repeat (first | with_reducible exact K4.out | with_reducible exact Blk.new0 _ _ _ | with_reducible exact Blk.new1 _ _ _ _ | with_reducible exact Blk.new2 _ _ _ _ _ | with_reducible exact Blk.new3 _ _ _ _ _ _ | with_reducible exact Blk.new4 _ _ _ _ _ _ _ | with_reducible exact Blk.newS1 _ _ _ _ _ | with_reducible exact Blk.newS2 _ _ _ _ _ _ _ | with_reducible exact Blk.newS3 _ _ _ _ _ _ _ _ _ | with_reducible apply Blk.set_ | with_reducible apply Blk.alloc | with_reducible apply Blk.drewN | with_reducible apply Blk.drew | (with_reducible apply Blk.over2; first | assumption | omega))) hB); (try simp only [List.setIfInBounds_toArray, List.set_cons_succ, List.set_cons_zero] at N4); clear K0 k0 f0 l0 m0 K1 k1 f1 l1 m1 K2 k2 f2 l2 m2 K3 k3 f3 l3 m3 K4 k4 f4 l4 m4; (try clear HB); clear hB; have HB := HBn; clear HBn; have HZw' := HB.size; have K0 := N0; clear N0; have k0 := Blk.cell K0.out; have f0 := Blk.free K0.out; have l0 := Blk.lt K0.out; have m0 := Nat.le_of_lt l0; have K1 := N1; clear N1; have k1 := Blk.cell K1.out; have f1 := Blk.free K1.out; have l1 := Blk.lt K1.out; have m1 := Nat.le_of_lt l1; have K2 := N2; clear N2; have k2 := Blk.cell K2.out; have f2 := Blk.free K2.out; have l2 := Blk.lt K2.out; have m2 := Nat.le_of_lt l2; have K3 := N3; clear N3; have k3 := Blk.cell K3.out; have f3 := Blk.free K3.out; have l3 := Blk.lt K3.out; have m3 := Nat.le_of_lt l3; have K4 := N4; clear N4; have k4 := Blk.cell K4.out; have f4 := Blk.free K4.out; have l4 := Blk.lt K4.out; have m4 := Nat.le_of_lt l4)
      go_wp2_with fail
      (refine wp_region_later (by kernel_rfl) (by kernel_rfl) ?_; (repeat (go_big_quiet_step ((go_at_call 103; exact lq (rturn_calls _ _ (by decide) _))))); refine wpQuiet_nil ?_; intro w' hB)
      (have HBn : Below w.heap.size w w' := Below.on hB (by repeat (first | assumption | exact Below.refl _ _ | refine Below.setCell ?_ (by first | exact Nat.le_refl _ | (simp; done) | omega | (simp; omega)) _ | refine Below.alloc ?_ (by first | exact Nat.le_refl _ | (simp; done) | omega | (simp; omega)) _ | refine below_drewN ?_ _ | refine Below.drew ?_ | refine Below.on (by assumption) ?_ | refine Below.via (by assumption) (by first | exact Nat.le_refl _ | (simp; done) | omega | (simp; omega)) ?_)); have N0 := Lib.hid (Blk.below (g := w.heap.size) (by repeat (first | with_reducible exact K0.out | with_reducible exact Blk.new0 _ _ _ | with_reducible exact Blk.new1 _ _ _ _ | with_reducible exact Blk.new2 _ _ _ _ _ | with_reducible exact Blk.new3 _ _ _ _ _ _ | with_reducible exact Blk.new4 _ _ _ _ _ _ _ | with_reducible exact Blk.newS1 _ _ _ _ _ | with_reducible exact Blk.newS2 _ _ _ _ _ _ _ | with_reducible exact Blk.newS3 _ _ _ _ _ _ _ _ _ | with_reducible apply Blk.set_ | with_reducible apply Blk.alloc | with_reducible apply Blk.drewN | with_reducible apply Blk.drew | (with_reducible apply Blk.over2; first | assumption | omega))) hB); (try simp only [List.setIfInBounds_toArray, List.set_cons_succ, List.set_cons_zero] at N0); have N1 := Lib.hid (Blk.below (g := w.heap.size + 1) (by repeat (first | with_reducible exact K1.out | with_reducible exact Blk.new0 _ _ _ | with_reducible exact Blk.new1 _ _ _ _ | with_reducible exact Blk.new2 _ _ _ _ _ | with_reducible exact Blk.new3 _ _ _ _ _ _ | with_reducible exact Blk.new4 _ _ _ _ _ _ _ | with_reducible exact Blk.newS1 _ _ _ _ _ | with_reducible exact Blk.newS2 _ _ _ _ _ _ _ | with_reducible exact Blk.newS3 _ _ _ _ _ _ _ _ _ | with_reducible apply Blk.set_ | with_reducible apply Blk.alloc | with_reducible apply Blk.drewN | with_reducible apply Blk.drew | (with_reducible apply Blk.over2; first | assumption | omega))) hB); (try simp only [List.setIfInBounds_toArray, List.set_cons_succ, List.set_cons_zero] at N1); have N2 := Lib.hid (Blk.below (g := b2) (by repeat (first | with_reducible exact K2.out | with_reducible exact Blk.new0 _ _ _ | with_reducible exact Blk.new1 _ _ _ _ | with_reducible exact Blk.new2 _ _ _ _ _ | with_reducible exact Blk.new3 _ _ _ _ _ _ | with_reducible exact Blk.new4 _ _ _ _ _ _ _ | with_reducible exact Blk.newS1 _ _ _ _ _ | with_reducible exact Blk.newS2 _ _ _ _ _ _ _ | with_reducible exact Blk.newS3 _ _ _ _ _ _ _ _ _ | with_reducible apply Blk.set_ | with_reducible apply Blk.alloc | with_reducible apply Blk.drewN | with_reducible apply Blk.drew | (with_reducible apply Blk.over2; first | assumption | omega))) hB); (try simp only [List.setIfInBounds_toArray, List.set_cons_succ, List.set_cons_zero] at N2); have N3 := Lib.hid (Blk.below (g := b3) (by repeat (first | with_reducible exact K3.out | with_reducible exact Blk.new0 _ _ _ | with_reducible exact Blk.new1 _ _ _ _ | with_reducible exact Blk.new2 _ _ _ _ _ | with_reducible exact Blk.new3 _ _ _ _ _ _ | with_reducible exact Blk.new4 _ _ _ _ _ _ _ | with_reducible exact Blk.newS1 _ _ _ _ _ | with_reducible exact Blk.newS2 _ _ _ _ _ _ _ | with_reducible exact Blk.newS3 _ _ _ _ _ _ _ _ _ | with_reducible apply Blk.set_ | with_reducible apply Blk.alloc | with_reducible apply Blk.drewN | with_reducible apply Blk.drew | (with_reducible apply Blk.over2; first | assumption | omega))) hB); (try simp only [List.setIfInBounds_toArray, List.set_cons_succ, List.set_cons_zero] at N3); have N4 := Lib.hid (Blk.below (g := b3 + 1) (by repeat (first | with_reducible exact K4.out | with_reducible exact Blk.new0 _ _ _ | with_reducible exact Blk.new1 _ _ _ _ | with_reducible exact Blk.new2 _ _ _ _ _ | with_reducible exact Blk.new3 _ _ _ _ _ _ | with_reducible exact Blk.new4 _ _ _ _ _ _ _ | with_reducible exact Blk.newS1 _ _ _ _ _ | with_reducible exact Blk.newS2 _ _ _ _ _ _ _ | with_reducible exact Blk.newS3 _ _ _ _ _ _ _ _ _ | with_reducible apply Blk.set_ | with_reducible apply Blk.alloc | with_reducible apply Blk.drewN | with_reducible apply Blk.drew | (with_reducible apply Blk.over2; first | assumption | omega))) hB); (try simp only [List.setIfInBounds_toArray, List.set_cons_succ, List.set_cons_zero] at N4); clear K0 k0 f0 l0 m0 K1 k1 f1 l1 m1 K2 k2 f2 l2 m2 K3 k3 f3 l3 m3 K4 k4 f4 l4 m4; (try clear HB); clear hB; have HB := HBn; clear HBn; have HZw' := HB.size; have K0 := N0; clear N0; have k0 := Blk.cell K0.out; have f0 := Blk.free K0.out; have l0 := Blk.lt K0.out; have m0 := Nat.le_of_lt l0; have K1 := N1; clear N1; have k1 := Blk.cell K1.out; have f1 := Blk.free K1.out; have l1 := Blk.lt K1.out; have m1 := Nat.le_of_lt l1; have K2 := N2; clear N2; have k2 := Blk.cell K2.out; have f2 := Blk.free K2.out; have l2 := Blk.lt K2.out; have m2 := Nat.le_of_lt l2; have K3 := N3; clear N3; have k3 := Blk.cell K3.out; have f3 := Blk.free K3.out; have l3 := Blk.lt K3.out; have m3 := Nat.le_of_lt l3; have K4 := N4; clear N4; have k4 := Blk.cell K4.out; have f4 := Blk.free K4.out; have l4 := Blk.lt K4.out; have m4 := Nat.le_of_lt l4)
      go_wp2_with fail
      rw [c1.out, c2.out]
      go_roundw
      case rel => exact ⟨k + 1, rnd u kk y, by omega, HS.out.symm, by go_num, blk_put8 _ _ _ _ _ _ _ _ K4.out, blk_over8 (by omega) _ _ _ _ _ _ _ _ K2.out, blk_over8 (by omega) _ _ _ _ _ _ _ _ K3.out, blk_over8 (by omega) _ _ _ _ _ _ _ _ K0.out, blk_over8 (by omega) _ _ _ _ _ _ _ _ K1.out, below_put8 (by omega) _ _ _ _ _ _ _ _ HB⟩
      case measure => simp [intOf]; omega
    · obtain rfl : k = 64 := by omega
      have HU := Lib.hid hu
      clear hu HR hg hgk K2 K3
      simp only [show ((64 : Nat) : Int) = 64 from rfl]
      unfold cS at K0
      replace K0 := Lib.hid K0.out
      go_wp2_with fail
      refine wp_loop_rounds 9 ?_
      rw [rounds_succ]
      (have k0 := Blk.cell K0.out; have f0 := Blk.free K0.out; have l0 := Blk.lt K0.out; have m0 := Nat.le_of_lt l0; have k4 := Blk.cell K4.out; have f4 := Blk.free K4.out; have l4 := Blk.lt K4.out; have m4 := Nat.le_of_lt l4)
      go_wp2_with fail
      (refine wp_region_later_tail 9 (by kernel_rfl) (by kernel_rfl) ?_; simp only [List.take_succ_cons, List.take_zero, List.drop_succ_cons, List.drop_zero]; (repeat (go_big_quiet_step (fail))); refine wpQuiet_nil ?_; intro w' hB)
      clear k0 f0 l0 m0 k4 f4 l4 m4
      replace K0 := Lib.hid (K0.out.below hB)
      replace K4 := Lib.hid (K4.out.below hB)
      replace K1 := Lib.hid (K1.out.below hB)
      replace HB := Below.on hB HB
      clear hB
      (have k0 := Blk.cell K0.out; have f0 := Blk.free K0.out; have l0 := Blk.lt K0.out; have m0 := Nat.le_of_lt l0)
      go_wp2_with fail
      clear k0 f0 l0 m0
      replace K0 := Lib.hid (K0.out.set_ 0 (.int .u32 (vw (v.a + u.a))))
      replace K4 := Lib.hid (K4.out.over2 (b := w.heap.size) (i := 0) (u := .int .u32 (vw (v.a + u.a))) (by omega))
      replace K1 := Lib.hid (K1.out.over2 (b := w.heap.size) (i := 0) (u := .int .u32 (vw (v.a + u.a))) (by omega))
      replace HB := HB.setCell (p := ⟨w.heap.size, 0, none⟩) (Nat.le_refl _) (.int .u32 (vw (v.a + u.a)))
      simp only [List.setIfInBounds_toArray, List.set_cons_succ, List.set_cons_zero] at K0
      generalize w'.setCell ⟨w.heap.size, 0, none⟩ (.int .u32 (vw (v.a + u.a))) = v0 at K0 K1 K4 HB ⊢
      rw [rounds_succ]
      (have k0 := Blk.cell K0.out; have f0 := Blk.free K0.out; have l0 := Blk.lt K0.out; have m0 := Nat.le_of_lt l0; have k4 := Blk.cell K4.out; have f4 := Blk.free K4.out; have l4 := Blk.lt K4.out; have m4 := Nat.le_of_lt l4)
      go_wp2_with fail
      (refine wp_region_later_tail 9 (by kernel_rfl) (by kernel_rfl) ?_; simp only [List.take_succ_cons, List.take_zero, List.drop_succ_cons, List.drop_zero]; (repeat (go_big_quiet_step (fail))); refine wpQuiet_nil ?_; intro w' hB)
      clear k0 f0 l0 m0 k4 f4 l4 m4
      replace K0 := Lib.hid (K0.out.below hB)
      replace K4 := Lib.hid (K4.out.below hB)
      replace K1 := Lib.hid (K1.out.below hB)
      replace HB := Below.on hB HB
      clear hB
      (have k0 := Blk.cell K0.out; have f0 := Blk.free K0.out; have l0 := Blk.lt K0.out; have m0 := Nat.le_of_lt l0)
      go_wp2_with fail
      clear k0 f0 l0 m0
      replace K0 := Lib.hid (K0.out.set_ 1 (.int .u32 (vw (v.b + u.b))))
      replace K4 := Lib.hid (K4.out.over2 (b := w.heap.size) (i := 1) (u := .int .u32 (vw (v.b + u.b))) (by omega))
      replace K1 := Lib.hid (K1.out.over2 (b := w.heap.size) (i := 1) (u := .int .u32 (vw (v.b + u.b))) (by omega))
      replace HB := HB.setCell (p := ⟨w.heap.size, 1, none⟩) (Nat.le_refl _) (.int .u32 (vw (v.b + u.b)))
      simp only [List.setIfInBounds_toArray, List.set_cons_succ, List.set_cons_zero] at K0
      generalize w'.setCell ⟨w.heap.size, 1, none⟩ (.int .u32 (vw (v.b + u.b))) = v1 at K0 K1 K4 HB ⊢
      rw [rounds_succ]
      (have k0 := Blk.cell K0.out; have f0 := Blk.free K0.out; have l0 := Blk.lt K0.out; have m0 := Nat.le_of_lt l0; have k4 := Blk.cell K4.out; have f4 := Blk.free K4.out; have l4 := Blk.lt K4.out; have m4 := Nat.le_of_lt l4)
      go_wp2_with fail
      (refine wp_region_later_tail 9 (by kernel_rfl) (by kernel_rfl) ?_; simp only [List.take_succ_cons, List.take_zero, List.drop_succ_cons, List.drop_zero]; (repeat (go_big_quiet_step (fail))); refine wpQuiet_nil ?_; intro w' hB)
      clear k0 f0 l0 m0 k4 f4 l4 m4
      replace K0 := Lib.hid (K0.out.below hB)
      replace K4 := Lib.hid (K4.out.below hB)
      replace K1 := Lib.hid (K1.out.below hB)
      replace HB := Below.on hB HB
      clear hB
      (have k0 := Blk.cell K0.out; have f0 := Blk.free K0.out; have l0 := Blk.lt K0.out; have m0 := Nat.le_of_lt l0)
      go_wp2_with fail
      clear k0 f0 l0 m0
      replace K0 := Lib.hid (K0.out.set_ 2 (.int .u32 (vw (v.c + u.c))))
      replace K4 := Lib.hid (K4.out.over2 (b := w.heap.size) (i := 2) (u := .int .u32 (vw (v.c + u.c))) (by omega))
      replace K1 := Lib.hid (K1.out.over2 (b := w.heap.size) (i := 2) (u := .int .u32 (vw (v.c + u.c))) (by omega))
      replace HB := HB.setCell (p := ⟨w.heap.size, 2, none⟩) (Nat.le_refl _) (.int .u32 (vw (v.c + u.c)))
      simp only [List.setIfInBounds_toArray, List.set_cons_succ, List.set_cons_zero] at K0
      generalize w'.setCell ⟨w.heap.size, 2, none⟩ (.int .u32 (vw (v.c + u.c))) = v2 at K0 K1 K4 HB ⊢
      rw [rounds_succ]
      (have k0 := Blk.cell K0.out; have f0 := Blk.free K0.out; have l0 := Blk.lt K0.out; have m0 := Nat.le_of_lt l0; have k4 := Blk.cell K4.out; have f4 := Blk.free K4.out; have l4 := Blk.lt K4.out; have m4 := Nat.le_of_lt l4)
      go_wp2_with fail
      (refine wp_region_later_tail 9 (by kernel_rfl) (by kernel_rfl) ?_; simp only [List.take_succ_cons, List.take_zero, List.drop_succ_cons, List.drop_zero]; (repeat (go_big_quiet_step (fail))); refine wpQuiet_nil ?_; intro w' hB)
      clear k0 f0 l0 m0 k4 f4 l4 m4
      replace K0 := Lib.hid (K0.out.below hB)
      replace K4 := Lib.hid (K4.out.below hB)
      replace K1 := Lib.hid (K1.out.below hB)
      replace HB := Below.on hB HB
      clear hB
      (have k0 := Blk.cell K0.out; have f0 := Blk.free K0.out; have l0 := Blk.lt K0.out; have m0 := Nat.le_of_lt l0)
      go_wp2_with fail
      clear k0 f0 l0 m0
      replace K0 := Lib.hid (K0.out.set_ 3 (.int .u32 (vw (v.d + u.d))))
      replace K4 := Lib.hid (K4.out.over2 (b := w.heap.size) (i := 3) (u := .int .u32 (vw (v.d + u.d))) (by omega))
      replace K1 := Lib.hid (K1.out.over2 (b := w.heap.size) (i := 3) (u := .int .u32 (vw (v.d + u.d))) (by omega))
      replace HB := HB.setCell (p := ⟨w.heap.size, 3, none⟩) (Nat.le_refl _) (.int .u32 (vw (v.d + u.d)))
      simp only [List.setIfInBounds_toArray, List.set_cons_succ, List.set_cons_zero] at K0
      generalize w'.setCell ⟨w.heap.size, 3, none⟩ (.int .u32 (vw (v.d + u.d))) = v3 at K0 K1 K4 HB ⊢
      rw [rounds_succ]
      (have k0 := Blk.cell K0.out; have f0 := Blk.free K0.out; have l0 := Blk.lt K0.out; have m0 := Nat.le_of_lt l0; have k4 := Blk.cell K4.out; have f4 := Blk.free K4.out; have l4 := Blk.lt K4.out; have m4 := Nat.le_of_lt l4)
      go_wp2_with fail
      (refine wp_region_later_tail 9 (by kernel_rfl) (by kernel_rfl) ?_; simp only [List.take_succ_cons, List.take_zero, List.drop_succ_cons, List.drop_zero]; (repeat (go_big_quiet_step (fail))); refine wpQuiet_nil ?_; intro w' hB)
      clear k0 f0 l0 m0 k4 f4 l4 m4
      replace K0 := Lib.hid (K0.out.below hB)
      replace K4 := Lib.hid (K4.out.below hB)
      replace K1 := Lib.hid (K1.out.below hB)
      replace HB := Below.on hB HB
      clear hB
      (have k0 := Blk.cell K0.out; have f0 := Blk.free K0.out; have l0 := Blk.lt K0.out; have m0 := Nat.le_of_lt l0)
      go_wp2_with fail
      clear k0 f0 l0 m0
      replace K0 := Lib.hid (K0.out.set_ 4 (.int .u32 (vw (v.e + u.e))))
      replace K4 := Lib.hid (K4.out.over2 (b := w.heap.size) (i := 4) (u := .int .u32 (vw (v.e + u.e))) (by omega))
      replace K1 := Lib.hid (K1.out.over2 (b := w.heap.size) (i := 4) (u := .int .u32 (vw (v.e + u.e))) (by omega))
      replace HB := HB.setCell (p := ⟨w.heap.size, 4, none⟩) (Nat.le_refl _) (.int .u32 (vw (v.e + u.e)))
      simp only [List.setIfInBounds_toArray, List.set_cons_succ, List.set_cons_zero] at K0
      generalize w'.setCell ⟨w.heap.size, 4, none⟩ (.int .u32 (vw (v.e + u.e))) = v4 at K0 K1 K4 HB ⊢
      rw [rounds_succ]
      (have k0 := Blk.cell K0.out; have f0 := Blk.free K0.out; have l0 := Blk.lt K0.out; have m0 := Nat.le_of_lt l0; have k4 := Blk.cell K4.out; have f4 := Blk.free K4.out; have l4 := Blk.lt K4.out; have m4 := Nat.le_of_lt l4)
      go_wp2_with fail
      (refine wp_region_later_tail 9 (by kernel_rfl) (by kernel_rfl) ?_; simp only [List.take_succ_cons, List.take_zero, List.drop_succ_cons, List.drop_zero]; (repeat (go_big_quiet_step (fail))); refine wpQuiet_nil ?_; intro w' hB)
      clear k0 f0 l0 m0 k4 f4 l4 m4
      replace K0 := Lib.hid (K0.out.below hB)
      replace K4 := Lib.hid (K4.out.below hB)
      replace K1 := Lib.hid (K1.out.below hB)
      replace HB := Below.on hB HB
      clear hB
      (have k0 := Blk.cell K0.out; have f0 := Blk.free K0.out; have l0 := Blk.lt K0.out; have m0 := Nat.le_of_lt l0)
      go_wp2_with fail
      clear k0 f0 l0 m0
      replace K0 := Lib.hid (K0.out.set_ 5 (.int .u32 (vw (v.f + u.f))))
      replace K4 := Lib.hid (K4.out.over2 (b := w.heap.size) (i := 5) (u := .int .u32 (vw (v.f + u.f))) (by omega))
      replace K1 := Lib.hid (K1.out.over2 (b := w.heap.size) (i := 5) (u := .int .u32 (vw (v.f + u.f))) (by omega))
      replace HB := HB.setCell (p := ⟨w.heap.size, 5, none⟩) (Nat.le_refl _) (.int .u32 (vw (v.f + u.f)))
      simp only [List.setIfInBounds_toArray, List.set_cons_succ, List.set_cons_zero] at K0
      generalize w'.setCell ⟨w.heap.size, 5, none⟩ (.int .u32 (vw (v.f + u.f))) = v5 at K0 K1 K4 HB ⊢
      rw [rounds_succ]
      (have k0 := Blk.cell K0.out; have f0 := Blk.free K0.out; have l0 := Blk.lt K0.out; have m0 := Nat.le_of_lt l0; have k4 := Blk.cell K4.out; have f4 := Blk.free K4.out; have l4 := Blk.lt K4.out; have m4 := Nat.le_of_lt l4)
      go_wp2_with fail
      (refine wp_region_later_tail 9 (by kernel_rfl) (by kernel_rfl) ?_; simp only [List.take_succ_cons, List.take_zero, List.drop_succ_cons, List.drop_zero]; (repeat (go_big_quiet_step (fail))); refine wpQuiet_nil ?_; intro w' hB)
      clear k0 f0 l0 m0 k4 f4 l4 m4
      replace K0 := Lib.hid (K0.out.below hB)
      replace K4 := Lib.hid (K4.out.below hB)
      replace K1 := Lib.hid (K1.out.below hB)
      replace HB := Below.on hB HB
      clear hB
      (have k0 := Blk.cell K0.out; have f0 := Blk.free K0.out; have l0 := Blk.lt K0.out; have m0 := Nat.le_of_lt l0)
      go_wp2_with fail
      clear k0 f0 l0 m0
      replace K0 := Lib.hid (K0.out.set_ 6 (.int .u32 (vw (v.g + u.g))))
      replace K4 := Lib.hid (K4.out.over2 (b := w.heap.size) (i := 6) (u := .int .u32 (vw (v.g + u.g))) (by omega))
      replace K1 := Lib.hid (K1.out.over2 (b := w.heap.size) (i := 6) (u := .int .u32 (vw (v.g + u.g))) (by omega))
      replace HB := HB.setCell (p := ⟨w.heap.size, 6, none⟩) (Nat.le_refl _) (.int .u32 (vw (v.g + u.g)))
      simp only [List.setIfInBounds_toArray, List.set_cons_succ, List.set_cons_zero] at K0
      generalize w'.setCell ⟨w.heap.size, 6, none⟩ (.int .u32 (vw (v.g + u.g))) = v6 at K0 K1 K4 HB ⊢
      rw [rounds_succ]
      (have k0 := Blk.cell K0.out; have f0 := Blk.free K0.out; have l0 := Blk.lt K0.out; have m0 := Nat.le_of_lt l0; have k4 := Blk.cell K4.out; have f4 := Blk.free K4.out; have l4 := Blk.lt K4.out; have m4 := Nat.le_of_lt l4)
      go_wp2_with fail
      (refine wp_region_later_tail 9 (by kernel_rfl) (by kernel_rfl) ?_; simp only [List.take_succ_cons, List.take_zero, List.drop_succ_cons, List.drop_zero]; (repeat (go_big_quiet_step (fail))); refine wpQuiet_nil ?_; intro w' hB)
      clear k0 f0 l0 m0 k4 f4 l4 m4
      replace K0 := Lib.hid (K0.out.below hB)
      replace K4 := Lib.hid (K4.out.below hB)
      replace K1 := Lib.hid (K1.out.below hB)
      replace HB := Below.on hB HB
      clear hB
      (have k0 := Blk.cell K0.out; have f0 := Blk.free K0.out; have l0 := Blk.lt K0.out; have m0 := Nat.le_of_lt l0)
      go_wp2_with fail
      clear k0 f0 l0 m0
      replace K0 := Lib.hid (K0.out.set_ 7 (.int .u32 (vw (v.h + u.h))))
      replace K4 := Lib.hid (K4.out.over2 (b := w.heap.size) (i := 7) (u := .int .u32 (vw (v.h + u.h))) (by omega))
      replace K1 := Lib.hid (K1.out.over2 (b := w.heap.size) (i := 7) (u := .int .u32 (vw (v.h + u.h))) (by omega))
      replace HB := HB.setCell (p := ⟨w.heap.size, 7, none⟩) (Nat.le_refl _) (.int .u32 (vw (v.h + u.h)))
      simp only [List.setIfInBounds_toArray, List.set_cons_succ, List.set_cons_zero] at K0
      generalize w'.setCell ⟨w.heap.size, 7, none⟩ (.int .u32 (vw (v.h + u.h))) = v7 at K0 K1 K4 HB ⊢
      rw [rounds_succ]
      (have k0 := Blk.cell K0.out; have f0 := Blk.free K0.out; have l0 := Blk.lt K0.out; have m0 := Nat.le_of_lt l0; have k1 := Blk.cell K1.out; have f1 := Blk.free K1.out; have l1 := Blk.lt K1.out; have m1 := Nat.le_of_lt l1)
      go_wp2_with fail
      refine bodyPost_ret (results_cell_row rfl _ _ (w.heap.size + 1) _ _ _ _ rfl (blk_put8 _ _ _ _ _ _ _ _ K1.out) Tryd.underlying63 rfl (by kernel_rfl)) rfl ⟨by rw [← HU.out]; rfl, below_put8 (by omega) _ _ _ _ _ _ _ _ HB⟩
end Go.Proofs.YtpmmjomejackkaaDoor
end
section
namespace Go.Proofs.YtpmmjomejackkaaDoor
open Go.RowKit Go.Phx Go.Shelf
set_option linter.unusedSimpArgs false

/-- a slice value owns these cells; what is frozen of its row lies behind its capacity -/
def OwnX (w : World) (base : Nat) (e : TypeId) (v : Value) (n : Nat) (xs : List Value) : Prop :=
  xs.length = n ∧ ∃ g cap cur fz, v = .slice (some ⟨g, 0, none⟩) n cap ∧ base ≤ g ∧ w.heap[g]? = some (.cells cur e fz) ∧ (fz.2 ≤ fz.1 ∨ cap ≤ fz.1) ∧ n ≤ cap ∧ cap ≤ maxLen ∧ cur.size = cap ∧ cur.toList.take n = xs
theorem OwnX.form {w : World} {base : Nat} {e : TypeId} {v : Value} {n : Nat} {xs : List Value} (h : OwnX w base e v n xs) :
    ∃ g cap, v = .slice (some ⟨g, 0, none⟩) n cap ∧ base ≤ g ∧ g < w.heap.size ∧ n ≤ cap ∧ cap ≤ maxLen ∧ ∀ j u, xs[j]? = some u → w.cell? ⟨g, j, none⟩ = some u := by
  obtain ⟨_, g, cap, cur, fz, hv, hb, hg, _, hnc, hcm, _, ht⟩ := h
  refine ⟨g, cap, hv, hb, (Array.getElem?_eq_some_iff.1 hg).1, hnc, hcm, fun j u hu => ?_⟩
  rw [cell_of_row w g j cur e fz hg]
  rw [← ht, List.getElem?_take] at hu
  split at hu
  · simpa using hu
  · cases hu
theorem OwnX.kept {w w' : World} {base : Nat} {e : TypeId} {v : Value} {n : Nat} {xs : List Value} {row : Option Nat} (h : OwnX w base e v n xs) (hg : w.grownBy w' row) (hne : v.ownBlock ≠ row) : OwnX w' base e v n xs := by
  obtain ⟨hl, g, cap, cur, fz, hv, hb, hh, r⟩ := h
  refine ⟨hl, g, cap, cur, fz, hv, hb, ?_, r⟩
  rw [hg.block g (Array.getElem?_eq_some_iff.1 hh).1 (by subst hv; simpa [Value.ownBlock] using hne)]
  exact hh
theorem OwnX.alloc {w : World} {base : Nat} {e : TypeId} {v : Value} {n : Nat} {xs : List Value} (h : OwnX w base e v n xs) (o : Obj) : OwnX (w.alloc o) base e v n xs :=
  h.kept (World.grownBy_alloc w o none) (by
    obtain ⟨_, g, cap, cur, fz, rfl, _⟩ := h
    simp [Value.ownBlock])
theorem OwnX.below {w w' : World} {base : Nat} {e : TypeId} {v : Value} {n : Nat} {xs : List Value} (h : OwnX w base e v n xs) (hB : Below w.heap.size w w') : OwnX w' base e v n xs := by
  obtain ⟨hl, g, cap, cur, fz, hv, hb, hh, r⟩ := h
  exact ⟨hl, g, cap, cur, fz, hv, hb, (hB.block g (Array.getElem?_eq_some_iff.1 hh).1).trans hh, r⟩
theorem run_storeCells_X (P : Program) (g o : Nat) (t : TypeId) (fz : Nat × Nat) : ∀ (vs : List Value) (i : Nat) (cur : Array Value) (w : World), w.heap[g]? = some (.cells cur t fz) → (fz.2 ≤ fz.1 ∨ cur.size ≤ fz.1) → o + i + vs.length ≤ cur.size → (∀ v ∈ vs, v.oneCell' = true) →
    (storeCells ⟨g, o, none⟩ vs i).run P w = .ok () (w.setRow g (cur.toList.take (o + i) ++ vs ++ cur.toList.drop (o + i + vs.length)).toArray)
  | [], i, cur, w, hg, _, _, _ => by
    simp only [storeCells, List.append_nil, List.length_nil, Nat.add_zero, List.take_append_drop, Array.toArray_toList]
    rw [setRow_self w g cur t fz hg]
    rfl
  | v :: rest, i, cur, w, hg, hfz, hl, h1 => by
    have hi : o + i < cur.size := by simp at hl; omega
    have hadd : (⟨g, o, none⟩ : Addr).add i = ⟨g, o + i, none⟩ := by unfold Addr.add; split <;> simp_all
    have hcell : w.cell? ⟨g, o + i, none⟩ = some cur[o + i] := by simp [World.cell?, hg, hi]
    have hfro : w.frozen? ⟨g, o + i, none⟩ = false := by
      obtain ⟨lo, hi'⟩ := fz
      simp only [World.frozen?, hg, Bool.and_eq_false_iff, decide_eq_false_iff_not]
      simp only at hfz
      omega
    have hst : (store ((⟨g, o, none⟩ : Addr).add i) v).run P w = .ok () (w.setRow g (cur.setIfInBounds (o + i) v)) := by
      rw [hadd, run_store P w _ v _ (h1 v (by simp)), hcell]
      simp [hfro, setCell_eq_setRow w g (o + i) cur t fz v hg]
    have ih := run_storeCells_X P g o t fz rest (i + 1) (cur.setIfInBounds (o + i) v) (w.setRow g (cur.setIfInBounds (o + i) v)) (setRow_heap w g cur _ t _ hg) (by simpa using hfz) (by simp at hl ⊢; omega) (fun x hx => h1 x (by simp [hx]))
    simp only [storeCells, Sem.run_bind, hst, Result.andThen_ok, ih, setRow_setRow]
    congr 3
    have e := list_seg_step cur.toList (o + i) v rest (by simp at hl ⊢; omega)
    simpa [Array.toList_setIfInBounds, Nat.add_assoc] using e

theorem run_append_X {P : Program} (w : World) (base : Nat) (t ty e : TypeId) (i : TypeInfo) (z : Value) (ht : P.underlying t = some (.slice e)) (hi : P.info? e = some i) (hz : i.zero = some z)
    (hsize : i.size = 1) (hby : i.bytes = 1) (hzs : z.cells.size = 1)
    (v : Value) (n : Nat) (xs : List Value) (hown : OwnX w base e v n xs)
    (a : Addr) (m c : Nat) (news : List Value) (hl : news.length = m) (hnews : ∀ j u, news[j]? = some u → w.cell? (a.add j) = some u) (h1 : ∀ u ∈ news, u.oneCell' = true)
    (h63 : n + m ≤ 140737488355328) (hbase : base ≤ w.heap.size) :
    ∃ v' w', (Builtin.append_ #[t, t] ty #[v, .slice (some a) m c]).run P w = .ok v' w' ∧ OwnX w' base e v' (n + m) (xs ++ news) ∧ w.grownBy w' v.ownBlock := by
  obtain ⟨hxl, g, cap, cur, fz, rfl, hbg, hg, hfz, hnc, hcm, hcs, htake⟩ := hown
  have hlen : (xs ++ news).length = n + m := by rw [List.length_append, hxl, hl]
  by_cases hroom : n + m ≤ cap
  · have hf := run_firstCells_some (P := P) w i.size m a m c news (by rw [hsize, Nat.mul_one]; exact hl) hnews
    rw [hsize] at hf
    have hst := run_storeCells_X P g n e fz news 0 cur w hg (by rw [hcs]; exact hfz) (by omega) h1
    simp only [Nat.add_zero] at hst
    refine ⟨.slice (some ⟨g, 0, none⟩) (n + m) cap, w.setRow g (cur.toList.take n ++ news ++ cur.toList.drop (n + news.length)).toArray, ?_, ⟨hlen, g, cap, _, fz, rfl, hbg, setRow_heap w g cur _ e _ hg, hfz, hroom, hcm, ?_, ?_⟩,
      ⟨rfl, rfl, rfl, by simp, fun k _ hk => setRow_other w g k _ (fun e => hk (by simp [Value.ownBlock, e]))⟩⟩
    · simp [Builtin.append_, run_underlying ht, sizeOf, typeInfo, hi, Builtin.lenOf, hroom, hf, Addr.add_lit, hst, hsize]
    · simp only [List.size_toArray, List.length_append, List.length_take, List.length_drop, Array.length_toList]
      omega
    · rw [htake, ← hlen]
      exact List.take_left
  · have holds : ∀ j u, xs[j]? = some u → w.cell? ((⟨g, 0, none⟩ : Addr).add j) = some u := fun j u hu => by
      have hadd : (⟨g, 0, none⟩ : Addr).add j = ⟨g, j, none⟩ := by unfold Addr.add; split <;> simp_all
      rw [hadd, cell_of_row w g j cur e fz hg]
      rw [← htake, List.getElem?_take] at hu
      split at hu
      · simpa using hu
      · cases hu
    have hr := run_append_grow (P := P) w t ty e i z ht hi hz ⟨g, 0, none⟩ n cap xs (by rw [hsize, Nat.mul_one]; exact hxl) holds a m c news (by rw [hsize, Nat.mul_one]; exact hl) hnews (by omega) (by omega) (growslice_fits (by omega) (by rw [hby]; omega))
    have hge := grownCap_ge w (n + m) cap e
    have hcm2 : grownCap w (n + m) cap e ≤ maxLen := grownCap_le_maxLen w (n + m) cap e (by unfold maxLen; omega)
    refine ⟨_, _, hr, ⟨hlen, w.heap.size, _, _, (0, 0), rfl, hbase, heap_alloc_new w.drew _, .inl (Nat.le_refl _), hge, hcm2, ?_, ?_⟩, ⟨rfl, rfl, rfl, by simp, fun k hk _ => heap_alloc_old w.drew _ hk⟩⟩
    · simp only [Array.size_append, List.size_toArray, size_zeroCells, hzs, hxl, hl]
      omega
    · simp only [Array.toList_append, List.append_assoc]
      rw [← List.append_assoc, ← hlen]
      exact List.take_left
theorem wpList_append_X {P : Program} {ops : Array Oper} {rest : List Oper} {o : Oper} {a : Act} {w : World} {Q : Exit → Act → World → Prop} (hgd : o.guard = none) (s x : Operand) (t : TypeId)
    (ho : o.op = .call { callee := .builtin .append, args := #[s, x], argTypes := #[t, t] })
    (base : Nat) (e : TypeId) (i : TypeInfo) (z : Value) (ht : P.underlying t = some (.slice e)) (hi : P.info? e = some i) (hz : i.zero = some z) (hsize : i.size = 1) (hby : i.bytes = 1) (hzs : z.cells.size = 1)
    (v : Value) (n : Nat) (xs : List Value) (hs : a.eval s = v) (hown : OwnX w base e v n xs)
    (ad : Addr) (m c : Nat) (news : List Value) (hx : a.eval x = .slice (some ad) m c) (hl : news.length = m) (hnews : ∀ j u, news[j]? = some u → w.cell? (ad.add j) = some u) (h1 : ∀ u ∈ news, u.oneCell' = true)
    (h63 : n + m ≤ 140737488355328) (hbase : base ≤ w.heap.size)
    (h : ∀ v' w', OwnX w' base e v' (n + m) (xs ++ news) → w.grownBy w' v.ownBlock → wpList P ops Q rest (a.put o.dst v') w') : wpList P ops Q (o :: rest) a w := by
  refine wpList_plain hgd fun K hK => ?_
  obtain ⟨v', w', hr, h2, h3⟩ := run_append_X (P := P) w base t o.type e i z ht hi hz hsize hby hzs v n xs hown ad m c news hl hnews h1 h63 hbase
  unfold Oper.wp execOp
  simp only [ho, resolve, invoke, builtin, Sem.run_bind, Sem.run_pure, Result.andThen_ok, List.map_toArray, List.map_cons, List.map_nil, hs, hx, hr]
  exact hK _ _ (h v' w' h2 h3)
/-- one byte in a block that was just made -/
theorem news1 (W : World) (t : TypeId) (v : Value) : ∀ j u, [v][j]? = some u → (W.alloc (.cells #[v] t)).cell? ((⟨W.heap.size, 0, none⟩ : Addr).add j) = some u := by
  intro j u hu
  match j, hu with
  | 0, hu =>
    have := (Blk.new0 W t #[v]).cell 0
    simp at hu
    subst hu
    simp [Addr.add]
/-- a byte's value -/
def bv (c : UInt8) : Value := .int .u8 (c.toNat : Int)
/-- a text's own bytes -/
def txtCells (w : World) (s : ByteArray) : World :=
  w.drew.alloc (.cells (bytesRow s (grownCap w s.size 0 5)) 5 ((bytesRow s (grownCap w s.size 0 5)).size, (bytesRow s (grownCap w s.size 0 5)).size + 1))
@[go_sem] theorem conv_txt (w : World) (s : ByteArray) : (convert 9 39 (.string s)).run Tryd.prog w = .ok (.slice (some ⟨w.heap.size, 0, none⟩) s.size (grownCap w s.size 0 5)) (txtCells w s) :=
  run_bytes_of_string w _ _ _ s (show Tryd.prog.underlying 9 = some .string by kernel_rfl) (show Tryd.prog.underlying 39 = some (.slice 5) by kernel_rfl) (show Tryd.prog.underlying 5 = some (.int .u8) by kernel_rfl)
theorem txt_own (w : World) (l : List UInt8) (base : Nat) (hb : base ≤ w.heap.size) (hl : l.length ≤ 140737488355328) :
    OwnX (txtCells w (bs l)) base 5 (.slice (some ⟨w.heap.size, 0, none⟩) l.length (grownCap w l.length 0 5)) l.length (l.map bv) := by
  have hge := grownCap_ge w l.length 0 5
  unfold txtCells
  rw [bs_size]
  refine ⟨by simp, w.heap.size, _, _, _, rfl, hb, heap_alloc_new w.drew _, .inr ?_, hge, grownCap_le_maxLen w _ _ _ (by unfold maxLen; omega), ?_, ?_⟩
  · show _ ≤ (bytesRow (bs l) _).size
    have e1 : (bs l).data.size = l.length := by simp [bs]
    unfold bytesRow
    rw [Array.size_append, Array.size_map, Array.size_replicate, bs_size, e1]
    omega
  · have e1 : (bs l).data.size = l.length := by simp [bs]
    unfold bytesRow
    rw [Array.size_append, Array.size_map, Array.size_replicate, bs_size, e1]
    omega
  · simp [bytesRow, bs]
    exact fun _ _ => rfl
theorem txt_below (w : World) (s : ByteArray) : Below w.heap.size w (txtCells w s) := ((Below.refl _ _).drew).alloc (Nat.le_refl _) _
theorem txt_size (w : World) (s : ByteArray) : (txtCells w s).heap.size = w.heap.size + 1 := by simp [txtCells]
theorem conv_cells (W : World) (g : Nat) (L : List UInt8) (n c : Nat) (hn : L.length = n) (h : ∀ j u, (L.map bv)[j]? = some u → W.cell? ⟨g, j, none⟩ = some u) :
    (convert 39 9 (.slice (some ⟨g, 0, none⟩) n c)).run Tryd.prog W = .ok (.string (bs L)) W := by
  have hs : Tryd.prog.underlying 39 = some (.slice 5) := by kernel_rfl
  have he : Tryd.prog.underlying 5 = some (.int .u8) := by kernel_rfl
  have hd : Tryd.prog.underlying 9 = some .string := by kernel_rfl
  have := run_convert_bytes_arg (P := Tryd.prog) W _ _ hs he g 0 n c (L.map fun c : UInt8 => (c.toNat : Int)) (by simpa using hn) (fun i hi => by
    rw [Nat.zero_add, h i (bv (L.getD i 0)) (by rw [List.getElem?_map, List.getElem?_eq_getElem (by omega), List.getD, List.getElem?_eq_getElem (by omega)]; rfl)]
    unfold bv
    simp [List.getD, List.getElem?_eq_getElem (show i < L.length by omega)]) _ hd
  rw [this, strOfNums_map]
theorem own_cells {w : World} {base : Nat} {e : TypeId} {n cap g : Nat} {xs : List Value} (h : w.ownsRow base e 1 (.slice (some ⟨g, 0, none⟩) n cap) n xs) : ∀ j u, xs[j]? = some u → w.cell? ⟨g, j, none⟩ = some u := fun j u hu => by
  have := h.cells (g := g) rfl j u hu
  rwa [Addr.add_mid, Nat.zero_add] at this
/-- bytes of the call's own, so far -/
structure HoldsX (w0 wr : World) (v : Value) (q : List UInt8) : Prop where
  own : OwnX wr w0.heap.size 5 v q.length (q.map bv)
  below : Below w0.heap.size w0 wr
theorem HoldsX.step {w0 wr w' : World} {v v' : Value} {q : List UInt8} {o : Obj} {x : Int} (c : UInt8) (h : HoldsX w0 wr v q) (hx : x = (c.toNat : Int)) (hown : OwnX w' w0.heap.size 5 v' (q.length + 1) (q.map bv ++ [.int .u8 x])) (hg : (wr.alloc o).grownBy w' v.ownBlock) :
    HoldsX w0 w' v' (q ++ [c]) := by
  subst hx
  refine ⟨by simpa [bv] using hown, (h.below.alloc h.below.size o).grown hg (by have := h.below.size; simp; omega) fun k e => ?_⟩
  obtain ⟨g, cap, hv, hb, _⟩ := h.own.form
  rw [hv] at e
  simp [Value.ownBlock] at e
  omega
end Go.Proofs.YtpmmjomejackkaaDoor
end
section
set_option linter.unusedSimpArgs false
set_option linter.unusedVariables false
namespace Go.Proofs.YtpmmjomejackkaaDoor
open BigFrame Go.RowKit Go.Phx Go.Shelf
attribute [local go_sem] Oper.semAt_some

theorem infoU8 : (Tryd.prog.info? 5).map (fun i => (i.zero, i.size, i.bytes)) = some (some (.int .u8 0), 1, 1) := by kernel_rfl
/-- a call hands back bytes of its own -/
def Gave (w : World) (l : List UInt8) (e : Ending) (w' : World) : Prop := ∃ g cap, e = .returned (.slice (some ⟨g, 0, none⟩) l.length cap) ∧ OwnX w' w.heap.size 5 (.slice (some ⟨g, 0, none⟩) l.length cap) l.length (l.map bv) ∧ Below w.heap.size w w'
/-- bytes 0 behind a text and a byte 128, so many -/
def pad0 (l : List UInt8) (k : Nat) : List UInt8 := l ++ 128 :: List.replicate k 0
theorem pad0_len (l : List UInt8) (k : Nat) : (pad0 l k).length = l.length + 1 + k := by simp [pad0]; omega
theorem pad0_succ (l : List UInt8) (k : Nat) : pad0 l (k + 1) = pad0 l k ++ [0] := by unfold pad0; rw [List.replicate_succ']; simp

set_option maxRecDepth 100000 in
set_option maxHeartbeats 2000000 in
theorem padded_calls (l : List UInt8) (hl : l.length ≤ 100000000000000) (w : World) : Calls Tryd.prog 62 #[.string (bs l)] w (Gave w (padS l)) := by
  obtain ⟨i0, hi, hz0, hz1, hz2⟩ := info_parts infoU8
  go_enter Tryd.func62, Tryd.ntmps62
  go_wp2_with (at_builtin; refine wpList_append_X rfl _ _ 39 rfl w.heap.size 5 i0 (.int .u8 0) Tryd.underlying39 hi hz0 hz1 hz2 rfl _ _ _ rfl ((txt_own w l _ (Nat.le_refl _) (by omega)).alloc _) ⟨_, 0, none⟩ 1 1 [.int .u8 128] rfl rfl (news1 _ _ _) (by simp [Value.oneCell']) (by omega) (by simp [txtCells]; omega) ?_)
  intro v1 w1 hown hg
  have H1 : HoldsX w w1 v1 (pad0 l 0) := HoldsX.step (q := l) 128 ⟨txt_own w l _ (Nat.le_refl _) (by omega), txt_below _ _⟩ rfl hown hg
  clear hown hg
  obtain ⟨c, hc⟩ : ∃ c, (119 - l.length % 64) % 64 = c := ⟨_, rfl⟩
  have hc1 : c < 64 := by omega
  have hcm : ∀ k, k ≤ c → ((l.length + 1 + k) % 64 = 56 ↔ k = c) := fun k hk => by omega
  have HC := Lib.hid hc
  have HCM := Lib.hid hcm
  clear hc hcm
  go_wp2_with fail
  go_loopw [3] (fun v wr => ∃ k : Nat, k ≤ c ∧ HoldsX w wr v (pad0 l k)) (fun v _ => match v with | .slice _ n _ => l.length + 65 - n | _ => 0)
  case atStart => exact ⟨0, by omega, H1⟩
  case round =>
    clear H1
    obtain ⟨k, hk, H⟩ := hrel
    obtain ⟨g, cap, rfl, hbg, hgl, hnc, hcm, hcell⟩ := H.own.form
    have hlen := pad0_len l k
    have hiff := HCM.out k hk
    rw [← hlen] at hiff
    by_cases hlt : k < c
    · have t1 : (((pad0 l k).length : Int) % 64 == 56) = false := by rw [beq_eq_false_iff_ne]; omega
      have t2 : (((pad0 l k).length : Int) % 64 != 56) = true := by rw [bne_iff_ne]; omega
      have hml : (pad0 l k).length ≤ 100000000000100 := by omega
      have HLEN := Lib.hid hlen
      clear hlen hiff hcell hcm hnc
      go_wp2_with (at_builtin; refine wpList_append_X rfl _ _ 39 rfl w.heap.size 5 i0 (.int .u8 0) Tryd.underlying39 hi hz0 hz1 hz2 rfl _ _ _ rfl (H.own.alloc _) ⟨_, 0, none⟩ 1 1 [.int .u8 0] rfl rfl (news1 _ _ _) (by simp [Value.oneCell']) (by omega) (by have := H.below.size; simp; omega) ?_)
      intro v2 w2 hown hg
      have H2 := H.step 0 rfl hown hg
      rw [← pad0_succ] at H2
      have hl2 := pad0_len l (k + 1)
      have hl1 := HLEN.out
      have em : v2 = .slice (some ⟨(H2.own.form).choose, 0, none⟩) (pad0 l (k + 1)).length (H2.own.form).choose_spec.choose := (H2.own.form).choose_spec.choose_spec.1
      clear hown hg
      replace H2 := Lib.hid H2
      go_wp2_with fail
      go_roundw
      case rel => exact ⟨k + 1, by omega, H2.out⟩
      case measure => rw [em]; simp only; omega
    · obtain rfl : k = c := by omega
      have t1 : (((pad0 l k).length : Int) % 64 == 56) = true := by rw [beq_iff_eq]; omega
      have t2 : (((pad0 l k).length : Int) % 64 != 56) = false := by simp; omega
      have hml : (pad0 l k).length ≤ 100000000000100 := by omega
      clear hlen hiff hcell hcm hnc HCM
      have hpad : pad0 l k ++ (List.range 8).map (fun i => UInt8.ofNat (8 * l.length / 2 ^ (56 - 8 * i))) = padS l := by
        rw [← HC.out]
        unfold pad0 padS tail64
        simp
      have HPAD := Lib.hid hpad
      clear hpad HC
      go_wp2_with fail
      go_loopw [3, 5] (fun v i wr => ∃ j : Nat, j ≤ 8 ∧ i = .int .i64 (7 - j) ∧ HoldsX w wr v (pad0 l k ++ (List.range j).map fun i => UInt8.ofNat (8 * l.length / 2 ^ (56 - 8 * i)))) (fun _ i _ => (intOf i + 1).toNat)
      case atStart => exact ⟨0, by omega, rfl, by simpa using H⟩
      case round =>
        clear H
        obtain ⟨j, hj, rfl, H⟩ := hrel
        obtain ⟨q, hq⟩ : ∃ q, (pad0 l k ++ (List.range j).map fun i => UInt8.ofNat (8 * l.length / 2 ^ (56 - 8 * i))) = q := ⟨_, rfl⟩
        have hql : q.length ≤ 100000000000200 := by rw [← hq]; simp; omega
        rw [hq] at H
        have HQ := Lib.hid hq
        clear hq
        obtain ⟨g2, cap2, rfl, hbg2, hgl2, hnc2, hcm2, hcell2⟩ := H.own.form
        by_cases hlt8 : j < 8
        · clear hcell2 hcm2 hnc2
          have hx : 8 * (l.length : Int) / 2 ^ (8 * (7 - j)) % 256 = ((UInt8.ofNat (8 * l.length / 2 ^ (56 - 8 * j))).toNat : Int) := by
            rw [show 8 * (7 - j) = 56 - 8 * j by omega]
            have e : (8 * (l.length : Int) / 2 ^ (56 - 8 * j)) = ((8 * l.length / 2 ^ (56 - 8 * j) : Nat) : Int) := by simp
            rw [e]
            generalize 8 * l.length / 2 ^ (56 - 8 * j) = m
            simp
          replace hx := Lib.hid hx
          go_wp2_with (at_builtin; refine wpList_append_X rfl _ _ 39 rfl w.heap.size 5 i0 (.int .u8 0) Tryd.underlying39 hi hz0 hz1 hz2 rfl _ _ _ rfl (H.own.alloc _) ⟨_, 0, none⟩ 1 1 [.int .u8 (8 * (l.length : Int) / 2 ^ (8 * (7 - j)) % 256)] rfl rfl (news1 _ _ _) (by simp [Value.oneCell']) (by omega) (by have := H.below.size; simp; omega) ?_)
          intro v2 w2 hown hg
          have H2 := H.step _ hx.out hown hg
          rw [← HQ.out, List.append_assoc, show (List.range j).map (fun i => UInt8.ofNat (8 * l.length / 2 ^ (56 - 8 * i))) ++ [UInt8.ofNat (8 * l.length / 2 ^ (56 - 8 * j))] = (List.range (j + 1)).map (fun i => UInt8.ofNat (8 * l.length / 2 ^ (56 - 8 * i))) from by rw [List.range_succ, List.map_append]; rfl] at H2
          clear hown hg
          replace H2 := Lib.hid H2
          go_wp2_with fail
          go_roundw
          case rel => exact ⟨j + 1, by omega, by congr 1; omega, H2.out⟩
          case measure => simp [intOf]; omega
        · obtain rfl : j = 8 := by omega
          rw [HPAD.out] at HQ
          obtain rfl := HQ.out
          simp only [show (7 : Int) - ((8 : Nat) : Int) = -1 from rfl]
          go_wp2_with fail
          go_ret
          exact ⟨g2, cap2, rfl, H.own, H.below⟩
end Go.Proofs.YtpmmjomejackkaaDoor
end
