/- Plain laws and walks, each by its own conditions. -/
import Derived.Test.YtegaaccioppfjaaGreatDoorFm8
import Derived.Test.YtegaaccioppfjaaGreatDoorFm10
import Derived.Test.YtegaaccioppfjaaGreatDoorFm25
import Derived.Test.YtegaaccioppfjaaGreatDoorFm23
set_option linter.unusedSimpArgs false
set_option linter.unusedVariables false
set_option maxRecDepth 100000
set_option maxHeartbeats 16000000
section
namespace Go.Proofs.YtegaaccioppfjaaGreatDoor
open BigFrame Go.RowKit Go.Phx Go.Shelf
attribute [local go_sem] Oper.semAt_some

theorem rmsigned_calls (p : Pl) (t : Bytes) (w : World) (hp : PlIn w p) (htl : t.length ≤ 1048576) (h16 : p.now.length = 16) : Calls Tryz.prog 107 #[plV p, .string (bs t)] w (Ret w (.string (bs (sumB (sigsP p.now p.bits t))))) := by
 have hbits := hp.2.2.2.2.2.1
 have hsig : sumB (sigsP p.now p.bits t) = sumB (sigsK p.now p.bits t 16) := rfl
 have n4 := fun n hn W => rsign_calls (n : Nat) (Int.natCast_nonneg n) hn t htl W
 obtain ⟨T, hl20, hnn⟩ := hp.2.2.2.1
 generalize sumB (sigsP p.now p.bits t) = res at *
 obtain ⟨b9, o9, hA9, _, _⟩ := T.at 0 (by omega)
 have K0 := Lib.hid (Blk.new0 w 72 (plA p))
 have HB : Below w.heap.size w (w.alloc (.cells (plA p) 72)) := bel
 replace n4 := Lib.hid n4
 replace T := Lib.hid T
 replace hnn := Lib.hid hnn
 replace hsig := Lib.hid hsig
 replace h16 := Lib.hid h16
 replace hA9 := Lib.hid hA9
 replace hp := Lib.hid hp
 clear htl hl20
 go_enter Tryz.func107, Tryz.ntmps107
 go_upto_region 1 with fail
 obtain ⟨W, hW⟩ : ∃ W, (w.alloc (.cells (plA p) 72)) = W := ⟨_, rfl⟩
 have hzW : w.heap.size + 1 ≤ W.heap.size := by rw [← hW]; simp
 rw [hW] at K0 HB ⊢
 clear hW
 obtain ⟨g, hg⟩ : ∃ g, w.heap.size = g := ⟨_, rfl⟩
 have hgl : w.heap.size ≤ g := by omega
 rw [hg] at K0 hzW ⊢
 clear hg
 (obtain ⟨k0, f0, l0, m0⟩ := rl_ K0)
 go_upto_region 2 with fail
 have hA10 := hA9.out
 go_wp2_with fail
 go_loopw [5, 6] (fun u i wr => ∃ (v : Value) (k : Nat), v = u ∧ k ≤ 16 ∧ i = .int .i64 k ∧ LRow (g + 1) wr v (sigsK p.now p.bits t k) ∧ Blk wr g 72 (plA p) ∧ Below w.heap.size w wr ∧ g + 1 ≤ wr.heap.size) (fun _ i _ => (16 - intOf i).toNat)
 case atStart => exact ⟨_, 0, rfl, by omega, rfl, World.ownsRow_nil _ _ _ _, K0.out, HB, hzW⟩
 case round =>
  obtain ⟨v, k, rfl, hk6, rfl, OWN, hK0, HBr, hzr⟩ := hrel
  clear K0 k0 f0 l0 m0 HB
  have K0 := Lib.hid hK0
  have HB := HBr
  clear hK0 HBr
  have hqk := sigsK_len p.now p.bits t k
  by_cases hlt : k < 16
  ·have hkl : k < p.now.length := by rw [h16.out]; exact hlt
   obtain ⟨b8, o8, hb8, hb2, hcell⟩ := (T.out.below HB).at k hkl
   rw [hA9.out] at hb8
   injection hb8 with hb8
   injection hb8 with h8 h8b
   subst h8 h8b
   have hst := sigsK_succ p.now p.bits t k hkl
   have hmm : p.bits / 2 ^ k < 18446744073709551616 := Nat.lt_of_le_of_lt (Nat.div_le_self _ _) hbits
   have hsh : (p.bits : Int) / 2 ^ k = ((p.bits / 2 ^ k : Nat) : Int) := by simp
   have hand := and_one _ hmm
   have hnk := hnn.out (p.now.getD k 0) (by rw [List.getD, List.getElem?_eq_getElem hkl]; exact List.getElem_mem hkl)
   have n5 := Lib.hid (n4.out (p.now.getD k 0) (by omega) wr)
   generalize p.now.getD k 0 = y9 at *
   generalize p.bits / 2 ^ k = m9 at *
   obtain ⟨q9, hq9⟩ : ∃ q, sigsK p.now p.bits t k = q := ⟨_, rfl⟩
   rw [hq9] at OWN hst hqk
   replace hq9 := Lib.hid hq9
   replace OWN := Lib.hid OWN
   have hlt9 : (k : Int) < (p.now.length : Int) := by omega
   unfold keyV at n5
   (obtain ⟨k0, f0, l0, m0⟩ := rl_ K0)
   rcases Nat.mod_two_eq_zero_or_one m9 with hm9 | hm9
   ·rw [hm9] at hand hst
    rw [if_neg (by omega), List.append_nil] at hst
    replace hst := Lib.hid hst
    clear hm9
    go_wp2_with fail
    go_roundw
    case rel => exact ⟨_, k + 1, rfl, by omega, by go_num, by rw [hst.out]; exact OWN.out, K0.out, HB, hzr⟩
    case measure => simp [intOf]; omega
   ·rw [hm9] at hand hst
    rw [if_pos rfl] at hst
    replace hst := Lib.hid hst
    clear hm9
    go_wp2_with fail
    refine n5.out.mono ?_
    rintro e w4 ⟨rfl, hN9⟩
    have R3 := Lib.hid (OWN.out.keep (grow_none hN9) (fun j hj e => by cases e))
    have hz4 : g + 1 ≤ w4.heap.size := Nat.le_trans hzr hN9.size
    clear OWN hzr n5
    have N0 := Lib.hid (K0.out.below hN9)
    have HBn : Below w.heap.size w w4 := Below.on hN9 HB
    clear hN9 HB K0 k0 f0 l0 m0
    have K0 := N0; have HB := HBn
    clear N0 HBn
    (obtain ⟨k0, f0, l0, m0⟩ := rl_ K0)
    go_wp2_with (at_builtin; refine wpList_append_txt rfl _ _ rfl (g + 1) v q9 rfl (R3.out.on _) (keyB (y9 : Int) (hashE t)) ⟨w4.heap.size, 0, none⟩ rfl (new_cell _ _ _) (by omega) (by simp; omega) ?_)
    intro v4 w5 OWN4 hg4 hx4
    have hlr : ∀ j, v.ownBlock = some j → g + 1 ≤ j ∧ j < w4.heap.size := fun j hj => R3.out.lt j hj
    have hgW : w4.grownBy w5 v.ownBlock := ⟨hg4.os, hg4.tape, hg4.output, Nat.le_trans (by simp) hg4.size, fun j hj hr => (hg4.block j (by simp; omega) hr).trans (Below.heap_alloc _ _ j hj)⟩
    have N0 := K0.out.grown hgW (fun e => by have := (hlr _ e.symm).1; omega)
    have HBn : Below w.heap.size w w5 := HB.grown hgW HB.size fun j e => by have := (hlr j e).1; omega
    have hz5 : g + 1 ≤ w5.heap.size := Nat.le_trans hz4 hgW.size
    replace OWN4 := Lib.hid OWN4
    clear hg4 hx4 K0 k0 f0 l0 m0 HB hgW hlr
    go_wp2_with fail
    go_roundw
    case rel => exact ⟨_, k + 1, rfl, by omega, by go_num, by rw [hst.out]; exact OWN4.out, N0, HBn, hz5⟩
    case measure => simp [intOf]; omega
  ·obtain rfl : k = 16 := by omega
   have hle : ¬ ((16 : Nat) : Int) < (p.now.length : Int) := by rw [h16.out]; omega
   obtain ⟨A5, c5, rfl, T5⟩ := OWN.txts
   have n6 := rSum_calls A5 c5 (sigsK p.now p.bits t 16) (by omega)
   rw [sumV_eq, ← hsig.out] at n6
   have n7 := Lib.hid (n6 wr T5)
   clear n6
   (obtain ⟨k0, f0, l0, m0⟩ := rl_ K0)
   go_wp2_with fail
   refine n7.out.mono ?_
   rintro e w4 ⟨rfl, hN9⟩
   go_wp2_with fail
   go_ret
   exact ⟨rfl, Below.on hN9 HB⟩
theorem CmIn.off {W : World} {x : Nat} {c : Cm} {t : TypeId} {cs : Array Value} (h : CmIn W c) (hn : 0 < c.ks.l.length → ∀ b o, c.ks.addr = some ⟨b, o, none⟩ → b ≠ x) : CmIn (setRow W x t cs) c := ⟨⟨fun h0 => by
 have h1 : 0 < c.ks.l.length := by simpa using h0
 obtain ⟨b, o, ha, hb, hc⟩ := h.1.1 h0
 exact ⟨b, o, ha, by rw [size_row]; exact hb, fun i y hx => (World.cell?_of_block (World.putObj_heap_other (hn h1 b o ha))).trans (hc i y hx)⟩, h.1.2⟩, h.2⟩
theorem CmIn.offc {W : World} {x i : Nat} {c : Cm} {v : Value} (h : CmIn W c) (hn : 0 < c.ks.l.length → ∀ b o, c.ks.addr = some ⟨b, o, none⟩ → b ≠ x) : CmIn (W.setCell ⟨x, i, none⟩ v) c := ⟨⟨fun h0 => by
 have h1 : 0 < c.ks.l.length := by simpa using h0
 obtain ⟨b, o, ha, hb, hc⟩ := h.1.1 h0
 have hne := hn h1 b o ha
 exact ⟨b, o, ha, by simpa using hb, fun j y hx => (World.cell?_of_block (Below.heap_setCell _ _ _ b (by simpa using hne))).trans (hc j y hx)⟩, h.1.2⟩, h.2⟩
def RuW (w : World) (g g3 g4 g5 : Nat) (p : Pl) (seen : Lt) (nn : Cm) (nb : Rw) (fin : Lt) (fb : Rw) (nx : Cm) (x y z : Bytes) (wx : World) : Prop :=
 Blk wx g 72 (plA p) ∧ Blk wx (g + 1) 33 (upA Up.zero) ∧ Blk wx g3 33 (upA ⟨seen, nn, nb, fin, fb, p.bits, [], p.slot⟩) ∧ Blk wx g4 9 (lvA x y z) ∧ Blk wx g5 31 (cmA nx) ∧
 UpIn wx ⟨seen, Cm.zero, nb, fin, fb, p.bits, [], p.slot⟩ ∧ UpNew (g4 + 1) ⟨seen, Cm.zero, nb, fin, fb, p.bits, [], p.slot⟩ ∧ CmIn wx nx ∧ Below w.heap.size w wx
def RuP (w : World) (g g2 g5 : Nat) (p : Pl) (cm nx : Cm) (wx : World) : Prop :=
 Blk wx g 72 (plA p) ∧ Blk wx (g + 1) 33 (upA Up.zero) ∧ Blk wx g2 31 (cmA cm) ∧ Blk wx g5 31 (cmA nx) ∧ CmIn wx cm ∧ CmIn wx nx ∧ Below w.heap.size w wx
theorem rmupdate_calls (p : Pl) (w : World) (hp : PlIn w p) :
  Calls Tryz.prog 48 #[plV p] w
  (fun e w' => ∃ u, e = .returned (.tuple #[upV u, .int .i64 (updE p)]) ∧ UpOf w' p u ∧ Below w.heap.size w w') := by
 have n1 := Lib.hid (fun W (hB : Below w.heap.size w W) => rmcomm_calls p.nowA p.nowC p.now W (hp.2.2.2.1.below hB))
 have n2 := Lib.hid (fun cm W (h : CmIn W cm) => rcroot_calls cm W h)
 have n4 := Lib.hid (fun n (hn : n < 18446744073709551616) st W => rmlight_calls n p.acc p.rcp st hn W)
 have n5 := Lib.hid (fun lt W (h : LtIn W lt) => rhroot_calls lt.b W h.1)
 have n6 := Lib.hid (fun W (hB : Below w.heap.size w W) => rmcomm_calls p.nextA p.nextC p.next W (hp.2.2.2.2.1.below hB))
 have n7 := Lib.hid (fun lt W (h : LtIn W lt) => rtext_calls lt.b p.slot W h.1 hp.2.1)
 have n8 := Lib.hid (fun t (htl : t.length ≤ 1048576) (h16 : p.now.length = 16) W (hB : Below w.heap.size w W) => rmsigned_calls p t W (hp.below hB) htl h16)
 have hE0 : ∀ b, goodU p = b → updE p = if b then 0 else 2 := fun b h => by unfold updE; rw [h]
 have hcE : commE p.now = if goodS p.now then 0 else 2 := rfl
 have hxE : commE p.next = if goodS p.next then 0 else 2 := rfl
 have hseen := Lib.hid hp.1
 have hfin := Lib.hid hp.2.2.1
 have hbits := Lib.hid hp.2.2.2.2.2.1
 have hslot := Lib.hid hp.2.1
 have K0 := Lib.hid ((Blk.new0 w 72 (plA p)).alloc (.cells (upA Up.zero) 33))
 have K1 := Lib.hid (Blk.new1 w (.cells (plA p) 72) 33 (upA Up.zero))
 have HB : Below w.heap.size w ((w.alloc (.cells (plA p) 72)).alloc (.cells (upA Up.zero) 33)) := bel
 obtain ⟨ce, hce⟩ : ∃ ce, commE p.now = ce := ⟨_, rfl⟩
 rw [hce] at n1 hcE
 obtain ⟨xe, hxe⟩ : ∃ xe, commE p.next = xe := ⟨_, rfl⟩
 rw [hxe] at n6 hxE
 replace hp := Lib.hid hp
 replace hE0 := Lib.hid hE0
 replace hcE := Lib.hid hcE
 replace hxE := Lib.hid hxE
 clear hce hxe
 go_enter Tryz.func48, Tryz.ntmps48
 go_upto_region 1 with fail
 obtain ⟨W, hW⟩ : ∃ W, ((w.alloc (.cells (plA p) 72)).alloc (.cells (upA Up.zero) 33)) = W := ⟨_, rfl⟩
 rw [hW] at K0 K1 HB ⊢
 clear hW
 obtain ⟨g, hg⟩ : ∃ g, w.heap.size = g := ⟨_, rfl⟩
 have hgl : w.heap.size ≤ g := by omega
 rw [hg] at K0 K1 ⊢
 clear hg
 (obtain ⟨k0, f0, l0, m0⟩ := rl_ K0; obtain ⟨k1, f1, l1, m1⟩ := rl_ K1)
 go_wp2_with fail
 (refine (n1.out W HB).mono ?_; rintro e w1 ⟨cm, rfl, hcm, hcn, hN⟩; replace K0 := hn_ K0 hN; replace K1 := hn_ K1 hN; replace HB : Below w.heap.size w w1 := Below.on hN HB; clear hN k0 f0 l0 m0 k1 f1 l1 m1; obtain ⟨k0, f0, l0, m0⟩ := rl_ K0; obtain ⟨k1, f1, l1, m1⟩ := rl_ K1)
 have C1 := Lib.hid hcm.1
 have hc2 := Lib.hid hcm
 clear hcm hcn n1
 (go_wp2_with (first | (with_reducible refine wsh (stCm (Cm.zero) (Blk.new0 w1 31 (cmA (Cm.zero))) (cm)) rfl rfl ?_)); generalize hWN : setRow _ _ _ _ = WN; replace K0 := Lib.hid (show Blk WN _ _ _ by rw [← hWN]; exact Blk.rowOver (Nat.ne_of_lt K0.out.lt) (K0.out.alloc _)); replace K1 := Lib.hid (show Blk WN _ _ _ by rw [← hWN]; exact Blk.rowOver (Nat.ne_of_lt K1.out.lt) (K1.out.alloc _)); replace K2 := (show Blk WN (World.heap w1).size 31 (cmA (cm)) by rw [← hWN]; exact Blk.row (by simp)); have HBn : Below w.heap.size w WN := (by rw [← hWN]; exact Below.row (HB.alloc HB.size _) HB.size (by have := HB.size; simp; omega)); have HBx : Below (World.heap w1).size w1 WN := (by rw [← hWN]; exact Below.row ((Below.refl _ _).alloc (Nat.le_refl _) _) (Nat.le_refl _) (by simp)); have NC1 := Lib.hid (C1.out.below HBx); obtain ⟨g2, hgj⟩ : ∃ g, (World.heap w1).size = g := ⟨_, rfl⟩; have hg0_2 : _ < g2 := (by rw [← hgj]; exact l0); have hg1_2 : _ < g2 := (by rw [← hgj]; exact l1); have hgl2 : w.heap.size ≤ g2 := (by rw [← hgj]; exact HB.size); rw [hgj] at K2 ⊢; replace K2 := Lib.hid K2; clear hWN hgj HB HBx k0 f0 l0 m0 k1 f1 l1 m1 C1; have C1 := NC1; clear NC1; have HB := HBn; clear HBn; obtain ⟨k0, f0, l0, m0⟩ := rl_ K0; obtain ⟨k1, f1, l1, m1⟩ := rl_ K1; obtain ⟨k2, f2, l2, m2⟩ := rl_ K2; unfold Halted)
 obtain ⟨w2, rfl⟩ : ∃ w', w' = WN := ⟨_, rfl⟩
 have hz2 : g2 + 1 ≤ w2.heap.size := l2
 go_wp2_with fail
 (refine (n6.out w2 HB).mono ?_; rintro e w3 ⟨nx, rfl, hnx, hnn, hN⟩; replace K0 := hn_ K0 hN; replace K1 := hn_ K1 hN; replace K2 := hn_ K2 hN; have NC1 := Lib.hid (C1.out.below hN); replace HB : Below w.heap.size w w3 := Below.on hN HB; clear hN k0 f0 l0 m0 k1 f1 l1 m1 k2 f2 l2 m2 C1; have C1 := NC1; clear NC1; obtain ⟨k0, f0, l0, m0⟩ := rl_ K0; obtain ⟨k1, f1, l1, m1⟩ := rl_ K1; obtain ⟨k2, f2, l2, m2⟩ := rl_ K2)
 have NX := Lib.hid hnx.1
 have hx2 := Lib.hid hnx
 have NXn : 0 < nx.ks.l.length → ∀ b o, nx.ks.addr = some ⟨b, o, none⟩ → g2 < b ∧ b < w3.heap.size := fun h0 b o e => ⟨by have := hnn b o e; omega, by
  obtain ⟨b', o', e', hlt, _⟩ := Txts.at NX.out.1.1 0 h0
  rw [e] at e'
  injection e' with e'
  injection e' with e1 e2
  rw [e1]
  exact hlt⟩
 clear hnx hnn n6 hz2
 (go_wp2_with (first | (with_reducible refine wsh (stCm (Cm.zero) (Blk.new0 w3 31 (cmA (Cm.zero))) (nx)) rfl rfl ?_)); generalize hWN : setRow _ _ _ _ = WN; replace K0 := Lib.hid (show Blk WN _ _ _ by rw [← hWN]; exact Blk.rowOver (Nat.ne_of_lt K0.out.lt) (K0.out.alloc _)); replace K1 := Lib.hid (show Blk WN _ _ _ by rw [← hWN]; exact Blk.rowOver (Nat.ne_of_lt K1.out.lt) (K1.out.alloc _)); replace K2 := Lib.hid (show Blk WN _ _ _ by rw [← hWN]; exact Blk.rowOver (Nat.ne_of_lt K2.out.lt) (K2.out.alloc _)); replace K5 := (show Blk WN (World.heap w3).size 31 (cmA (nx)) by rw [← hWN]; exact Blk.row (by simp)); have HBn : Below w.heap.size w WN := (by rw [← hWN]; exact Below.row (HB.alloc HB.size _) HB.size (by have := HB.size; simp; omega)); have HBx : Below (World.heap w3).size w3 WN := (by rw [← hWN]; exact Below.row ((Below.refl _ _).alloc (Nat.le_refl _) _) (Nat.le_refl _) (by simp)); have NC1 := Lib.hid (C1.out.below HBx); have NNX := Lib.hid (NX.out.below HBx); obtain ⟨g5, hgj⟩ : ∃ g, (World.heap w3).size = g := ⟨_, rfl⟩; have hg0_5 : _ < g5 := (by rw [← hgj]; exact l0); have hg1_5 : _ < g5 := (by rw [← hgj]; exact l1); have hg2_5 : _ < g5 := (by rw [← hgj]; exact l2); have hgl5 : w.heap.size ≤ g5 := (by rw [← hgj]; exact HB.size); rw [hgj] at NXn; rw [hgj] at K5 ⊢; replace K5 := Lib.hid K5; clear hWN hgj HB HBx k0 f0 l0 m0 k1 f1 l1 m1 k2 f2 l2 m2 C1 NX; have C1 := NC1; clear NC1; have NX := NNX; clear NNX; have HB := HBn; clear HBn; obtain ⟨k0, f0, l0, m0⟩ := rl_ K0; obtain ⟨k1, f1, l1, m1⟩ := rl_ K1; obtain ⟨k2, f2, l2, m2⟩ := rl_ K2; obtain ⟨k5, f5, l5, m5⟩ := rl_ K5; unfold Halted)
 replace NXn := Lib.hid NXn
 obtain ⟨w4, rfl⟩ : ∃ w', w' = WN := ⟨_, rfl⟩
 have hW : RuP w g g2 g5 p cm nx w4 := ⟨K0.out, K1.out, K2.out, K5.out, C1.out, NX.out, HB⟩
 go_upto_region 3 with fail
 clear k0 f0 l0 m0 k1 f1 l1 m1 k2 f2 l2 m2 k5 f5 l5 m5 K0 K1 K2 K5 HB C1 NX
 go_cut [48] (fun s wx => s = .bool (!goodU p) ∧ RuP w g g2 g5 p cm nx wx)
 case first =>
  as_aux_lemma =>
   have j0 := Lib.hid hW.1
   have j1 := Lib.hid hW.2.1
   have j2 := Lib.hid hW.2.2.1
   have j5 := Lib.hid hW.2.2.2.1
   have C1 := Lib.hid hW.2.2.2.2.1
   have NX := Lib.hid hW.2.2.2.2.2.1
   have HB := hW.2.2.2.2.2.2
   clear hW
   have K0 := j0; have K1 := j1; have K2 := j2; have K5 := j5
   clear j0 j1 j2 j5
   (obtain ⟨k0, f0, l0, m0⟩ := rl_ K0; obtain ⟨k1, f1, l1, m1⟩ := rl_ K1; obtain ⟨k2, f2, l2, m2⟩ := rl_ K2; obtain ⟨k5, f5, l5, m5⟩ := rl_ K5)
   clear n2 n4 n5 n7 n8 hE0
   cases hgs : goodS p.now with
   | false =>
    have hce0 : ce = 2 := by rw [hcE.out, hgs]; rfl
    subst hce0
    have hgu : goodU p = false := by unfold goodU; rw [hgs]; rfl
    go_wp2_with fail
    go_meet
    case rel => exact ⟨by rw [hgu]; rfl, K0.out, K1.out, K2.out, K5.out, C1.out, NX.out, HB⟩
   | true =>
    have hce0 : ce = 0 := by rw [hcE.out, hgs]; rfl
    subst hce0
    rcases Nat.eq_zero_or_pos p.next.length with h0 | h0
    ·have e1 : (p.next.length : Int) = 0 := by omega
     have hok : okN p = true := by unfold okN; rw [decide_eq_true h0]; rfl
     by_cases h1 : p.acc.length = 32
     rotate_left
     ·have e3 : ((p.acc.length : Int) != 32) = true := by simp; omega
      have e4 : ((p.acc.length : Int) == 32) = false := by simp; omega
      have hgu : goodU p = false := by unfold goodU accOk; rw [decide_eq_false h1]; simp
      go_wp2_with fail
      go_meet
      case rel => exact ⟨by rw [hgu]; rfl, K0.out, K1.out, K2.out, K5.out, C1.out, NX.out, HB⟩
     have e3 : ((p.acc.length : Int) != 32) = false := by simp; omega
     have e4 : ((p.acc.length : Int) == 32) = true := by simp; omega
     by_cases h2 : p.rcp.length = 32
     rotate_left
     ·have e5 : ((p.rcp.length : Int) != 32) = true := by simp; omega
      have e6 : ((p.rcp.length : Int) == 32) = false := by simp; omega
      have hgu : goodU p = false := by unfold goodU accOk; rw [decide_eq_false h2]; simp
      go_wp2_with fail
      go_meet
      case rel => exact ⟨by rw [hgu]; rfl, K0.out, K1.out, K2.out, K5.out, C1.out, NX.out, HB⟩
     have e5 : ((p.rcp.length : Int) != 32) = false := by simp; omega
     have e6 : ((p.rcp.length : Int) == 32) = true := by simp; omega
     have hgu : goodU p = true := by unfold goodU accOk; rw [decide_eq_true h1, decide_eq_true h2, hgs, hok]; rfl
     go_wp2_with fail
     go_meet
     case rel => exact ⟨by rw [hgu]; rfl, K0.out, K1.out, K2.out, K5.out, C1.out, NX.out, HB⟩
    ·have e1 : (0 : Int) < (p.next.length : Int) := by omega
     have hok2 : okN p = goodS p.next := by unfold okN; rw [decide_eq_false (by omega), Bool.false_or]
     cases hgx : goodS p.next with
     | false =>
      have hxe0 : xe = 2 := by rw [hxE.out, hgx]; rfl
      subst hxe0
      have hgu : goodU p = false := by unfold goodU; rw [hok2, hgx]; simp
      go_wp2_with fail
      go_meet
      case rel => exact ⟨by rw [hgu]; rfl, K0.out, K1.out, K2.out, K5.out, C1.out, NX.out, HB⟩
     | true =>
      have hxe0 : xe = 0 := by rw [hxE.out, hgx]; rfl
      subst hxe0
      have hok : okN p = true := by rw [hok2, hgx]
      by_cases h1 : p.acc.length = 32
      rotate_left
      ·have e3 : ((p.acc.length : Int) != 32) = true := by simp; omega
       have e4 : ((p.acc.length : Int) == 32) = false := by simp; omega
       have hgu : goodU p = false := by unfold goodU accOk; rw [decide_eq_false h1]; simp
       go_wp2_with fail
       go_meet
       case rel => exact ⟨by rw [hgu]; rfl, K0.out, K1.out, K2.out, K5.out, C1.out, NX.out, HB⟩
      have e3 : ((p.acc.length : Int) != 32) = false := by simp; omega
      have e4 : ((p.acc.length : Int) == 32) = true := by simp; omega
      by_cases h2 : p.rcp.length = 32
      rotate_left
      ·have e5 : ((p.rcp.length : Int) != 32) = true := by simp; omega
       have e6 : ((p.rcp.length : Int) == 32) = false := by simp; omega
       have hgu : goodU p = false := by unfold goodU accOk; rw [decide_eq_false h2]; simp
       go_wp2_with fail
       go_meet
       case rel => exact ⟨by rw [hgu]; rfl, K0.out, K1.out, K2.out, K5.out, C1.out, NX.out, HB⟩
      have e5 : ((p.rcp.length : Int) != 32) = false := by simp; omega
      have e6 : ((p.rcp.length : Int) == 32) = true := by simp; omega
      have hgu : goodU p = true := by unfold goodU accOk; rw [decide_eq_true h1, decide_eq_true h2, hgs, hok]; rfl
      go_wp2_with fail
      go_meet
      case rel => exact ⟨by rw [hgu]; rfl, K0.out, K1.out, K2.out, K5.out, C1.out, NX.out, HB⟩
 clear hW
 obtain ⟨rfl, hW⟩ := hcut
 cases hg0 : goodU p with
 | false =>
  have hgu := Lib.hid hg0
  have hE := Lib.hid (show updE p = 2 from hE0.out _ hgu.out)
  have j0 := Lib.hid hW.1
  have j1 := Lib.hid hW.2.1
  have j2 := Lib.hid hW.2.2.1
  have j5 := Lib.hid hW.2.2.2.1
  have C1 := Lib.hid hW.2.2.2.2.1
  have NX := Lib.hid hW.2.2.2.2.2.1
  have HB := hW.2.2.2.2.2.2
  clear hW
  have K0 := j0; have K1 := j1; have K2 := j2; have K5 := j5
  clear j0 j1 j2 j5
  (obtain ⟨k0, f0, l0, m0⟩ := rl_ K0; obtain ⟨k1, f1, l1, m1⟩ := rl_ K1; obtain ⟨k2, f2, l2, m2⟩ := rl_ K2; obtain ⟨k5, f5, l5, m5⟩ := rl_ K5)
  clear hE0 hcE hxE hc2 hx2 hg0 C1 NX n2 n4 n5 n7 n8
  rw [show (!false) = true from rfl]
  (go_wp2_with (first | (with_reducible refine wsh (stUp _ K1.out (Up.zero)) rfl rfl ?_)); generalize hWN : setRow _ _ _ _ = WN; replace K1 := Lib.hid (show Blk WN _ _ _ by rw [← hWN]; exact Blk.row K1.out.lt); replace K0 := Lib.hid (show Blk WN _ _ _ by rw [← hWN]; exact Blk.rowOver (by omega) K0.out); replace K2 := Lib.hid (show Blk WN _ _ _ by rw [← hWN]; exact Blk.rowOver (by omega) K2.out); replace K5 := Lib.hid (show Blk WN _ _ _ by rw [← hWN]; exact Blk.rowOver (by omega) K5.out); replace HB : Below w.heap.size w WN := (by rw [← hWN]; exact Below.row HB (by omega) HB.size); clear hWN k1 f1 l1 m1 k0 f0 l0 m0 k2 f2 l2 m2 k5 f5 l5 m5; obtain ⟨k1, f1, l1, m1⟩ := rl_ K1; obtain ⟨k0, f0, l0, m0⟩ := rl_ K0; obtain ⟨k2, f2, l2, m2⟩ := rl_ K2; obtain ⟨k5, f5, l5, m5⟩ := rl_ K5; unfold Halted)
  go_wp2_with fail
  exact bodyPost_ret (results_cell2 rfl rfl (ldUp _ K1.out)) rfl ⟨Up.zero, by rw [hE.out]; rfl, ⟨UpIn.zero _, fun h => (by rw [hgu.out] at h; cases h), fun _ => rfl⟩, HB⟩
 | true =>
  have hgu := Lib.hid hg0
  have hE := Lib.hid (show updE p = 0 from hE0.out _ hgu.out)
  obtain ⟨hgs, hkn, hacc, hkc⟩ : goodS p.now = true ∧ okN p = true ∧ accOk p = true ∧ okC p = true := by
   have h := hg0
   unfold goodU at h
   simp only [Bool.and_eq_true] at h
   refine ⟨h.1, h.2.1, h.2.2, ?_⟩
   unfold okC
   rw [h.2.2, Bool.or_true]
  have hcr := Lib.hid (cmRoot_bare (show cm.bare = (cmS p.now).bare from hc2.out.bare hgs))
  have h16 : p.now.length = 16 := by
   unfold goodS at hgs
   simp only [Bool.and_eq_true, decide_eq_true_eq] at hgs
   exact hgs.2
  replace h16 := Lib.hid h16
  replace hgs := Lib.hid hgs
  have hkn2 := Lib.hid hkn
  have hacc2 := Lib.hid hacc
  have hkc2 := Lib.hid hkc
  clear hcE hxE hc2 hE0 hg0 hkn hacc hkc
  have j0 := Lib.hid hW.1
  have j1 := Lib.hid hW.2.1
  have j2 := Lib.hid hW.2.2.1
  have j5 := Lib.hid hW.2.2.2.1
  have C1 := Lib.hid hW.2.2.2.2.1
  have NX := Lib.hid hW.2.2.2.2.2.1
  have HB := hW.2.2.2.2.2.2
  clear hW
  have K0 := j0; have K1 := j1; have K2 := j2; have K5 := j5
  clear j0 j1 j2 j5
  (obtain ⟨k0, f0, l0, m0⟩ := rl_ K0; obtain ⟨k1, f1, l1, m1⟩ := rl_ K1; obtain ⟨k2, f2, l2, m2⟩ := rl_ K2; obtain ⟨k5, f5, l5, m5⟩ := rl_ K5)
  rw [show (!true) = false from rfl]
  go_upto_region 5 with fail
  (go_wp2_with (first | (with_reducible refine wpList_build_run (o := ⟨_, .build 33 _, _, _, _, none⟩) (build_up p.bits p.slot _) rfl _ rfl (by with_unfolding_all rfl) ?_) | (with_reducible refine wsh (stUp (Up.zero) (Blk.new0 wc 33 (upA (Up.zero))) (⟨Lt.zero, Cm.zero, Rw.zero, Lt.zero, Rw.zero, p.bits, [], p.slot⟩)) rfl rfl ?_)); generalize hWN : setRow _ _ _ _ = WN; replace K0 := Lib.hid (show Blk WN _ _ _ by rw [← hWN]; exact Blk.rowOver (Nat.ne_of_lt K0.out.lt) (K0.out.alloc _)); replace K1 := Lib.hid (show Blk WN _ _ _ by rw [← hWN]; exact Blk.rowOver (Nat.ne_of_lt K1.out.lt) (K1.out.alloc _)); replace K2 := Lib.hid (show Blk WN _ _ _ by rw [← hWN]; exact Blk.rowOver (Nat.ne_of_lt K2.out.lt) (K2.out.alloc _)); replace K5 := Lib.hid (show Blk WN _ _ _ by rw [← hWN]; exact Blk.rowOver (Nat.ne_of_lt K5.out.lt) (K5.out.alloc _)); replace K3 := (show Blk WN (World.heap wc).size 33 (upA (⟨Lt.zero, Cm.zero, Rw.zero, Lt.zero, Rw.zero, p.bits, [], p.slot⟩)) by rw [← hWN]; exact Blk.row (by simp)); have HBn : Below w.heap.size w WN := (by rw [← hWN]; exact Below.row (HB.alloc HB.size _) HB.size (by have := HB.size; simp; omega)); have HBx : Below (World.heap wc).size wc WN := (by rw [← hWN]; exact Below.row ((Below.refl _ _).alloc (Nat.le_refl _) _) (Nat.le_refl _) (by simp)); have NC1 := Lib.hid (C1.out.below HBx); have NNX := Lib.hid (NX.out.below HBx); obtain ⟨g3, hgj⟩ : ∃ g, (World.heap wc).size = g := ⟨_, rfl⟩; have hg0_3 : _ < g3 := (by rw [← hgj]; exact l0); have hg1_3 : _ < g3 := (by rw [← hgj]; exact l1); have hg2_3 : _ < g3 := (by rw [← hgj]; exact l2); have hg5_3 : _ < g3 := (by rw [← hgj]; exact l5); have hgl3 : w.heap.size ≤ g3 := (by rw [← hgj]; exact HB.size); rw [hgj] at K3 ⊢; replace K3 := Lib.hid K3; clear hWN hgj HB HBx k0 f0 l0 m0 k1 f1 l1 m1 k2 f2 l2 m2 k5 f5 l5 m5 C1 NX; have C1 := NC1; clear NC1; have NX := NNX; clear NNX; have HB := HBn; clear HBn; obtain ⟨k0, f0, l0, m0⟩ := rl_ K0; obtain ⟨k1, f1, l1, m1⟩ := rl_ K1; obtain ⟨k2, f2, l2, m2⟩ := rl_ K2; obtain ⟨k5, f5, l5, m5⟩ := rl_ K5; obtain ⟨k3, f3, l3, m3⟩ := rl_ K3; unfold Halted)
  obtain ⟨w6, rfl⟩ : ∃ w', w' = WN := ⟨_, rfl⟩
  go_wp2_with fail
  (refine (rmnought_calls _).mono ?_; rintro e w7 ⟨rfl, hN⟩; replace K0 := hn_ K0 hN; replace K1 := hn_ K1 hN; replace K2 := hn_ K2 hN; replace K3 := hn_ K3 hN; replace K5 := hn_ K5 hN; have NC1 := Lib.hid (C1.out.below hN); have NNX := Lib.hid (NX.out.below hN); replace HB : Below w.heap.size w w7 := Below.on hN HB; clear hN k0 f0 l0 m0 k1 f1 l1 m1 k2 f2 l2 m2 k3 f3 l3 m3 k5 f5 l5 m5 C1 NX; have C1 := NC1; clear NC1; have NX := NNX; clear NNX; obtain ⟨k0, f0, l0, m0⟩ := rl_ K0; obtain ⟨k1, f1, l1, m1⟩ := rl_ K1; obtain ⟨k2, f2, l2, m2⟩ := rl_ K2; obtain ⟨k3, f3, l3, m3⟩ := rl_ K3; obtain ⟨k5, f5, l5, m5⟩ := rl_ K5)
  go_upto_region 8 with fail
  obtain ⟨W4, hW4⟩ : ∃ W', w7.alloc (.cells (lvA zero32 zero32 zero32) 9) = W' := ⟨_, rfl⟩
  obtain ⟨g4, hg4⟩ : ∃ g4, w7.heap.size = g4 := ⟨_, rfl⟩
  have N0 := Lib.hid (show Blk W4 _ _ _ by rw [← hW4]; exact K0.out.alloc _)
  have N1 := Lib.hid (show Blk W4 _ _ _ by rw [← hW4]; exact K1.out.alloc _)
  have N2 := Lib.hid (show Blk W4 _ _ _ by rw [← hW4]; exact K2.out.alloc _)
  have N3 := Lib.hid (show Blk W4 _ _ _ by rw [← hW4]; exact K3.out.alloc _)
  have N5 := Lib.hid (show Blk W4 _ _ _ by rw [← hW4]; exact K5.out.alloc _)
  have N4 := Lib.hid (show Blk W4 g4 9 (lvA zero32 zero32 zero32) by rw [← hW4, ← hg4]; exact Blk.new0 _ _ _)
  have NC1 := Lib.hid (show CmIn W4 cm by rw [← hW4]; exact C1.out.below ((Below.refl _ _).alloc (Nat.le_refl _) _))
  have NNX := Lib.hid (show CmIn W4 nx by rw [← hW4]; exact NX.out.below ((Below.refl _ _).alloc (Nat.le_refl _) _))
  have HBn : Below w.heap.size w W4 := by rw [← hW4]; exact HB.alloc HB.size _
  have hg34 : g3 < g4 := by omega
  have hg54 : g5 < g4 := by omega
  have hgl4 : w.heap.size ≤ g4 := by omega
  rw [hW4, hg4]
  clear hW4 hg4 k0 f0 l0 m0 K0 k1 f1 l1 m1 K1 k2 f2 l2 m2 K2 k3 f3 l3 m3 K3 k5 f5 l5 m5 K5 HB C1 NX
  have K0 := N0; have K1 := N1; have K2 := N2; have K3 := N3; have K4 := N4; have K5 := N5; have C1 := NC1; have NX := NNX; have HB := HBn
  clear N0 N1 N2 N3 N4 N5 NC1 NNX HBn
  (obtain ⟨k0, f0, l0, m0⟩ := rl_ K0; obtain ⟨k1, f1, l1, m1⟩ := rl_ K1; obtain ⟨k2, f2, l2, m2⟩ := rl_ K2; obtain ⟨k3, f3, l3, m3⟩ := rl_ K3; obtain ⟨k4, f4, l4, m4⟩ := rl_ K4; obtain ⟨k5, f5, l5, m5⟩ := rl_ K5)
  obtain ⟨cr, hcr2⟩ : ∃ cr, cmRoot cm = cr := ⟨_, rfl⟩
  obtain ⟨cq, hcq⟩ : ∃ cq, cmE cm = cq := ⟨_, rfl⟩
  have n22 := n2.out cm
  rw [hcr2, hcq] at n22
  replace n22 := Lib.hid n22
  replace hcr := Lib.hid (show cmRoot (cmS p.now) = cr by rw [← hcr.out, hcr2])
  clear hcr2 hcq
  go_wp2_with (first | (with_reducible refine wlr (ldCm _ K2.out) rfl ?_) | (with_reducible refine wlg (ldCm _ K2.out) (by with_unfolding_all rfl) rfl ?_))
  (refine (n22.out _ C1.out).mono ?_; rintro e w9 ⟨rfl, hN⟩; replace K0 := hn_ K0 hN; replace K1 := hn_ K1 hN; replace K3 := hn_ K3 hN; replace K4 := hn_ K4 hN; replace K5 := hn_ K5 hN; have NNX := Lib.hid (NX.out.below hN); replace HB : Below w.heap.size w w9 := Below.on hN HB; clear hN k0 f0 l0 m0 k1 f1 l1 m1 k3 f3 l3 m3 k4 f4 l4 m4 k5 f5 l5 m5 NX; have NX := NNX; clear NNX; obtain ⟨k0, f0, l0, m0⟩ := rl_ K0; obtain ⟨k1, f1, l1, m1⟩ := rl_ K1; obtain ⟨k3, f3, l3, m3⟩ := rl_ K3; obtain ⟨k4, f4, l4, m4⟩ := rl_ K4; obtain ⟨k5, f5, l5, m5⟩ := rl_ K5)
  go_upto_region 9 with fail
  (obtain ⟨WN, hWN⟩ : ∃ W', World.setCell w9 ⟨g4, 4, none⟩ (.string (bs cr)) = W' := ⟨_, rfl⟩; replace K4 := Lib.hid (show Blk WN _ _ (lvA zero32 cr zero32) by rw [← hWN]; exact Blk.to (Blk.set_ K4.out 4 _) rfl); replace K0 := Lib.hid (show Blk WN _ _ _ by rw [← hWN]; exact K0.out.far (by simp; omega) _); replace K1 := Lib.hid (show Blk WN _ _ _ by rw [← hWN]; exact K1.out.far (by simp; omega) _); replace K3 := Lib.hid (show Blk WN _ _ _ by rw [← hWN]; exact K3.out.far (by simp; omega) _); replace K5 := Lib.hid (show Blk WN _ _ _ by rw [← hWN]; exact K5.out.far (by simp; omega) _); have NNX := Lib.hid (show CmIn WN _ by rw [← hWN]; exact NX.out.offc fun h0 b o e => by have := NXn.out h0 b o e; omega); replace HB : Below w.heap.size w WN := (by rw [← hWN]; exact HB.setCell (by simp; omega) _); rw [hWN]; clear hWN k4 f4 l4 m4 k0 f0 l0 m0 k1 f1 l1 m1 k3 f3 l3 m3 k5 f5 l5 m5 NX; have NX := NNX; clear NNX; obtain ⟨k4, f4, l4, m4⟩ := rl_ K4; obtain ⟨k0, f0, l0, m0⟩ := rl_ K0; obtain ⟨k1, f1, l1, m1⟩ := rl_ K1; obtain ⟨k3, f3, l3, m3⟩ := rl_ K3; obtain ⟨k5, f5, l5, m5⟩ := rl_ K5)
  obtain ⟨w10, rfl⟩ : ∃ w', w' = WN := ⟨_, rfl⟩
  clear n22 K2 k2 f2 l2 m2 C1
  have hW : RuW w g g3 g4 g5 p Lt.zero Cm.zero Rw.zero Lt.zero Rw.zero nx zero32 cr zero32 w10 := ⟨K0.out, K1.out, K3.out, K4.out, K5.out, ⟨LtIn.zero _, CmIn.zero _, RwIn.zero _, LtIn.zero _, RwIn.zero _, hbits.out, Nat.zero_le _, hslot.out⟩, ⟨RwNew.zero _, RwNew.zero _, RwNew.zero _, RwNew.zero _, RwNew.zero _⟩, NX.out, HB⟩
  -- the finalized header
  obtain ⟨bf, hbf⟩ : ∃ b, ((p.fin : Int) != 0) = b := ⟨_, rfl⟩
  have hbf2 : ((p.fin : Int) == 0) = !bf := by rw [← hbf, bne, Bool.not_not]
  have hbf3 := Lib.hid (show bf = !decide (p.fin = 0) by rw [← hbf, Bool.eq_iff_iff]; simp)
  go_upto_if 72 with fail
  clear hbf hbf2
  clear k0 f0 l0 m0 k1 f1 l1 m1 k3 f3 l3 m3 k4 f4 l4 m4 k5 f5 l5 m5 K0 K1 K3 K4 K5 HB NX
  go_cut [] (fun wx => ∃ lt, lt.bare = finS p ∧ RuW w g g3 g4 g5 p Lt.zero Cm.zero Rw.zero lt Rw.zero nx (l3S p) cr zero32 wx)
  case first =>
   as_aux_lemma =>
    have j0 := Lib.hid hW.1
    have j1 := Lib.hid hW.2.1
    have j3 := Lib.hid hW.2.2.1
    have j4 := Lib.hid hW.2.2.2.1
    have j5 := Lib.hid hW.2.2.2.2.1
    have UI := Lib.hid hW.2.2.2.2.2.1
    have UIn := Lib.hid hW.2.2.2.2.2.2.1
    have NX := Lib.hid hW.2.2.2.2.2.2.2.1
    have HB := hW.2.2.2.2.2.2.2.2
    clear hW
    have K0 := j0; have K1 := j1; have K3 := j3; have K4 := j4; have K5 := j5
    clear j0 j1 j3 j4 j5
    (obtain ⟨k0, f0, l0, m0⟩ := rl_ K0; obtain ⟨k1, f1, l1, m1⟩ := rl_ K1; obtain ⟨k3, f3, l3, m3⟩ := rl_ K3; obtain ⟨k4, f4, l4, m4⟩ := rl_ K4; obtain ⟨k5, f5, l5, m5⟩ := rl_ K5)
    cases bf with
    | false =>
     have hf : p.fin = 0 := by simpa using hbf3.out
     have hfs := Lib.hid (show finS p = Lt.zero by unfold finS; rw [if_pos hf])
     have hls := Lib.hid (show l3S p = zero32 by unfold l3S; rw [if_pos hf])
     clear n2 n4 n5 n7 n8
     go_wp2_with fail
     go_meet
     case rel => exact ⟨Lt.zero, hfs.out.symm, by rw [hls.out]; exact ⟨K0.out, K1.out, K3.out, K4.out, K5.out, UI.out, UIn.out, NX.out, HB⟩⟩
    | true =>
     have hf : ¬ p.fin = 0 := by simpa using hbf3.out
     have hok := Lib.hid (show lightOk p.acc p.rcp zero32 = true by rw [lightOk_st z32_len]; exact hacc2.out)
     have hfs := Lib.hid (show finS p = ltS p.fin p.acc p.rcp zero32 by unfold finS; rw [if_neg hf])
     have hls := Lib.hid (show l3S p = hdRoot (hdS p.fin p.acc p.rcp zero32) by unfold l3S; rw [if_neg hf])
     have n42 := n4.out p.fin hfin.out zero32
     rw [show lightE p.acc p.rcp zero32 = 0 by unfold lightE; rw [hok.out]; rfl] at n42
     replace n42 := Lib.hid n42
     have hz6 : g4 + 1 ≤ w10.heap.size := by omega
     clear n4 hf n2 n7 n8
     go_wp2_with fail
     (refine (n42.out _).mono ?_; rintro e w11 ⟨lt, rfl, hlt, hln, hN⟩; replace K0 := hn_ K0 hN; replace K1 := hn_ K1 hN; replace K3 := hn_ K3 hN; replace K4 := hn_ K4 hN; replace K5 := hn_ K5 hN; have NUI := Lib.hid (UI.out.below hN); have NNX := Lib.hid (NX.out.below hN); replace HB : Below w.heap.size w w11 := Below.on hN HB; clear hN k0 f0 l0 m0 k1 f1 l1 m1 k3 f3 l3 m3 k4 f4 l4 m4 k5 f5 l5 m5 UI NX; have UI := NUI; clear NUI; have NX := NNX; clear NNX; obtain ⟨k0, f0, l0, m0⟩ := rl_ K0; obtain ⟨k1, f1, l1, m1⟩ := rl_ K1; obtain ⟨k3, f3, l3, m3⟩ := rl_ K3; obtain ⟨k4, f4, l4, m4⟩ := rl_ K4; obtain ⟨k5, f5, l5, m5⟩ := rl_ K5)
     have L1 := Lib.hid hlt.1
     have L1n := Lib.hid (RwNew.mono hln hz6)
     have hl2 := Lib.hid hlt
     clear hlt hln n42 hz6
     (go_wp2_with (first | (with_reducible refine wsh (stUp_fin _ K3.out (lt)) rfl rfl ?_)); generalize hWN : setRow _ _ _ _ = WN; replace K3 := Lib.hid (show Blk WN _ _ _ by rw [← hWN]; exact Blk.row K3.out.lt); replace K0 := Lib.hid (show Blk WN _ _ _ by rw [← hWN]; exact Blk.rowOver (by omega) K0.out); replace K1 := Lib.hid (show Blk WN _ _ _ by rw [← hWN]; exact Blk.rowOver (by omega) K1.out); replace K4 := Lib.hid (show Blk WN _ _ _ by rw [← hWN]; exact Blk.rowOver (by omega) K4.out); replace K5 := Lib.hid (show Blk WN _ _ _ by rw [← hWN]; exact Blk.rowOver (by omega) K5.out); have NUI := Lib.hid (show UpIn WN _ by rw [← hWN]; exact UI.out.kp UIn.out (Kp.row (by omega))); have NL1 := Lib.hid (show LtIn WN _ by rw [← hWN]; exact L1.out.kp L1n.out (Kp.row (by omega))); have NNX := Lib.hid (show CmIn WN _ by rw [← hWN]; exact NX.out.off fun h0 b o e => by have := NXn.out h0 b o e; omega); replace HB : Below w.heap.size w WN := (by rw [← hWN]; exact Below.row HB (by omega) HB.size); clear hWN k3 f3 l3 m3 k0 f0 l0 m0 k1 f1 l1 m1 k4 f4 l4 m4 k5 f5 l5 m5 UI L1 NX; have UI := NUI; clear NUI; have L1 := NL1; clear NL1; have NX := NNX; clear NNX; obtain ⟨k3, f3, l3, m3⟩ := rl_ K3; obtain ⟨k0, f0, l0, m0⟩ := rl_ K0; obtain ⟨k1, f1, l1, m1⟩ := rl_ K1; obtain ⟨k4, f4, l4, m4⟩ := rl_ K4; obtain ⟨k5, f5, l5, m5⟩ := rl_ K5; unfold Halted)
     obtain ⟨w12, rfl⟩ : ∃ w', w' = WN := ⟨_, rfl⟩
     obtain ⟨hr, hhr⟩ : ∃ hr, hdRoot lt.b = hr := ⟨_, rfl⟩
     obtain ⟨hq, hhq⟩ : ∃ hq, hdE lt.b = hq := ⟨_, rfl⟩
     have n52 := n5.out lt
     rw [hhr, hhq] at n52
     replace n52 := Lib.hid n52
     replace hhr := Lib.hid hhr
     clear hhq
     go_wp2_with (with_reducible refine wlr (ldUp_fin_b _ K3.out) rfl ?_)
     (refine (n52.out _ L1.out).mono ?_; rintro e w13 ⟨rfl, hN⟩; replace K0 := hn_ K0 hN; replace K1 := hn_ K1 hN; replace K3 := hn_ K3 hN; replace K4 := hn_ K4 hN; replace K5 := hn_ K5 hN; have NUI := Lib.hid (UI.out.below hN); have NL1 := Lib.hid (L1.out.below hN); have NNX := Lib.hid (NX.out.below hN); replace HB : Below w.heap.size w w13 := Below.on hN HB; clear hN k0 f0 l0 m0 k1 f1 l1 m1 k3 f3 l3 m3 k4 f4 l4 m4 k5 f5 l5 m5 UI L1 NX; have UI := NUI; clear NUI; have L1 := NL1; clear NL1; have NX := NNX; clear NNX; obtain ⟨k0, f0, l0, m0⟩ := rl_ K0; obtain ⟨k1, f1, l1, m1⟩ := rl_ K1; obtain ⟨k3, f3, l3, m3⟩ := rl_ K3; obtain ⟨k4, f4, l4, m4⟩ := rl_ K4; obtain ⟨k5, f5, l5, m5⟩ := rl_ K5)
     go_wp2_with fail
     (obtain ⟨WN, hWN⟩ : ∃ W', World.setCell w13 ⟨g4, 3, none⟩ (.string (bs hr)) = W' := ⟨_, rfl⟩; replace K4 := Lib.hid (show Blk WN _ _ (lvA hr cr zero32) by rw [← hWN]; exact Blk.to (Blk.set_ K4.out 3 _) rfl); replace K0 := Lib.hid (show Blk WN _ _ _ by rw [← hWN]; exact K0.out.far (by simp; omega) _); replace K1 := Lib.hid (show Blk WN _ _ _ by rw [← hWN]; exact K1.out.far (by simp; omega) _); replace K3 := Lib.hid (show Blk WN _ _ _ by rw [← hWN]; exact K3.out.far (by simp; omega) _); replace K5 := Lib.hid (show Blk WN _ _ _ by rw [← hWN]; exact K5.out.far (by simp; omega) _); have NUI := Lib.hid (show UpIn WN _ by rw [← hWN]; exact UI.out.kp UIn.out (Kp.cell (by omega))); have NL1 := Lib.hid (show LtIn WN _ by rw [← hWN]; exact L1.out.kp L1n.out (Kp.cell (by omega))); have NNX := Lib.hid (show CmIn WN _ by rw [← hWN]; exact NX.out.offc fun h0 b o e => by have := NXn.out h0 b o e; omega); replace HB : Below w.heap.size w WN := (by rw [← hWN]; exact HB.setCell (by simp; omega) _); rw [hWN]; clear hWN k4 f4 l4 m4 k0 f0 l0 m0 k1 f1 l1 m1 k3 f3 l3 m3 k5 f5 l5 m5 UI L1 NX; have UI := NUI; clear NUI; have L1 := NL1; clear NL1; have NX := NNX; clear NNX; obtain ⟨k4, f4, l4, m4⟩ := rl_ K4; obtain ⟨k0, f0, l0, m0⟩ := rl_ K0; obtain ⟨k1, f1, l1, m1⟩ := rl_ K1; obtain ⟨k3, f3, l3, m3⟩ := rl_ K3; obtain ⟨k5, f5, l5, m5⟩ := rl_ K5)
     go_wp2_with fail
     go_meet
     case rel =>
      exact ⟨lt, by rw [hfs.out]; exact hl2.out.bare hok.out, by rw [hls.out, ← (hl2.out.2.1 hok.out).1, hhr.out]; exact ⟨K0.out, K1.out, K3.out, K4.out, K5.out, ⟨UI.out.1, UI.out.2.1, UI.out.2.2.1, L1.out, UI.out.2.2.2.2⟩, ⟨UIn.out.1, UIn.out.2.1, UIn.out.2.2.1, L1n.out, UIn.out.2.2.2.2⟩, NX.out, HB⟩⟩
  clear hW
  obtain ⟨lt, hlt, hW⟩ := hcut
  have hlt1 := Lib.hid hlt
  clear hlt
  obtain ⟨v3, hv3⟩ : ∃ v3, l3S p = v3 := ⟨_, rfl⟩
  rw [hv3] at hW
  replace hv3 := Lib.hid hv3
  -- the next committee
  go_upto_region 12 with fail
  go_cut [97] (fun s wx => s = .bool (decide (0 < p.next.length)) ∧ RuW w g g3 g4 g5 p Lt.zero Cm.zero Rw.zero lt Rw.zero nx v3 cr zero32 wx)
  case first =>
   have j0 := Lib.hid hW.1
   have j1 := Lib.hid hW.2.1
   have j3 := Lib.hid hW.2.2.1
   have j4 := Lib.hid hW.2.2.2.1
   have j5 := Lib.hid hW.2.2.2.2.1
   have UI := Lib.hid hW.2.2.2.2.2.1
   have UIn := Lib.hid hW.2.2.2.2.2.2.1
   have NX := Lib.hid hW.2.2.2.2.2.2.2.1
   have HB := hW.2.2.2.2.2.2.2.2
   clear hW
   have K0 := j0; have K1 := j1; have K3 := j3; have K4 := j4; have K5 := j5
   clear j0 j1 j3 j4 j5
   (obtain ⟨k0, f0, l0, m0⟩ := rl_ K0; obtain ⟨k1, f1, l1, m1⟩ := rl_ K1; obtain ⟨k3, f3, l3, m3⟩ := rl_ K3; obtain ⟨k4, f4, l4, m4⟩ := rl_ K4; obtain ⟨k5, f5, l5, m5⟩ := rl_ K5)
   rcases Nat.eq_zero_or_pos p.next.length with h0 | h0
   ·have e1 : (p.next.length : Int) = 0 := by omega
    go_wp2_with fail
    go_meet
    case rel => exact ⟨by rw [decide_eq_false (by omega)], K0.out, K1.out, K3.out, K4.out, K5.out, UI.out, UIn.out, NX.out, HB⟩
   ·have e1 : (0 : Int) < (p.next.length : Int) := by omega
    go_wp2_with fail
    go_meet
    case rel => exact ⟨by rw [decide_eq_true h0], K0.out, K1.out, K3.out, K4.out, K5.out, UI.out, UIn.out, NX.out, HB⟩
  clear hW
  obtain ⟨rfl, hW⟩ := hcut
  obtain ⟨bn, hbn⟩ : ∃ b, decide (0 < p.next.length) = b := ⟨_, rfl⟩
  rw [hbn]
  replace hbn := Lib.hid hbn
  go_upto_if 97 with fail
  go_cut [] (fun wx => ∃ nn : Cm, nn.bare = nxS p ∧ (nn = Cm.zero ∨ nn = nx) ∧ RuW w g g3 g4 g5 p Lt.zero nn Rw.zero lt Rw.zero nx v3 cr (l5S p) wx)
  case first =>
   as_aux_lemma =>
    have j0 := Lib.hid hW.1
    have j1 := Lib.hid hW.2.1
    have j3 := Lib.hid hW.2.2.1
    have j4 := Lib.hid hW.2.2.2.1
    have j5 := Lib.hid hW.2.2.2.2.1
    have UI := Lib.hid hW.2.2.2.2.2.1
    have UIn := Lib.hid hW.2.2.2.2.2.2.1
    have NX := Lib.hid hW.2.2.2.2.2.2.2.1
    have HB := hW.2.2.2.2.2.2.2.2
    clear hW
    have K0 := j0; have K1 := j1; have K3 := j3; have K4 := j4; have K5 := j5
    clear j0 j1 j3 j4 j5
    (obtain ⟨k0, f0, l0, m0⟩ := rl_ K0; obtain ⟨k1, f1, l1, m1⟩ := rl_ K1; obtain ⟨k3, f3, l3, m3⟩ := rl_ K3; obtain ⟨k4, f4, l4, m4⟩ := rl_ K4; obtain ⟨k5, f5, l5, m5⟩ := rl_ K5)
    clear n4 n5 n7 n8
    cases bn with
    | false =>
     have h0 : p.next.length = 0 := by have := of_decide_eq_false hbn.out; omega
     have hfs := Lib.hid (show nxS p = Cm.zero by unfold nxS; rw [if_pos h0])
     have hls := Lib.hid (show l5S p = zero32 by unfold l5S; rw [if_pos h0])
     clear n2 h0
     go_wp2_with fail
     go_meet
     case rel => exact ⟨Cm.zero, hfs.out.symm, .inl rfl, by rw [hls.out]; exact ⟨K0.out, K1.out, K3.out, K4.out, K5.out, UI.out, UIn.out, NX.out, HB⟩⟩
    | true =>
     have h0 : ¬ p.next.length = 0 := by have := of_decide_eq_true hbn.out; omega
     have hok := Lib.hid (show goodS p.next = true by have := hkn2.out; unfold okN at this; rw [decide_eq_false h0, Bool.false_or] at this; exact this)
     have hfs := Lib.hid (show nxS p = cmS p.next by unfold nxS; rw [if_neg h0])
     have hls := Lib.hid (show l5S p = cmRoot (cmS p.next) by unfold l5S; rw [if_neg h0])
     clear h0
     (go_wp2_with (first | (with_reducible refine wlr (ldCm _ K5.out) rfl ?_) | (with_reducible refine wlg (ldCm _ K5.out) (by with_unfolding_all rfl) rfl ?_) | (with_reducible refine wsh (stUp_next _ K3.out (nx)) rfl rfl ?_)); generalize hWN : setRow _ _ _ _ = WN; replace K3 := Lib.hid (show Blk WN _ _ _ by rw [← hWN]; exact Blk.row K3.out.lt); replace K0 := Lib.hid (show Blk WN _ _ _ by rw [← hWN]; exact Blk.rowOver (by omega) K0.out); replace K1 := Lib.hid (show Blk WN _ _ _ by rw [← hWN]; exact Blk.rowOver (by omega) K1.out); replace K4 := Lib.hid (show Blk WN _ _ _ by rw [← hWN]; exact Blk.rowOver (by omega) K4.out); replace K5 := Lib.hid (show Blk WN _ _ _ by rw [← hWN]; exact Blk.rowOver (by omega) K5.out); have NUI := Lib.hid (show UpIn WN _ by rw [← hWN]; exact UI.out.kp UIn.out (Kp.row (by omega))); have NNX := Lib.hid (show CmIn WN _ by rw [← hWN]; exact NX.out.off fun h0 b o e => by have := NXn.out h0 b o e; omega); replace HB : Below w.heap.size w WN := (by rw [← hWN]; exact Below.row HB (by omega) HB.size); clear hWN k3 f3 l3 m3 k0 f0 l0 m0 k1 f1 l1 m1 k4 f4 l4 m4 k5 f5 l5 m5 UI NX; have UI := NUI; clear NUI; have NX := NNX; clear NNX; obtain ⟨k3, f3, l3, m3⟩ := rl_ K3; obtain ⟨k0, f0, l0, m0⟩ := rl_ K0; obtain ⟨k1, f1, l1, m1⟩ := rl_ K1; obtain ⟨k4, f4, l4, m4⟩ := rl_ K4; obtain ⟨k5, f5, l5, m5⟩ := rl_ K5; unfold Halted)
     obtain ⟨w8, rfl⟩ : ∃ w', w' = WN := ⟨_, rfl⟩
     obtain ⟨xr, hxr⟩ : ∃ xr, cmRoot nx = xr := ⟨_, rfl⟩
     obtain ⟨xq, hxq⟩ : ∃ xq, cmE nx = xq := ⟨_, rfl⟩
     have n52 := n2.out nx
     rw [hxr, hxq] at n52
     replace n52 := Lib.hid n52
     replace hxr := Lib.hid hxr
     clear hxq n2
     go_wp2_with (first | (with_reducible refine wlr (ldCm _ K5.out) rfl ?_) | (with_reducible refine wlg (ldCm _ K5.out) (by with_unfolding_all rfl) rfl ?_))
     (refine (n52.out _ NX.out).mono ?_; rintro e w9 ⟨rfl, hN⟩; replace K0 := hn_ K0 hN; replace K1 := hn_ K1 hN; replace K3 := hn_ K3 hN; replace K4 := hn_ K4 hN; replace K5 := hn_ K5 hN; have NUI := Lib.hid (UI.out.below hN); have NNX := Lib.hid (NX.out.below hN); replace HB : Below w.heap.size w w9 := Below.on hN HB; clear hN k0 f0 l0 m0 k1 f1 l1 m1 k3 f3 l3 m3 k4 f4 l4 m4 k5 f5 l5 m5 UI NX; have UI := NUI; clear NUI; have NX := NNX; clear NNX; obtain ⟨k0, f0, l0, m0⟩ := rl_ K0; obtain ⟨k1, f1, l1, m1⟩ := rl_ K1; obtain ⟨k3, f3, l3, m3⟩ := rl_ K3; obtain ⟨k4, f4, l4, m4⟩ := rl_ K4; obtain ⟨k5, f5, l5, m5⟩ := rl_ K5)
     go_wp2_with fail
     (obtain ⟨WN, hWN⟩ : ∃ W', World.setCell w9 ⟨g4, 5, none⟩ (.string (bs xr)) = W' := ⟨_, rfl⟩; replace K4 := Lib.hid (show Blk WN _ _ (lvA v3 cr xr) by rw [← hWN]; exact Blk.to (Blk.set_ K4.out 5 _) rfl); replace K0 := Lib.hid (show Blk WN _ _ _ by rw [← hWN]; exact K0.out.far (by simp; omega) _); replace K1 := Lib.hid (show Blk WN _ _ _ by rw [← hWN]; exact K1.out.far (by simp; omega) _); replace K3 := Lib.hid (show Blk WN _ _ _ by rw [← hWN]; exact K3.out.far (by simp; omega) _); replace K5 := Lib.hid (show Blk WN _ _ _ by rw [← hWN]; exact K5.out.far (by simp; omega) _); have NUI := Lib.hid (show UpIn WN _ by rw [← hWN]; exact UI.out.kp UIn.out (Kp.cell (by omega))); have NNX := Lib.hid (show CmIn WN _ by rw [← hWN]; exact NX.out.offc fun h0 b o e => by have := NXn.out h0 b o e; omega); replace HB : Below w.heap.size w WN := (by rw [← hWN]; exact HB.setCell (by simp; omega) _); rw [hWN]; clear hWN k4 f4 l4 m4 k0 f0 l0 m0 k1 f1 l1 m1 k3 f3 l3 m3 k5 f5 l5 m5 UI NX; have UI := NUI; clear NUI; have NX := NNX; clear NNX; obtain ⟨k4, f4, l4, m4⟩ := rl_ K4; obtain ⟨k0, f0, l0, m0⟩ := rl_ K0; obtain ⟨k1, f1, l1, m1⟩ := rl_ K1; obtain ⟨k3, f3, l3, m3⟩ := rl_ K3; obtain ⟨k5, f5, l5, m5⟩ := rl_ K5)
     go_wp2_with fail
     go_meet
     case rel =>
      exact ⟨nx, by rw [hfs.out]; exact hx2.out.bare hok.out, .inr rfl, by rw [hls.out, ← cmRoot_bare (show nx.bare = (cmS p.next).bare from hx2.out.bare hok.out), hxr.out]; exact ⟨K0.out, K1.out, K3.out, K4.out, K5.out, UI.out, UIn.out, NX.out, HB⟩⟩
  clear hW
  obtain ⟨nn, hnb, hno, hW⟩ := hcut
  have hnn1 := Lib.hid hnb
  have hno1 := Lib.hid hno
  clear hnb hno n2
  obtain ⟨v5, hv5⟩ : ∃ v5, l5S p = v5 := ⟨_, rfl⟩
  rw [hv5] at hW
  have hRr := leavesU_right hgs.out hkc2.out hkn2.out
  have hlv : leavesU p = [zero32, zero32, zero32, v3, cr, v5] := by unfold leavesU; rw [hv3.out, hcr.out, hv5]
  have hstl := Lib.hid (stateU_len hgs.out hkc2.out hkn2.out)
  have r1 := Lib.hid (fun W (h : Blk W g4 9 (lvA v3 cr v5)) => rroot_yes (some ⟨g4, 0, none⟩) 6 (leavesU p) 3 hRr W (txts_blk (by rw [hlv]; exact h)))
  have r2 := Lib.hid (fun W (h : Blk W g4 9 (lvA v3 cr v5)) => rbranch_yes (some ⟨g4, 0, none⟩) 6 (leavesU p) 3 3 hRr (by decide) W (txts_blk (by rw [hlv]; exact h)))
  have r4 := Lib.hid (fun W (h : Blk W g4 9 (lvA v3 cr v5)) => rbranch_yes (some ⟨g4, 0, none⟩) 6 (leavesU p) 3 5 hRr (by decide) W (txts_blk (by rw [hlv]; exact h)))
  have hbl3 := Lib.hid (branchP_len (leavesU p) 3 3)
  have hbl5 := Lib.hid (branchP_len (leavesU p) 5 3)
  have hba3 : ∀ x ∈ branchP (leavesU p) 3 3, x.length ≤ 1048576 := fun x hx => by rw [branchP_all _ hRr.2.2.2.2 _ _ x hx]; decide
  have hba5 : ∀ x ∈ branchP (leavesU p) 5 3, x.length ≤ 1048576 := fun x hx => by rw [branchP_all _ hRr.2.2.2.2 _ _ x hx]; decide
  replace hba3 := Lib.hid hba3
  replace hba5 := Lib.hid hba5
  have hst : rootP (leavesU p) 3 = stateU p := rfl
  have hfb := Lib.hid (show fbS p = if p.fin = 0 then [] else branchP (leavesU p) 3 3 from rfl)
  have hnb := Lib.hid (show nbS p = if p.next.length = 0 then [] else branchP (leavesU p) 5 3 from rfl)
  obtain ⟨st, hst2⟩ : ∃ st, stateU p = st := ⟨_, rfl⟩
  rw [hst, hst2] at r1
  rw [hst2] at hstl
  replace hst2 := Lib.hid hst2
  obtain ⟨r3, hr3⟩ : ∃ r, branchP (leavesU p) 3 3 = r := ⟨_, rfl⟩
  obtain ⟨r5, hr5⟩ : ∃ r, branchP (leavesU p) 5 3 = r := ⟨_, rfl⟩
  rw [hr3] at r2 hbl3 hba3 hfb
  rw [hr5] at r4 hbl5 hba5 hnb
  have r1' : ∀ W, Blk W g4 9 (lvA v3 cr v5) → Calls Tryz.prog 92 #[.slice (some ⟨g4, 0, none⟩) 6 6, .int .i64 3] W (Ret W (.tuple #[.string (bs st), .int .i64 0])) := r1.out
  have r2' : ∀ W, Blk W g4 9 (lvA v3 cr v5) → Calls Tryz.prog 105 #[.slice (some ⟨g4, 0, none⟩) 6 6, .int .i64 3, .int .i64 3] W (fun e w' => ∃ v, e = .returned (.tuple #[v, .int .i64 0]) ∧ LRow W.heap.size w' v r3 ∧ Below W.heap.size W w') := r2.out
  have r4' : ∀ W, Blk W g4 9 (lvA v3 cr v5) → Calls Tryz.prog 105 #[.slice (some ⟨g4, 0, none⟩) 6 6, .int .i64 3, .int .i64 5] W (fun e w' => ∃ v, e = .returned (.tuple #[v, .int .i64 0]) ∧ LRow W.heap.size w' v r5 ∧ Below W.heap.size W w') := r4.out
  replace r1 := Lib.hid r1'
  replace r2 := Lib.hid r2'
  replace r4 := Lib.hid r4'
  clear r1' r2' r4' hst hr3 hr5 hRr hlv hv5
  have j0 := Lib.hid hW.1
  have j1 := Lib.hid hW.2.1
  have j3 := Lib.hid hW.2.2.1
  have j4 := Lib.hid hW.2.2.2.1
  have j5 := Lib.hid hW.2.2.2.2.1
  have UI := Lib.hid hW.2.2.2.2.2.1
  have UIn := Lib.hid hW.2.2.2.2.2.2.1
  have NX := Lib.hid hW.2.2.2.2.2.2.2.1
  have HB := hW.2.2.2.2.2.2.2.2
  clear hW
  have K0 := j0; have K1 := j1; have K3 := j3; have K4 := j4; have K5 := j5
  clear j0 j1 j3 j4 j5
  (obtain ⟨k0, f0, l0, m0⟩ := rl_ K0; obtain ⟨k1, f1, l1, m1⟩ := rl_ K1; obtain ⟨k3, f3, l3, m3⟩ := rl_ K3; obtain ⟨k4, f4, l4, m4⟩ := rl_ K4; obtain ⟨k5, f5, l5, m5⟩ := rl_ K5)
  go_wp2_with fail
  (refine (r1.out _ K4.out).mono ?_; rintro e w14 ⟨rfl, hN⟩; replace K0 := hn_ K0 hN; replace K1 := hn_ K1 hN; replace K3 := hn_ K3 hN; replace K4 := hn_ K4 hN; replace K5 := hn_ K5 hN; have NUI := Lib.hid (UI.out.below hN); have NNX := Lib.hid (NX.out.below hN); replace HB : Below w.heap.size w w14 := Below.on hN HB; clear hN k0 f0 l0 m0 k1 f1 l1 m1 k3 f3 l3 m3 k4 f4 l4 m4 k5 f5 l5 m5 UI NX; have UI := NUI; clear NUI; have NX := NNX; clear NNX; obtain ⟨k0, f0, l0, m0⟩ := rl_ K0; obtain ⟨k1, f1, l1, m1⟩ := rl_ K1; obtain ⟨k3, f3, l3, m3⟩ := rl_ K3; obtain ⟨k4, f4, l4, m4⟩ := rl_ K4; obtain ⟨k5, f5, l5, m5⟩ := rl_ K5)
  have hW : RuW w g g3 g4 g5 p Lt.zero nn Rw.zero lt Rw.zero nx v3 cr v5 w14 := ⟨K0.out, K1.out, K3.out, K4.out, K5.out, UI.out, UIn.out, NX.out, HB⟩
  clear r1
  obtain ⟨bf2, hbf⟩ : ∃ b, ((p.fin : Int) != 0) = b := ⟨_, rfl⟩
  have hbf2 : ((p.fin : Int) == 0) = !bf2 := by rw [← hbf, bne, Bool.not_not]
  have hbf4 := Lib.hid (show bf2 = !decide (p.fin = 0) by rw [← hbf, Bool.eq_iff_iff]; simp)
  go_upto_if 114 with fail
  clear hbf hbf2
  clear k0 f0 l0 m0 k1 f1 l1 m1 k3 f3 l3 m3 k4 f4 l4 m4 k5 f5 l5 m5 K0 K1 K3 K4 K5 HB UI UIn NX
  go_cut [] (fun wx => ∃ fb : Rw, fb.l = fbS p ∧ RuW w g g3 g4 g5 p Lt.zero nn Rw.zero lt fb nx v3 cr v5 wx)
  case first =>
   have j0 := Lib.hid hW.1
   have j1 := Lib.hid hW.2.1
   have j3 := Lib.hid hW.2.2.1
   have j4 := Lib.hid hW.2.2.2.1
   have j5 := Lib.hid hW.2.2.2.2.1
   have UI := Lib.hid hW.2.2.2.2.2.1
   have UIn := Lib.hid hW.2.2.2.2.2.2.1
   have NX := Lib.hid hW.2.2.2.2.2.2.2.1
   have HB := hW.2.2.2.2.2.2.2.2
   clear hW
   have K0 := j0; have K1 := j1; have K3 := j3; have K4 := j4; have K5 := j5
   clear j0 j1 j3 j4 j5
   (obtain ⟨k0, f0, l0, m0⟩ := rl_ K0; obtain ⟨k1, f1, l1, m1⟩ := rl_ K1; obtain ⟨k3, f3, l3, m3⟩ := rl_ K3; obtain ⟨k4, f4, l4, m4⟩ := rl_ K4; obtain ⟨k5, f5, l5, m5⟩ := rl_ K5)
   clear n4 n5 n7 n8 r4
   cases bf2 with
   | false =>
    have hf : p.fin = 0 := by simpa using hbf4.out
    have hfb2 := Lib.hid (show fbS p = [] by rw [hfb.out, if_pos hf])
    go_wp2_with fail
    go_meet
    case rel => exact ⟨Rw.zero, hfb2.out.symm, K0.out, K1.out, K3.out, K4.out, K5.out, UI.out, UIn.out, NX.out, HB⟩
   | true =>
    have hf : ¬ p.fin = 0 := by simpa using hbf4.out
    have hfb2 := Lib.hid (show fbS p = r3 by rw [hfb.out, if_neg hf])
    have hzz : g4 + 1 ≤ w14.heap.size := by omega
    go_wp2_with fail
    (refine (r2.out _ K4.out).mono ?_; rintro e w15 ⟨v, rfl, hRv, hN⟩; replace K0 := hn_ K0 hN; replace K1 := hn_ K1 hN; replace K3 := hn_ K3 hN; replace K4 := hn_ K4 hN; replace K5 := hn_ K5 hN; have NUI := Lib.hid (UI.out.below hN); have NNX := Lib.hid (NX.out.below hN); replace HB : Below w.heap.size w w15 := Below.on hN HB; clear hN k0 f0 l0 m0 k1 f1 l1 m1 k3 f3 l3 m3 k4 f4 l4 m4 k5 f5 l5 m5 UI NX; have UI := NUI; clear NUI; have NX := NNX; clear NNX; obtain ⟨k0, f0, l0, m0⟩ := rl_ K0; obtain ⟨k1, f1, l1, m1⟩ := rl_ K1; obtain ⟨k3, f3, l3, m3⟩ := rl_ K3; obtain ⟨k4, f4, l4, m4⟩ := rl_ K4; obtain ⟨k5, f5, l5, m5⟩ := rl_ K5)
    obtain ⟨A5, c5, rfl, _⟩ := hRv.txts
    have F1 := Lib.hid (row_in hRv (by rw [hbl3.out]; decide) hba3.out)
    have F1n := Lib.hid (row_newer (base' := g4 + 1) hRv hzz)
    clear hRv r2 hzz
    go_wp2_with fail
    (obtain ⟨WN, hWN⟩ : ∃ W', World.setCell w15 ⟨g3, 21, none⟩ (.slice A5 r3.length c5) = W' := ⟨_, rfl⟩; replace K3 := Lib.hid (show Blk WN _ _ (upA ⟨Lt.zero, nn, Rw.zero, lt, ⟨A5, c5, r3⟩, p.bits, [], p.slot⟩) by rw [← hWN]; exact Blk.to (Blk.set_ K3.out 21 _) rfl); replace K0 := Lib.hid (show Blk WN _ _ _ by rw [← hWN]; exact K0.out.far (by simp; omega) _); replace K1 := Lib.hid (show Blk WN _ _ _ by rw [← hWN]; exact K1.out.far (by simp; omega) _); replace K4 := Lib.hid (show Blk WN _ _ _ by rw [← hWN]; exact K4.out.far (by simp; omega) _); replace K5 := Lib.hid (show Blk WN _ _ _ by rw [← hWN]; exact K5.out.far (by simp; omega) _); have NUI := Lib.hid (show UpIn WN _ by rw [← hWN]; exact UI.out.kp UIn.out (Kp.cell (by omega))); have NF1 := Lib.hid (show RwIn WN _ by rw [← hWN]; exact F1.out.kp F1n.out (Kp.cell (by omega))); have NNX := Lib.hid (show CmIn WN _ by rw [← hWN]; exact NX.out.offc fun h0 b o e => by have := NXn.out h0 b o e; omega); replace HB : Below w.heap.size w WN := (by rw [← hWN]; exact HB.setCell (by simp; omega) _); rw [hWN]; clear hWN k3 f3 l3 m3 k0 f0 l0 m0 k1 f1 l1 m1 k4 f4 l4 m4 k5 f5 l5 m5 UI F1 NX; have UI := NUI; clear NUI; have F1 := NF1; clear NF1; have NX := NNX; clear NNX; obtain ⟨k3, f3, l3, m3⟩ := rl_ K3; obtain ⟨k0, f0, l0, m0⟩ := rl_ K0; obtain ⟨k1, f1, l1, m1⟩ := rl_ K1; obtain ⟨k4, f4, l4, m4⟩ := rl_ K4; obtain ⟨k5, f5, l5, m5⟩ := rl_ K5)
    go_meet
    case rel => exact ⟨⟨A5, c5, r3⟩, hfb2.out.symm, K0.out, K1.out, K3.out, K4.out, K5.out, ⟨UI.out.1, UI.out.2.1, UI.out.2.2.1, UI.out.2.2.2.1, F1.out, UI.out.2.2.2.2.2⟩, ⟨UIn.out.1, UIn.out.2.1, UIn.out.2.2.1, UIn.out.2.2.2.1, F1n.out⟩, NX.out, HB⟩
  clear hW
  obtain ⟨fb, hfb2, hW⟩ := hcut
  replace hfb2 := Lib.hid hfb2
  clear hfb hbf4 r2
  go_upto_region 18 with fail
  go_cut [124] (fun s wx => s = .bool bn ∧ RuW w g g3 g4 g5 p Lt.zero nn Rw.zero lt fb nx v3 cr v5 wx)
  case first =>
   have j0 := Lib.hid hW.1
   have j1 := Lib.hid hW.2.1
   have j3 := Lib.hid hW.2.2.1
   have j4 := Lib.hid hW.2.2.2.1
   have j5 := Lib.hid hW.2.2.2.2.1
   have UI := Lib.hid hW.2.2.2.2.2.1
   have UIn := Lib.hid hW.2.2.2.2.2.2.1
   have NX := Lib.hid hW.2.2.2.2.2.2.2.1
   have HB := hW.2.2.2.2.2.2.2.2
   clear hW
   have K0 := j0; have K1 := j1; have K3 := j3; have K4 := j4; have K5 := j5
   clear j0 j1 j3 j4 j5
   (obtain ⟨k0, f0, l0, m0⟩ := rl_ K0; obtain ⟨k1, f1, l1, m1⟩ := rl_ K1; obtain ⟨k3, f3, l3, m3⟩ := rl_ K3; obtain ⟨k4, f4, l4, m4⟩ := rl_ K4; obtain ⟨k5, f5, l5, m5⟩ := rl_ K5)
   rcases Nat.eq_zero_or_pos p.next.length with h0 | h0
   ·have e1 : (p.next.length : Int) = 0 := by omega
    go_wp2_with fail
    go_meet
    case rel => exact ⟨by rw [← hbn.out, decide_eq_false (by omega)], K0.out, K1.out, K3.out, K4.out, K5.out, UI.out, UIn.out, NX.out, HB⟩
   ·have e1 : (0 : Int) < (p.next.length : Int) := by omega
    go_wp2_with fail
    go_meet
    case rel => exact ⟨by rw [← hbn.out, decide_eq_true h0], K0.out, K1.out, K3.out, K4.out, K5.out, UI.out, UIn.out, NX.out, HB⟩
  clear hW
  obtain ⟨rfl, hW⟩ := hcut
  go_upto_if 124 with fail
  go_cut [] (fun wx => ∃ nb : Rw, nb.l = nbS p ∧ RuW w g g3 g4 g5 p Lt.zero nn nb lt fb nx v3 cr v5 wx)
  case first =>
   have j0 := Lib.hid hW.1
   have j1 := Lib.hid hW.2.1
   have j3 := Lib.hid hW.2.2.1
   have j4 := Lib.hid hW.2.2.2.1
   have j5 := Lib.hid hW.2.2.2.2.1
   have UI := Lib.hid hW.2.2.2.2.2.1
   have UIn := Lib.hid hW.2.2.2.2.2.2.1
   have NX := Lib.hid hW.2.2.2.2.2.2.2.1
   have HB := hW.2.2.2.2.2.2.2.2
   clear hW
   have K0 := j0; have K1 := j1; have K3 := j3; have K4 := j4; have K5 := j5
   clear j0 j1 j3 j4 j5
   (obtain ⟨k0, f0, l0, m0⟩ := rl_ K0; obtain ⟨k1, f1, l1, m1⟩ := rl_ K1; obtain ⟨k3, f3, l3, m3⟩ := rl_ K3; obtain ⟨k4, f4, l4, m4⟩ := rl_ K4; obtain ⟨k5, f5, l5, m5⟩ := rl_ K5)
   clear n4 n5 n7 n8
   cases bn with
   | false =>
    have h0 : p.next.length = 0 := by have := of_decide_eq_false hbn.out; omega
    have hnb2 := Lib.hid (show nbS p = [] by rw [hnb.out, if_pos h0])
    clear h0
    go_wp2_with fail
    go_meet
    case rel => exact ⟨Rw.zero, hnb2.out.symm, K0.out, K1.out, K3.out, K4.out, K5.out, UI.out, UIn.out, NX.out, HB⟩
   | true =>
    have h0 : ¬ p.next.length = 0 := by have := of_decide_eq_true hbn.out; omega
    have hnb2 := Lib.hid (show nbS p = r5 by rw [hnb.out, if_neg h0])
    have hzz : g4 + 1 ≤ wc.heap.size := by omega
    clear h0
    go_wp2_with fail
    (refine (r4.out _ K4.out).mono ?_; rintro e w15 ⟨v, rfl, hRv, hN⟩; replace K0 := hn_ K0 hN; replace K1 := hn_ K1 hN; replace K3 := hn_ K3 hN; replace K4 := hn_ K4 hN; replace K5 := hn_ K5 hN; have NUI := Lib.hid (UI.out.below hN); have NNX := Lib.hid (NX.out.below hN); replace HB : Below w.heap.size w w15 := Below.on hN HB; clear hN k0 f0 l0 m0 k1 f1 l1 m1 k3 f3 l3 m3 k4 f4 l4 m4 k5 f5 l5 m5 UI NX; have UI := NUI; clear NUI; have NX := NNX; clear NNX; obtain ⟨k0, f0, l0, m0⟩ := rl_ K0; obtain ⟨k1, f1, l1, m1⟩ := rl_ K1; obtain ⟨k3, f3, l3, m3⟩ := rl_ K3; obtain ⟨k4, f4, l4, m4⟩ := rl_ K4; obtain ⟨k5, f5, l5, m5⟩ := rl_ K5)
    obtain ⟨A6, c6, rfl, _⟩ := hRv.txts
    have F2 := Lib.hid (row_in hRv (by rw [hbl5.out]; decide) hba5.out)
    have F2n := Lib.hid (row_newer (base' := g4 + 1) hRv hzz)
    clear hRv r4 hzz
    go_wp2_with fail
    (obtain ⟨WN, hWN⟩ : ∃ W', World.setCell w15 ⟨g3, 11, none⟩ (.slice A6 r5.length c6) = W' := ⟨_, rfl⟩; replace K3 := Lib.hid (show Blk WN _ _ (upA ⟨Lt.zero, nn, ⟨A6, c6, r5⟩, lt, fb, p.bits, [], p.slot⟩) by rw [← hWN]; exact Blk.to (Blk.set_ K3.out 11 _) rfl); replace K0 := Lib.hid (show Blk WN _ _ _ by rw [← hWN]; exact K0.out.far (by simp; omega) _); replace K1 := Lib.hid (show Blk WN _ _ _ by rw [← hWN]; exact K1.out.far (by simp; omega) _); replace K4 := Lib.hid (show Blk WN _ _ _ by rw [← hWN]; exact K4.out.far (by simp; omega) _); replace K5 := Lib.hid (show Blk WN _ _ _ by rw [← hWN]; exact K5.out.far (by simp; omega) _); have NUI := Lib.hid (show UpIn WN _ by rw [← hWN]; exact UI.out.kp UIn.out (Kp.cell (by omega))); have NF2 := Lib.hid (show RwIn WN _ by rw [← hWN]; exact F2.out.kp F2n.out (Kp.cell (by omega))); have NNX := Lib.hid (show CmIn WN _ by rw [← hWN]; exact NX.out.offc fun h0 b o e => by have := NXn.out h0 b o e; omega); replace HB : Below w.heap.size w WN := (by rw [← hWN]; exact HB.setCell (by simp; omega) _); rw [hWN]; clear hWN k3 f3 l3 m3 k0 f0 l0 m0 k1 f1 l1 m1 k4 f4 l4 m4 k5 f5 l5 m5 UI F2 NX; have UI := NUI; clear NUI; have F2 := NF2; clear NF2; have NX := NNX; clear NNX; obtain ⟨k3, f3, l3, m3⟩ := rl_ K3; obtain ⟨k0, f0, l0, m0⟩ := rl_ K0; obtain ⟨k1, f1, l1, m1⟩ := rl_ K1; obtain ⟨k4, f4, l4, m4⟩ := rl_ K4; obtain ⟨k5, f5, l5, m5⟩ := rl_ K5)
    go_meet
    case rel => exact ⟨⟨A6, c6, r5⟩, hnb2.out.symm, K0.out, K1.out, K3.out, K4.out, K5.out, ⟨UI.out.1, UI.out.2.1, F2.out, UI.out.2.2.2⟩, ⟨UIn.out.1, UIn.out.2.1, F2n.out, UIn.out.2.2.2⟩, NX.out, HB⟩
  clear hW hnb hbn r4
  obtain ⟨nb, hnb2, hW⟩ := hcut
  replace hnb2 := Lib.hid hnb2
  -- the signed header
  have hok := Lib.hid (show lightOk p.acc p.rcp st = true by rw [lightOk_st hstl.out]; exact hacc2.out)
  have n42 := n4.out p.seen hseen.out st
  rw [show lightE p.acc p.rcp st = 0 by unfold lightE; rw [hok.out]; rfl] at n42
  replace n42 := Lib.hid n42
  clear n4
  have j0 := Lib.hid hW.1
  have j1 := Lib.hid hW.2.1
  have j3 := Lib.hid hW.2.2.1
  have j4 := Lib.hid hW.2.2.2.1
  have j5 := Lib.hid hW.2.2.2.2.1
  have UI := Lib.hid hW.2.2.2.2.2.1
  have UIn := Lib.hid hW.2.2.2.2.2.2.1
  have NX := Lib.hid hW.2.2.2.2.2.2.2.1
  have HB := hW.2.2.2.2.2.2.2.2
  clear hW
  have K0 := j0; have K1 := j1; have K3 := j3; have K4 := j4; have K5 := j5
  clear j0 j1 j3 j4 j5
  (obtain ⟨k0, f0, l0, m0⟩ := rl_ K0; obtain ⟨k1, f1, l1, m1⟩ := rl_ K1; obtain ⟨k3, f3, l3, m3⟩ := rl_ K3; obtain ⟨k4, f4, l4, m4⟩ := rl_ K4; obtain ⟨k5, f5, l5, m5⟩ := rl_ K5)
  have hzz : g4 + 1 ≤ wc.heap.size := by omega
  go_wp2_with fail
  (refine (n42.out _).mono ?_; rintro e w16 ⟨l2, rfl, hlt, hln, hN⟩; replace K0 := hn_ K0 hN; replace K1 := hn_ K1 hN; replace K3 := hn_ K3 hN; have NUI := Lib.hid (UI.out.below hN); have NNX := Lib.hid (NX.out.below hN); replace HB : Below w.heap.size w w16 := Below.on hN HB; clear hN k0 f0 l0 m0 k1 f1 l1 m1 k3 f3 l3 m3 UI NX; have UI := NUI; clear NUI; have NX := NNX; clear NNX; obtain ⟨k0, f0, l0, m0⟩ := rl_ K0; obtain ⟨k1, f1, l1, m1⟩ := rl_ K1; obtain ⟨k3, f3, l3, m3⟩ := rl_ K3)
  have L2 := Lib.hid hlt.1
  have L2n := Lib.hid (RwNew.mono hln hzz)
  have hl2 := Lib.hid hlt
  clear hlt hln n42 hzz K4 k4 f4 l4 m4 K5 k5 f5 l5 m5
  (go_wp2_with (first | (with_reducible refine wsh (stUp_seen _ K3.out (l2)) rfl rfl ?_)); generalize hWN : setRow _ _ _ _ = WN; replace K3 := Lib.hid (show Blk WN _ _ _ by rw [← hWN]; exact Blk.row K3.out.lt); replace K0 := Lib.hid (show Blk WN _ _ _ by rw [← hWN]; exact Blk.rowOver (by omega) K0.out); replace K1 := Lib.hid (show Blk WN _ _ _ by rw [← hWN]; exact Blk.rowOver (by omega) K1.out); have NUI := Lib.hid (show UpIn WN _ by rw [← hWN]; exact UI.out.kp UIn.out (Kp.row (by omega))); have NL2 := Lib.hid (show LtIn WN _ by rw [← hWN]; exact L2.out.kp L2n.out (Kp.row (by omega))); have NNX := Lib.hid (show CmIn WN _ by rw [← hWN]; exact NX.out.off fun h0 b o e => by have := NXn.out h0 b o e; omega); replace HB : Below w.heap.size w WN := (by rw [← hWN]; exact Below.row HB (by omega) HB.size); clear hWN k3 f3 l3 m3 k0 f0 l0 m0 k1 f1 l1 m1 UI L2 NX; have UI := NUI; clear NUI; have L2 := NL2; clear NL2; have NX := NNX; clear NNX; obtain ⟨k3, f3, l3, m3⟩ := rl_ K3; obtain ⟨k0, f0, l0, m0⟩ := rl_ K0; obtain ⟨k1, f1, l1, m1⟩ := rl_ K1; unfold Halted)
  obtain ⟨w17, rfl⟩ : ∃ w', w' = WN := ⟨_, rfl⟩
  have hb2 := Lib.hid (show l2.bare = ltS p.seen p.acc p.rcp st from hl2.out.bare hok.out)
  have hlb := Lib.hid (show l2.b = hdS p.seen p.acc p.rcp st from (hl2.out.2.1 hok.out).1)
  have n72 := n7.out l2
  have n82 := n8.out (textP l2.b p.slot) (textP_len _ _) h16.out
  have hsp : sumB (sigsP p.now p.bits (textP l2.b p.slot)) = sigP p l2.b := rfl
  rw [hsp] at n82
  obtain ⟨sg, hsg⟩ : ∃ sg, sigP p l2.b = sg := ⟨_, rfl⟩
  have hsl := Lib.hid (sigP_len p l2.b)
  rw [hsg] at n82 hsl
  obtain ⟨tx, htx⟩ : ∃ tx, textP l2.b p.slot = tx := ⟨_, rfl⟩
  rw [htx] at n72 n82
  replace n72 := Lib.hid n72
  replace n82 := Lib.hid n82
  replace hsg := Lib.hid hsg
  clear n7 n8 hl2 htx hsp
  obtain ⟨u, hu⟩ : ∃ u : Up, u = ⟨l2, nn, nb, lt, fb, p.bits, [], p.slot⟩ := ⟨_, rfl⟩
  have hub : u.seen.b = l2.b := by rw [hu]
  have UJ := Lib.hid (show UpIn w17 ⟨l2, Cm.zero, nb, lt, fb, p.bits, [], p.slot⟩ from ⟨L2.out, UI.out.2⟩)
  have UJn := Lib.hid (show UpNew (g4 + 1) ⟨l2, Cm.zero, nb, lt, fb, p.bits, [], p.slot⟩ from ⟨L2n.out, UIn.out.2⟩)
  clear UI UIn L2 L2n
  go_upto_region 21 with fail
  have hwf : ∀ f, Fence.wide.fn f := fun _ => trivial
  refine (wpIn_wide (n := 9)).1 ?_
  refine wpIn_round_held (fun w' => Below w17.heap.size w17 w') (fun j => !decide (j ∈ [9])) (by kernel_rfl) ?_
  have hS0 : (fun w' => Below w17.heap.size w17 w') w17.drew := (Below.refl _ _).drew
  have KA100 := Lib.hid (K0.out.drew)
  have KA101 := Lib.hid (K1.out.drew)
  have KA102 := Lib.hid (K3.out.drew)
  have HBt := HB.drew
  refine S_tk 0 (plV p) rfl hS0 (fun w' hw => by exact exec_load rfl (by kernel_rfl) (ldPl _ (K0.out.below hw))) ?_
  refine S_tg 1 (.pointer (some ⟨g3, 0, none⟩)) rfl hS0 ?_
  refine S_tg 2 (.pointer (some ⟨g3, 0, none⟩)) rfl hS0 ?_
  simp only [Act.put, List.getElem_toArray, List.getElem_cons_succ, List.getElem_cons_zero, List.setIfInBounds_toArray, List.set_cons_succ, List.set_cons_zero]
  refine S_tk 3 (hdV l2.b) rfl hS0 (fun w' hw => by exact exec_load rfl (by kernel_rfl) (ldUp_seen_b _ (K3.out.below hw))) ?_
  refine S_tg 4 (.pointer (some ⟨g, 1, none⟩)) rfl hS0 ?_
  refine S_tk 5 (.int .u64 (p.slot : Int)) rfl hS0 (fun w' hw => exec_load rfl (by kernel_rfl) (run_load_cell (i := 1) (K0.out.below hw) rfl szU64 nrU64)) ?_
  simp only [Act.put, List.getElem_toArray, List.getElem_cons_succ, List.getElem_cons_zero, List.setIfInBounds_toArray, List.set_cons_succ, List.set_cons_zero]
  refine S_one 6 (by kernel_rfl) rfl (fun K hK => ?_)
  go_simp
  gi_wp2_with (gi_at_call 34; refine (callsIn_wide.2 (n72.out _ (LtIn.below (show LtIn w17 l2 from UJ.out.1) hS0))).mono ?_; rintro e w17h1 ⟨rfl, hN⟩)
  replace KA100 := hn_ KA100 hN
  replace KA101 := hn_ KA101 hN
  replace KA102 := hn_ KA102 hN
  replace HBt := Below.on hN HBt
  replace hS0 := hS0.trans (hN.mono hS0.size)
  clear hN
  refine ⟨(fun _ => hS0), ?_⟩
  refine S_one 7 (by kernel_rfl) rfl (fun K hK => ?_)
  go_simp
  gi_wp2_with (gi_at_call 107; refine (callsIn_wide.2 (n82.out _ (Below.on hS0 HB))).mono ?_; rintro e w17h2 ⟨rfl, hN⟩)
  replace KA100 := hn_ KA100 hN
  replace KA101 := hn_ KA101 hN
  replace KA102 := hn_ KA102 hN
  replace HBt := Below.on hN HBt
  replace hS0 := hS0.trans (hN.mono hS0.size)
  clear hN
  refine ⟨(fun _ => hS0), ?_⟩
  refine S_tg 8 (.pointer (some ⟨g3, 23, none⟩)) rfl hS0 ?_
  refine S_store 9 (fun _ => trivial) (by kernel_rfl) (by kernel_rfl) rfl (by kernel_rfl) (setRow w17h2 (g3) 33 (upA ⟨l2, nn, nb, lt, fb, p.bits, sg, p.slot⟩)) (exec_store _ _ rfl (by kernel_rfl) (by kernel_rfl) (stcUp_sig _ KA102.out sg)) (fun h => absurd h (by decide)) ?_
  replace KA100 := Lib.hid (Blk.rowOver (g' := g3) (t' := 33) (cs' := upA ⟨l2, nn, nb, lt, fb, p.bits, sg, p.slot⟩) (by first | assumption | omega) KA100.out)
  replace KA101 := Lib.hid (Blk.rowOver (g' := g3) (t' := 33) (cs' := upA ⟨l2, nn, nb, lt, fb, p.bits, sg, p.slot⟩) (by first | assumption | omega) KA101.out)
  replace KA102 := Lib.hid (Blk.row (t := 33) (cs := upA ⟨l2, nn, nb, lt, fb, p.bits, sg, p.slot⟩) KA102.out.lt)
  replace HBt := Below.row HBt (g := g3) (t := 33) (cs := upA ⟨l2, nn, nb, lt, fb, p.bits, sg, p.slot⟩) (by omega) HBt.size
  refine ⟨by kernel_rfl, rfl, ?_⟩
  have UK := (show UpIn ((setRow w17h2 (g3) 33 (upA ⟨l2, nn, nb, lt, fb, p.bits, sg, p.slot⟩))) ⟨l2, Cm.zero, nb, lt, fb, p.bits, [], p.slot⟩ from (UJ.out.below hS0).kp UJn.out (Kp.row (by omega)))
  have NY := (show CmIn ((setRow w17h2 (g3) 33 (upA ⟨l2, nn, nb, lt, fb, p.bits, sg, p.slot⟩))) nx from (NX.out.below hS0).off fun h0 b o e => by have := NXn.out h0 b o e; omega)
  obtain ⟨WN, hWN⟩ : ∃ WN, (setRow w17h2 (g3) 33 (upA ⟨l2, nn, nb, lt, fb, p.bits, sg, p.slot⟩)) = WN := ⟨_, rfl⟩
  rw [hWN] at KA100 KA101 KA102 HBt UK NY ⊢
  replace UK := Lib.hid UK
  replace NY := Lib.hid NY
  clear hWN hwf hS0 HB
  have HB := HBt
  clear HBt
  clear K0 k0 f0 l0 m0
  clear K1 k1 f1 l1 m1
  clear K3 k3 f3 l3 m3
  have K0 := KA100
  clear KA100
  have K1 := KA101
  clear KA101
  have K3 := KA102
  clear KA102
  (obtain ⟨k0, f0, l0, m0⟩ := rl_ K0; obtain ⟨k1, f1, l1, m1⟩ := rl_ K1; obtain ⟨k3, f3, l3, m3⟩ := rl_ K3)
  simp only [Act.put, List.getElem_toArray, List.getElem_cons_succ, List.getElem_cons_zero, List.setIfInBounds_toArray, List.set_cons_succ, List.set_cons_zero]
  have UKn := UJn
  have NYn := NXn
  (go_wp2_with (first | (with_reducible refine wlr (ldUp _ K3.out) rfl ?_) | (with_reducible refine wlg (ldUp _ K3.out) (by with_unfolding_all rfl) rfl ?_) | (with_reducible refine wsh (stUp _ K1.out (⟨l2, nn, nb, lt, fb, p.bits, sg, p.slot⟩)) rfl rfl ?_)); generalize hWN : setRow _ _ _ _ = WN; replace K1 := Lib.hid (show Blk WN _ _ _ by rw [← hWN]; exact Blk.row K1.out.lt); replace K0 := Lib.hid (show Blk WN _ _ _ by rw [← hWN]; exact Blk.rowOver (by omega) K0.out); replace K3 := Lib.hid (show Blk WN _ _ _ by rw [← hWN]; exact Blk.rowOver (by omega) K3.out); have NUK := Lib.hid (show UpIn WN _ by rw [← hWN]; exact UK.out.kp UKn.out (Kp.row (by omega))); have NNY := Lib.hid (show CmIn WN _ by rw [← hWN]; exact NY.out.off fun h0 b o e => by have := NYn.out h0 b o e; omega); replace HB : Below w.heap.size w WN := (by rw [← hWN]; exact Below.row HB (by omega) HB.size); clear hWN k1 f1 l1 m1 k0 f0 l0 m0 k3 f3 l3 m3 UK NY; have UK := NUK; clear NUK; have NY := NNY; clear NNY; obtain ⟨k1, f1, l1, m1⟩ := rl_ K1; obtain ⟨k0, f0, l0, m0⟩ := rl_ K0; obtain ⟨k3, f3, l3, m3⟩ := rl_ K3; unfold Halted)
  go_wp2_with fail
  have hcn : CmIn WN nn := by
   rcases hno1.out with h | h
   ·rw [h]; exact CmIn.zero _
   ·rw [h]; exact NY.out
  exact bodyPost_ret (results_cell2 rfl rfl (ldUp _ K1.out)) rfl ⟨⟨l2, nn, nb, lt, fb, p.bits, sg, p.slot⟩, by rw [hE.out]; rfl, ⟨⟨UK.out.1, hcn, UK.out.2.2.1, UK.out.2.2.2.1, UK.out.2.2.2.2.1, hbits.out, hsl.out, hslot.out⟩, fun _ => by
   show Up.mk l2.bare nn.bare (Rw.bare nb) lt.bare (Rw.bare fb) p.bits sg p.slot = upS p
   unfold upS Rw.bare
   rw [hb2.out, hnn1.out, hnb2.out, hlt1.out, hfb2.out, hst2.out, ← hsg.out, hlb.out], fun h => (by rw [hgu.out] at h; cases h)⟩, HB⟩
theorem rmboot_calls (slot : Nat) (A : Option Addr) (c : Nat) (l : List Nat) (a r : Bytes) (hn : slot < 18446744073709551616) (w : World) (hl : NumsIn w A l) :
  Calls Tryz.prog 45 #[.int .u64 slot, .slice A l.length c, .string (bs a), .string (bs r)] w
  (fun e w' => ∃ bt, e = .returned (.tuple #[.string (bs (bootR slot l a r)), btV bt, .int .i64 (bootE l a r)]) ∧ BtOf w' slot l a r bt ∧ Below w.heap.size w w') := by
 have n1 := Lib.hid (fun W (hB : Below w.heap.size w W) => rmcomm_calls A c l W (hl.below hB))
 have hE0 : ∀ b, goodB l a r = b → bootE l a r = if b then 0 else 2 := fun b h => by unfold bootE; rw [h]
 have hR : ∀ b, goodB l a r = b → bootR slot l a r = if b then hdRoot (hdS slot a r (bootSt l)) else [] := fun b h => by unfold bootR; rw [h]
 have hcE : commE l = if goodS l then 0 else 2 := rfl
 have K0 := Lib.hid (Blk.new0 w 45 (btA Bt.zero))
 have HB : Below w.heap.size w (w.alloc (.cells (btA Bt.zero) 45)) := bel
 obtain ⟨ce, hce⟩ : ∃ ce, commE l = ce := ⟨_, rfl⟩
 rw [hce] at n1 hcE
 go_enter Tryz.func45, Tryz.ntmps45
 go_upto_region 1 with fail
 obtain ⟨W, hW⟩ : ∃ W, w.alloc (.cells (btA Bt.zero) 45) = W := ⟨_, rfl⟩
 have hsz := Lib.hid (show W.heap.size = w.heap.size + 1 by rw [← hW]; simp)
 rw [hW] at K0 HB ⊢
 clear hW
 obtain ⟨g, hg⟩ : ∃ g, w.heap.size = g := ⟨_, rfl⟩
 have hgl : w.heap.size ≤ g := by omega
 replace hsz := Lib.hid (show W.heap.size = g + 1 by rw [hsz.out, hg])
 rw [hg] at K0 ⊢
 clear hg
 replace hE0 := Lib.hid hE0
 replace hR := Lib.hid hR
 replace hcE := Lib.hid hcE
 replace hce := Lib.hid hce
 replace hl := Lib.hid hl
 (obtain ⟨k0, f0, l0, m0⟩ := rl_ K0)
 go_wp2_with fail
 (refine (n1.out W HB).mono ?_; rintro e w1 ⟨cm, rfl, hcm, hcn, hN⟩; replace K0 := hn_ K0 hN; replace HB : Below w.heap.size w w1 := Below.on hN HB; clear hN k0 f0 l0 m0; obtain ⟨k0, f0, l0, m0⟩ := rl_ K0)
 rw [hsz.out] at hcn
 have C1 := Lib.hid hcm.1
 have hc2 := Lib.hid hcm.2
 replace hcn := Lib.hid hcn
 clear hcm hsz n1
 (go_wp2_with (first | (with_reducible refine wsh (stCm (Cm.zero) (Blk.new0 w1 31 (cmA (Cm.zero))) (cm)) rfl rfl ?_)); generalize hWN : setRow _ _ _ _ = WN; replace K0 := Lib.hid (show Blk WN _ _ _ by rw [← hWN]; exact Blk.rowOver (Nat.ne_of_lt K0.out.lt) (K0.out.alloc _)); replace K1 := (show Blk WN (World.heap w1).size 31 (cmA (cm)) by rw [← hWN]; exact Blk.row (by simp)); have HBn : Below w.heap.size w WN := (by rw [← hWN]; exact Below.row (HB.alloc HB.size _) HB.size (by have := HB.size; simp; omega)); have HBx : Below (World.heap w1).size w1 WN := (by rw [← hWN]; exact Below.row ((Below.refl _ _).alloc (Nat.le_refl _) _) (Nat.le_refl _) (by simp)); have NC1 := Lib.hid (C1.out.below HBx); obtain ⟨g1, hgj⟩ : ∃ g, (World.heap w1).size = g := ⟨_, rfl⟩; have hg0_1 : _ < g1 := (by rw [← hgj]; exact l0); have hgl1 : w.heap.size ≤ g1 := (by rw [← hgj]; exact HB.size); rw [hgj] at K1 ⊢; replace K1 := Lib.hid K1; clear hWN hgj HB HBx k0 f0 l0 m0 C1; have C1 := NC1; clear NC1; have HB := HBn; clear HBn; obtain ⟨k0, f0, l0, m0⟩ := rl_ K0; obtain ⟨k1, f1, l1, m1⟩ := rl_ K1; unfold Halted)
 cases hgs : goodS l with
 | false =>
  have hce0 : ce = 2 := by rw [hcE.out, hgs]; rfl
  subst hce0
  have hgb := Lib.hid (show goodB l a r = false by unfold goodB; rw [hgs]; rfl)
  have hE := Lib.hid (hE0.out _ hgb.out)
  have hR0 := Lib.hid (hR.out _ hgb.out)
  clear hE0 hR hcE hce hc2 hgs C1
  (go_wp2_with (first | (with_reducible refine wsh (stBt _ K0.out (Bt.zero)) rfl rfl ?_)); generalize hWN : setRow _ _ _ _ = WN; replace K0 := Lib.hid (show Blk WN _ _ _ by rw [← hWN]; exact Blk.row K0.out.lt); replace K1 := Lib.hid (show Blk WN _ _ _ by rw [← hWN]; exact Blk.rowOver (by omega) K1.out); replace HB : Below w.heap.size w WN := (by rw [← hWN]; exact Below.row HB (by omega) HB.size); clear hWN k0 f0 l0 m0 k1 f1 l1 m1; obtain ⟨k0, f0, l0, m0⟩ := rl_ K0; obtain ⟨k1, f1, l1, m1⟩ := rl_ K1; unfold Halted)
  go_wp2_with fail
  exact bodyPost_ret (results_cell3 rfl rfl (ldBt _ K0.out)) rfl ⟨Bt.zero, by rw [hE.out, hR0.out]; rfl, ⟨BtIn.zero _, fun h => (by rw [hgb.out] at h; cases h), fun _ => rfl⟩, HB⟩
 | true =>
  have hce0 : ce = 0 := by rw [hcE.out, hgs]; rfl
  subst hce0
  have hgab := Lib.hid (show goodB l a r = (decide (a.length = 32) && decide (r.length = 32)) by unfold goodB; rw [hgs, Bool.true_and])
  by_cases h1 : a.length = 32
  rotate_left
  ·have e1 : ((a.length : Int) != 32) = true := by simp; omega
   have e2 : ((a.length : Int) == 32) = false := by simp; omega
   have hgb := Lib.hid (show goodB l a r = false by rw [hgab.out, decide_eq_false h1]; rfl)
   have hE := Lib.hid (hE0.out _ hgb.out)
   have hR0 := Lib.hid (hR.out _ hgb.out)
   clear hE0 hR hcE hce hc2 hgs C1 h1 hgab
   (go_wp2_with (first | (with_reducible refine wsh (stBt _ K0.out (Bt.zero)) rfl rfl ?_)); generalize hWN : setRow _ _ _ _ = WN; replace K0 := Lib.hid (show Blk WN _ _ _ by rw [← hWN]; exact Blk.row K0.out.lt); replace K1 := Lib.hid (show Blk WN _ _ _ by rw [← hWN]; exact Blk.rowOver (by omega) K1.out); replace HB : Below w.heap.size w WN := (by rw [← hWN]; exact Below.row HB (by omega) HB.size); clear hWN k0 f0 l0 m0 k1 f1 l1 m1; obtain ⟨k0, f0, l0, m0⟩ := rl_ K0; obtain ⟨k1, f1, l1, m1⟩ := rl_ K1; unfold Halted)
   go_wp2_with fail
   exact bodyPost_ret (results_cell3 rfl rfl (ldBt _ K0.out)) rfl ⟨Bt.zero, by rw [hE.out, hR0.out]; rfl, ⟨BtIn.zero _, fun h => (by rw [hgb.out] at h; cases h), fun _ => rfl⟩, HB⟩
  have e1 : ((a.length : Int) != 32) = false := by simp; omega
  have e2 : ((a.length : Int) == 32) = true := by simp; omega
  by_cases h2 : r.length = 32
  rotate_left
  ·have e3 : ((r.length : Int) != 32) = true := by simp; omega
   have e4 : ((r.length : Int) == 32) = false := by simp; omega
   have hgb := Lib.hid (show goodB l a r = false by rw [hgab.out, decide_eq_false h2, Bool.and_false])
   have hE := Lib.hid (hE0.out _ hgb.out)
   have hR0 := Lib.hid (hR.out _ hgb.out)
   clear hE0 hR hcE hce hc2 hgs C1 h1 h2 hgab
   (go_wp2_with (first | (with_reducible refine wsh (stBt _ K0.out (Bt.zero)) rfl rfl ?_)); generalize hWN : setRow _ _ _ _ = WN; replace K0 := Lib.hid (show Blk WN _ _ _ by rw [← hWN]; exact Blk.row K0.out.lt); replace K1 := Lib.hid (show Blk WN _ _ _ by rw [← hWN]; exact Blk.rowOver (by omega) K1.out); replace HB : Below w.heap.size w WN := (by rw [← hWN]; exact Below.row HB (by omega) HB.size); clear hWN k0 f0 l0 m0 k1 f1 l1 m1; obtain ⟨k0, f0, l0, m0⟩ := rl_ K0; obtain ⟨k1, f1, l1, m1⟩ := rl_ K1; unfold Halted)
   go_wp2_with fail
   exact bodyPost_ret (results_cell3 rfl rfl (ldBt _ K0.out)) rfl ⟨Bt.zero, by rw [hE.out, hR0.out]; rfl, ⟨BtIn.zero _, fun h => (by rw [hgb.out] at h; cases h), fun _ => rfl⟩, HB⟩
  have e3 : ((r.length : Int) != 32) = false := by simp; omega
  have e4 : ((r.length : Int) == 32) = true := by simp; omega
  have hgb := Lib.hid (show goodB l a r = true by rw [hgab.out, decide_eq_true h1, decide_eq_true h2]; rfl)
  have hE := Lib.hid (show bootE l a r = 0 from hE0.out _ hgb.out)
  have hR0 := Lib.hid (show bootR slot l a r = hdRoot (hdS slot a r (bootSt l)) from hR.out _ hgb.out)
  have hcr : cmRoot cm = cmRoot (cmS l) := cmRoot_same (hc2.out.1 hgs).1 (hc2.out.1 hgs).2
  have hRr := leavesB_right hgs
  have hc3 := Lib.hid (hc2.out.1 hgs)
  have hst := bootSt_len hgs
  have hlo : lightOk a r (bootSt l) = true := by rw [← goodB_eq hgs]; exact hgb.out
  have hle0 : lightE a r (bootSt l) = 0 := by unfold lightE; rw [hlo]; rfl
  have n2 := Lib.hid (fun W (h : CmIn W cm) => rcroot_calls cm W h)
  have hTx : ∀ W : World, Txts (W.alloc (.cells #[.string (bs zero32), .string (bs zero32), .string (bs zero32), .string (bs zero32), .string (bs (cmRoot (cmS l)))] 9)) (some ⟨W.heap.size, 0, none⟩) (leavesB l) := fun W => txts_new W (leavesB l)
  rw [← hcr] at hTx
  have n3 : ∀ A W, Txts W A (leavesB l) → Calls Tryz.prog 92 #[.slice A 5 5, .int .i64 3] W (Ret W (.tuple #[.string (bs (bootSt l)), .int .i64 0])) := fun A W hT => rroot_yes A 5 (leavesB l) 3 hRr W hT
  have n4 : ∀ A W, Txts W A (leavesB l) → Calls Tryz.prog 105 #[.slice A 5 5, .int .i64 3, .int .i64 4] W (fun e w' => ∃ v, e = .returned (.tuple #[v, .int .i64 0]) ∧ LRow W.heap.size w' v (branchP (leavesB l) 4 3) ∧ Below W.heap.size W w') := fun A W hT => rbranch_yes A 5 (leavesB l) 3 4 hRr (by decide) W hT
  have hbrl : (branchP (leavesB l) 4 3).length = 3 := branchP_len _ _ _
  have hbra : ∀ x ∈ branchP (leavesB l) 4 3, x.length ≤ 1048576 := fun x hx => by rw [branchP_all _ hRr.2.2.2.2 _ _ x hx]; decide
  have n5 := Lib.hid (fun W => rmlight_calls slot a r (bootSt l) hn W)
  obtain ⟨br, hbr⟩ : ∃ br, branchP (leavesB l) 4 3 = br := ⟨_, rfl⟩
  obtain ⟨st, hst2⟩ : ∃ st, bootSt l = st := ⟨_, rfl⟩
  rw [hst2] at n3 n5 hlo hle0 hst
  rw [hle0] at n5
  rw [hbr] at n4 hbrl hbra
  obtain ⟨rt, hrt⟩ : ∃ rt, cmRoot cm = rt := ⟨_, rfl⟩
  obtain ⟨re, hre⟩ : ∃ re, cmE cm = re := ⟨_, rfl⟩
  rw [hrt, hre] at n2
  rw [hrt] at hTx
  obtain ⟨L, hL⟩ : ∃ L, leavesB l = L := ⟨_, rfl⟩
  rw [hL] at n3 n4 hTx
  replace n3 := Lib.hid n3
  replace n4 := Lib.hid n4
  replace hTx := Lib.hid hTx
  replace hbrl := Lib.hid hbrl
  replace hbra := Lib.hid hbra
  replace hbr := Lib.hid hbr
  replace hst2 := Lib.hid hst2
  replace hlo := Lib.hid hlo
  clear hE0 hR hRr hcr hst hrt hre hc2 hce hcE hgs hn hL hle0 h1 h2 hgab
  go_upto_region 4 with fail
  obtain ⟨w2, rfl⟩ : ∃ w', w' = WN := ⟨_, rfl⟩
  go_wp2_with (first | (with_reducible refine wlr (ldCm _ K1.out) rfl ?_) | (with_reducible refine wlg (ldCm _ K1.out) (by with_unfolding_all rfl) rfl ?_))
  (refine (n2.out _ C1.out).mono ?_; rintro e w3 ⟨rfl, hN⟩; replace K0 := hn_ K0 hN; replace K1 := hn_ K1 hN; have NC1 := Lib.hid (C1.out.below hN); replace HB : Below w.heap.size w w3 := Below.on hN HB; clear hN k0 f0 l0 m0 k1 f1 l1 m1 C1; have C1 := NC1; clear NC1; obtain ⟨k0, f0, l0, m0⟩ := rl_ K0; obtain ⟨k1, f1, l1, m1⟩ := rl_ K1)
  go_wp2_with fail
  (refine (rmnought_calls _).mono ?_; rintro e w4 ⟨rfl, hN⟩; replace K0 := hn_ K0 hN; replace K1 := hn_ K1 hN; have NC1 := Lib.hid (C1.out.below hN); replace HB : Below w.heap.size w w4 := Below.on hN HB; clear hN k0 f0 l0 m0 k1 f1 l1 m1 C1; have C1 := NC1; clear NC1; obtain ⟨k0, f0, l0, m0⟩ := rl_ K0; obtain ⟨k1, f1, l1, m1⟩ := rl_ K1)
  go_upto_region 7 with fail
  obtain ⟨W6, hW6⟩ : ∃ W', w4.alloc (.cells #[.string (bs zero32), .string (bs zero32), .string (bs zero32), .string (bs zero32), .string (bs rt)] 9) = W' := ⟨_, rfl⟩
  obtain ⟨g6, hg6⟩ : ∃ g6, w4.heap.size = g6 := ⟨_, rfl⟩
  have N0 := Lib.hid (show Blk W6 _ _ _ by rw [← hW6]; exact K0.out.alloc _)
  have N1 := Lib.hid (show Blk W6 _ _ _ by rw [← hW6]; exact K1.out.alloc _)
  have NC1 := Lib.hid (show CmIn W6 cm by rw [← hW6]; exact C1.out.below ((Below.refl _ _).alloc (Nat.le_refl _) _))
  have TX := Lib.hid (show Txts W6 (some ⟨g6, 0, none⟩) L by rw [← hW6, ← hg6]; exact hTx.out w4)
  have HBn : Below w.heap.size w W6 := by rw [← hW6]; exact HB.alloc HB.size _
  have hz6 : g + 1 ≤ W6.heap.size := by rw [← hW6]; simp; omega
  rw [hW6, hg6]
  clear hW6 hg6 k0 f0 l0 m0 K0 k1 f1 l1 m1 K1 HB hTx n2 C1
  have K0 := N0; have K1 := N1; have HB := HBn; have C1 := NC1
  clear N0 N1 HBn NC1
  (obtain ⟨k0, f0, l0, m0⟩ := rl_ K0; obtain ⟨k1, f1, l1, m1⟩ := rl_ K1)
  go_wp2_with fail
  (refine (n3.out _ _ TX.out).mono ?_; rintro e w7 ⟨rfl, hN⟩; replace K0 := hn_ K0 hN; replace K1 := hn_ K1 hN; have NTX := Lib.hid (TX.out.below hN); have NC1 := Lib.hid (C1.out.below hN); replace HB : Below w.heap.size w w7 := Below.on hN HB; clear hN k0 f0 l0 m0 k1 f1 l1 m1 TX C1; have TX := NTX; clear NTX; have C1 := NC1; clear NC1; obtain ⟨k0, f0, l0, m0⟩ := rl_ K0; obtain ⟨k1, f1, l1, m1⟩ := rl_ K1)
  have hz7 : g + 1 ≤ w7.heap.size := by omega
  clear n3 hz6
  go_wp2_with fail
  (refine (n4.out _ _ TX.out).mono ?_; rintro e w8 ⟨v, rfl, hRv, hN⟩; replace K0 := hn_ K0 hN; replace K1 := hn_ K1 hN; have NC1 := Lib.hid (C1.out.below hN); replace HB : Below w.heap.size w w8 := Below.on hN HB; clear hN k0 f0 l0 m0 k1 f1 l1 m1 C1; have C1 := NC1; clear NC1; obtain ⟨k0, f0, l0, m0⟩ := rl_ K0; obtain ⟨k1, f1, l1, m1⟩ := rl_ K1)
  obtain ⟨A5, c5, rfl, _⟩ := hRv.txts
  have B1 := Lib.hid (row_in hRv (by rw [hbrl.out]; decide) hbra.out)
  have hbn := Lib.hid (row_newer (base' := g + 1) hRv hz7)
  have hz8 : g + 1 ≤ w8.heap.size := by omega
  clear hRv n4 TX hz7
  go_wp2_with fail
  (refine (n5.out _).mono ?_; rintro e w9 ⟨lt, rfl, hlt, hln, hN⟩; replace K0 := hn_ K0 hN; replace K1 := hn_ K1 hN; have NC1 := Lib.hid (C1.out.below hN); have NB1 := Lib.hid (B1.out.below hN); replace HB : Below w.heap.size w w9 := Below.on hN HB; clear hN k0 f0 l0 m0 k1 f1 l1 m1 C1 B1; have C1 := NC1; clear NC1; have B1 := NB1; clear NB1; obtain ⟨k0, f0, l0, m0⟩ := rl_ K0; obtain ⟨k1, f1, l1, m1⟩ := rl_ K1)
  replace hln := Lib.hid (RwNew.mono hln hz8)
  have L1 := Lib.hid hlt.1
  have hl3 := Lib.hid (hlt.2.1 hlo.out)
  clear hlt n5 hz8
  (go_wp2_with (first | (with_reducible refine wsh (stLt (Lt.zero) (Blk.new0 w9 29 (ltA (Lt.zero))) (lt)) rfl rfl ?_)); generalize hWN : setRow _ _ _ _ = WN; replace K0 := Lib.hid (show Blk WN _ _ _ by rw [← hWN]; exact Blk.rowOver (Nat.ne_of_lt K0.out.lt) (K0.out.alloc _)); replace K1 := Lib.hid (show Blk WN _ _ _ by rw [← hWN]; exact Blk.rowOver (Nat.ne_of_lt K1.out.lt) (K1.out.alloc _)); replace K2 := (show Blk WN (World.heap w9).size 29 (ltA (lt)) by rw [← hWN]; exact Blk.row (by simp)); have HBn : Below w.heap.size w WN := (by rw [← hWN]; exact Below.row (HB.alloc HB.size _) HB.size (by have := HB.size; simp; omega)); have HBx : Below (World.heap w9).size w9 WN := (by rw [← hWN]; exact Below.row ((Below.refl _ _).alloc (Nat.le_refl _) _) (Nat.le_refl _) (by simp)); have NC1 := Lib.hid (C1.out.below HBx); have NB1 := Lib.hid (B1.out.below HBx); have NL1 := Lib.hid (L1.out.below HBx); obtain ⟨g2, hgj⟩ : ∃ g, (World.heap w9).size = g := ⟨_, rfl⟩; have hg0_2 : _ < g2 := (by rw [← hgj]; exact l0); have hg1_2 : _ < g2 := (by rw [← hgj]; exact l1); have hgl2 : w.heap.size ≤ g2 := (by rw [← hgj]; exact HB.size); rw [hgj] at K2 ⊢; replace K2 := Lib.hid K2; clear hWN hgj HB HBx k0 f0 l0 m0 k1 f1 l1 m1 C1 B1 L1; have C1 := NC1; clear NC1; have B1 := NB1; clear NB1; have L1 := NL1; clear NL1; have HB := HBn; clear HBn; obtain ⟨k0, f0, l0, m0⟩ := rl_ K0; obtain ⟨k1, f1, l1, m1⟩ := rl_ K1; obtain ⟨k2, f2, l2, m2⟩ := rl_ K2; unfold Halted)
  obtain ⟨w10, rfl⟩ : ∃ w', w' = WN := ⟨_, rfl⟩
  have n6 := Lib.hid (fun W (h : LtIn W lt) => rhroot_calls lt.b W h.1)
  obtain ⟨hr, hhr⟩ : ∃ hr, hdRoot lt.b = hr := ⟨_, rfl⟩
  obtain ⟨he, hhe⟩ : ∃ he, hdE lt.b = he := ⟨_, rfl⟩
  rw [hhr, hhe] at n6
  replace hhr := Lib.hid hhr
  clear hhe
  go_wp2_with (with_reducible refine wlr (ldLt_b _ K2.out) rfl ?_)
  (refine (n6.out _ L1.out).mono ?_; rintro e w11 ⟨rfl, hN⟩; replace K0 := hn_ K0 hN; replace K1 := hn_ K1 hN; replace K2 := hn_ K2 hN; have NC1 := Lib.hid (C1.out.below hN); have NB1 := Lib.hid (B1.out.below hN); have NL1 := Lib.hid (L1.out.below hN); replace HB : Below w.heap.size w w11 := Below.on hN HB; clear hN k0 f0 l0 m0 k1 f1 l1 m1 k2 f2 l2 m2 C1 B1 L1; have C1 := NC1; clear NC1; have B1 := NB1; clear NB1; have L1 := NL1; clear NL1; obtain ⟨k0, f0, l0, m0⟩ := rl_ K0; obtain ⟨k1, f1, l1, m1⟩ := rl_ K1; obtain ⟨k2, f2, l2, m2⟩ := rl_ K2)
  clear n6
  go_upto_region 11 with fail
  have hwf : ∀ f, Fence.wide.fn f := fun _ => trivial
  refine (wpIn_wide (n := 9)).1 ?_
  refine wpIn_round_held (fun w' => Below w11.heap.size w11 w') (fun j => !decide (j ∈ [6, 7])) (by kernel_rfl) ?_
  have hS0 : (fun w' => Below w11.heap.size w11 w') w11.drew := (Below.refl _ _).drew
  have KA100 := Lib.hid (K0.out.drew)
  have KA101 := Lib.hid (K1.out.drew)
  have KA102 := Lib.hid (K2.out.drew)
  have HBt := HB.drew
  refine S_tg 0 (.string (bs hr)) rfl hS0 ?_
  refine S_tk 1 (ltV (lt)) rfl hS0 (fun w' hw => exec_load rfl (by kernel_rfl) (ldLt (lt) (K2.out.below hw))) ?_
  refine S_tk 2 (cmV (cm)) rfl hS0 (fun w' hw => exec_load rfl (by kernel_rfl) (ldCm (cm) (K1.out.below hw))) ?_
  simp only [Act.put, List.getElem_toArray, List.getElem_cons_succ, List.getElem_cons_zero, List.setIfInBounds_toArray, List.set_cons_succ, List.set_cons_zero]
  refine S_tg 3 (.slice A5 br.length c5) rfl hS0 ?_
  refine S_tk 4 (btV ⟨lt, cm, ⟨A5, c5, br⟩⟩) rfl hS0 (fun w' hw => by exact exec_build _ rfl (by with_unfolding_all rfl) (build_bt lt cm ⟨A5, c5, br⟩ _)) ?_
  refine S_tg 5 (.string (bs hr)) rfl hS0 ?_
  simp only [Act.put, List.getElem_toArray, List.getElem_cons_succ, List.getElem_cons_zero, List.setIfInBounds_toArray, List.set_cons_succ, List.set_cons_zero]
  refine S_store 6 (fun _ => trivial) (by kernel_rfl) (by kernel_rfl) rfl (by kernel_rfl) (setRow w11.drew (g) 45 (btA ⟨lt, cm, ⟨A5, c5, br⟩⟩)) (exec_store _ _ rfl (by kernel_rfl) (by kernel_rfl) (stBt _ KA100.out ⟨lt, cm, ⟨A5, c5, br⟩⟩)) (fun h => absurd h (by decide)) ?_
  replace KA101 := Lib.hid (Blk.rowOver (g' := g) (t' := 45) (cs' := btA ⟨lt, cm, ⟨A5, c5, br⟩⟩) (by first | assumption | omega) KA101.out)
  replace KA102 := Lib.hid (Blk.rowOver (g' := g) (t' := 45) (cs' := btA ⟨lt, cm, ⟨A5, c5, br⟩⟩) (by first | assumption | omega) KA102.out)
  replace KA100 := Lib.hid (Blk.row (t := 45) (cs := btA ⟨lt, cm, ⟨A5, c5, br⟩⟩) KA100.out.lt)
  replace HBt := Below.row HBt (g := g) (t := 45) (cs := btA ⟨lt, cm, ⟨A5, c5, br⟩⟩) (by omega) HBt.size
  refine S_go 7 (fun _ => trivial) (by kernel_rfl) (by kernel_rfl) rfl (by kernel_rfl) (.int .i64 0) (setRow w11.drew (g) 45 (btA ⟨lt, cm, ⟨A5, c5, br⟩⟩)) (by first | (go_simp; done) | (go_simp; rfl)) (fun h => absurd h (by decide)) ?_
  refine ⟨by kernel_rfl, rfl, ?_⟩
  have BI := (show BtIn ((setRow w11.drew (g) 45 (btA ⟨lt, cm, ⟨A5, c5, br⟩⟩))) ⟨lt, cm, ⟨A5, c5, br⟩⟩ from ⟨LtIn.put (W := w11.drew) (base := g + 1) L1.out hln.out (by omega), CmIn.put (W := w11.drew) (base := g + 1) C1.out hcn.out (by omega), RwIn.put (W := w11.drew) (base := g + 1) B1.out hbn.out (by omega)⟩)
  obtain ⟨WN, hWN⟩ : ∃ WN, (setRow w11.drew (g) 45 (btA ⟨lt, cm, ⟨A5, c5, br⟩⟩)) = WN := ⟨_, rfl⟩
  rw [hWN] at KA100 KA101 KA102 HBt BI ⊢
  replace BI := Lib.hid BI
  clear hWN hwf hS0 HB
  have HB := HBt
  clear HBt
  clear K0 k0 f0 l0 m0
  clear K1 k1 f1 l1 m1
  clear K2 k2 f2 l2 m2
  have K0 := KA100
  clear KA100
  have K1 := KA101
  clear KA101
  have K2 := KA102
  clear KA102
  (obtain ⟨k0, f0, l0, m0⟩ := rl_ K0; obtain ⟨k1, f1, l1, m1⟩ := rl_ K1; obtain ⟨k2, f2, l2, m2⟩ := rl_ K2)
  simp only [Act.put, List.getElem_toArray, List.getElem_cons_succ, List.getElem_cons_zero, List.setIfInBounds_toArray, List.set_cons_succ, List.set_cons_zero]
  go_wp2_with fail
  exact bodyPost_ret (results_cell3 rfl rfl (ldBt _ K0.out)) rfl ⟨⟨lt, cm, ⟨A5, c5, br⟩⟩, by rw [hE.out, hR0.out, hst2.out, ← hl3.out.1, hhr.out]; rfl, ⟨BI.out, fun _ => ⟨hc3.out.1, hc3.out.2, by rw [hst2.out]; exact hl3.out.1, hl3.out.2.1, hl3.out.2.2, hbr.out.symm⟩, fun h => (by rw [hgb.out] at h; cases h)⟩, HB⟩
end Go.Proofs.YtegaaccioppfjaaGreatDoor
end
