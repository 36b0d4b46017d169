/- What the later texts stand on (RHd1, RLg1, RLg3, RLg4): plain laws and walks, each by its own conditions. -/
import Derived.Test.YtegaaccioppfjaaGreatDoorFp16
import Derived.Test.YtegaaccioppfjaaGreatDoorFp12
import Derived.Test.YtegaaccioppfjaaGreatDoorFp18
set_option linter.unusedSimpArgs false
set_option linter.unusedVariables false
section
set_option linter.unusedSimpArgs false
set_option linter.unusedVariables false
namespace Go.Proofs.YtegaaccioppfjaaGreatDoor
open BigFrame Go.RowKit Go.Phx Go.Shelf
attribute [local go_sem] Oper.semAt_some

end Go.Proofs.YtegaaccioppfjaaGreatDoor
end
section
set_option linter.unusedSimpArgs false
set_option linter.unusedVariables false
namespace Go.Proofs.YtegaaccioppfjaaGreatDoor
open BigFrame Go.RowKit Go.Phx Go.Shelf
attribute [local go_sem] Oper.semAt_some

set_option maxRecDepth 100000 in
theorem rperiod_q (n : Nat) (hn : n < 18446744073709551616) (w : World) : Calls Tryz.prog 66 #[.int .u64 n] w (fun e w' => e = .returned (.int .u64 (period n : Nat)) ∧ w = w') := by
  have p := wrap_period n hn
  go_enter Tryz.func66, Tryz.ntmps66
  go_wp2_with fail
  go_ret
  exact ⟨rfl, rfl⟩
set_option maxRecDepth 100000 in
theorem rknown_calls (c : Cm) (w : World) : Calls Tryz.prog 84 #[cmV c] w (Ret w (.bool (knownP c))) := by
  go_enter Tryz.func84, Tryz.ntmps84
  go_wp2_with fail
  go_ret
  exact ⟨rfl, (by repeat (first | assumption | exact Below.refl _ _ | refine Below.setCell ?_ (by first | exact Nat.le_refl _ | (simp; done) | omega | (simp; omega)) _ | refine Below.alloc ?_ (by first | exact Nat.le_refl _ | (simp; done) | omega | (simp; omega)) _ | refine below_drewN ?_ _ | refine Below.drew ?_ | refine Below.on (by assumption) ?_ | refine Below.via (by assumption) (by first | exact Nat.le_refl _ | (simp; done) | omega | (simp; omega)) ?_))⟩
theorem lrowsame (A B : Option Addr) (c d : Nat) (L M : List Bytes) (hL : L.length ≤ 1048576) (hM : M.length ≤ 1048576) (w : World) (h1 : Txts w A L) (h2 : Txts w B M) :
    Calls Tryz.prog 86 #[.slice A L.length c, .slice B M.length d] w (Ret w (.bool (L == M))) := by
  rw [show (L == M) = decide (L = M) by rw [Bool.eq_iff_iff]; simp]
  exact same_calls A B c d L M (by omega) (by omega) w h1 h2
set_option maxRecDepth 100000 in
theorem rsameLt_calls (a b : Lt) (w : World) (ha : LtIn w a) (hb : LtIn w b) : Calls Tryz.prog 31 #[ltV a, ltV b] w (Ret w (.bool (sameLt a b))) := by
  have n1 := fun W (hB : Below w.heap.size w W) => lrowsame a.br.addr b.br.addr a.br.cap b.br.cap a.br.l b.br.l ha.2.2.2.2.1 hb.2.2.2.2.1 W (Txts.below ha.2.2.1 hB) (Txts.below hb.2.2.1 hB)
  have e1 := eqHd_run a.b b.b
  have e2 := eqEx_run a.x b.x
  unfold sameLt
  generalize eqHd a.b b.b = r1 at *
  generalize eqEx a.x b.x = r2 at *
  generalize (a.br.l == b.br.l) = r3 at *
  replace n1 := Lib.hid n1
  clear ha hb
  cases r1
  · go_enter Tryz.func31, Tryz.ntmps31
    go_wp2_with fail
    go_ret
    exact ⟨rfl, (by repeat (first | assumption | exact Below.refl _ _ | refine Below.setCell ?_ (by first | exact Nat.le_refl _ | (simp; done) | omega | (simp; omega)) _ | refine Below.alloc ?_ (by first | exact Nat.le_refl _ | (simp; done) | omega | (simp; omega)) _ | refine below_drewN ?_ _ | refine Below.drew ?_ | refine Below.on (by assumption) ?_ | refine Below.via (by assumption) (by first | exact Nat.le_refl _ | (simp; done) | omega | (simp; omega)) ?_))⟩
  · cases r2
    · go_enter Tryz.func31, Tryz.ntmps31
      go_wp2_with fail
      go_ret
      exact ⟨rfl, (by repeat (first | assumption | exact Below.refl _ _ | refine Below.setCell ?_ (by first | exact Nat.le_refl _ | (simp; done) | omega | (simp; omega)) _ | refine Below.alloc ?_ (by first | exact Nat.le_refl _ | (simp; done) | omega | (simp; omega)) _ | refine below_drewN ?_ _ | refine Below.drew ?_ | refine Below.on (by assumption) ?_ | refine Below.via (by assumption) (by first | exact Nat.le_refl _ | (simp; done) | omega | (simp; omega)) ?_))⟩
    · go_enter Tryz.func31, Tryz.ntmps31
      go_wp2_with fail
      refine (n1.out _ (by repeat (first | assumption | exact Below.refl _ _ | refine Below.setCell ?_ (by first | exact Nat.le_refl _ | (simp; done) | omega | (simp; omega)) _ | refine Below.alloc ?_ (by first | exact Nat.le_refl _ | (simp; done) | omega | (simp; omega)) _ | refine below_drewN ?_ _ | refine Below.drew ?_ | refine Below.on (by assumption) ?_ | refine Below.via (by assumption) (by first | exact Nat.le_refl _ | (simp; done) | omega | (simp; omega)) ?_))).mono ?_
      rintro e w1 ⟨rfl, h1⟩
      go_wp2_with fail
      go_ret
      exact ⟨rfl, Below.on h1 (by repeat (first | assumption | exact Below.refl _ _ | refine Below.setCell ?_ (by first | exact Nat.le_refl _ | (simp; done) | omega | (simp; omega)) _ | refine Below.alloc ?_ (by first | exact Nat.le_refl _ | (simp; done) | omega | (simp; omega)) _ | refine below_drewN ?_ _ | refine Below.drew ?_ | refine Below.on (by assumption) ?_ | refine Below.via (by assumption) (by first | exact Nat.le_refl _ | (simp; done) | omega | (simp; omega)) ?_))⟩
set_option maxRecDepth 100000 in
theorem rsameCm_calls (a b : Cm) (w : World) (ha : CmIn w a) (hb : CmIn w b) : Calls Tryz.prog 38 #[cmV a, cmV b] w (Ret w (.bool (sameCm a b))) := by
  have n1 := fun W (hB : Below w.heap.size w W) => lrowsame a.ks.addr b.ks.addr a.ks.cap b.ks.cap a.ks.l b.ks.l ha.1.2.2.1 hb.1.2.2.1 W (Txts.below ha.1.1 hB) (Txts.below hb.1.1 hB)
  unfold sameCm
  generalize (a.ks.l == b.ks.l) = r at *
  replace n1 := Lib.hid n1
  clear ha hb
  by_cases he : a.sum = b.sum
  · have e1 : (a.sum == b.sum) = true := by simpa using he
    rw [e1]
    go_enter Tryz.func38, Tryz.ntmps38
    go_wp2_with fail
    refine (n1.out _ (by repeat (first | assumption | exact Below.refl _ _ | refine Below.setCell ?_ (by first | exact Nat.le_refl _ | (simp; done) | omega | (simp; omega)) _ | refine Below.alloc ?_ (by first | exact Nat.le_refl _ | (simp; done) | omega | (simp; omega)) _ | refine below_drewN ?_ _ | refine Below.drew ?_ | refine Below.on (by assumption) ?_ | refine Below.via (by assumption) (by first | exact Nat.le_refl _ | (simp; done) | omega | (simp; omega)) ?_))).mono ?_
    rintro e w1 ⟨rfl, h1⟩
    go_wp2_with fail
    go_ret
    exact ⟨rfl, Below.on h1 (by repeat (first | assumption | exact Below.refl _ _ | refine Below.setCell ?_ (by first | exact Nat.le_refl _ | (simp; done) | omega | (simp; omega)) _ | refine Below.alloc ?_ (by first | exact Nat.le_refl _ | (simp; done) | omega | (simp; omega)) _ | refine below_drewN ?_ _ | refine Below.drew ?_ | refine Below.on (by assumption) ?_ | refine Below.via (by assumption) (by first | exact Nat.le_refl _ | (simp; done) | omega | (simp; omega)) ?_))⟩
  · have e1 : (a.sum == b.sum) = false := by simpa using he
    rw [e1]
    go_enter Tryz.func38, Tryz.ntmps38
    go_wp2_with fail
    go_ret
    exact ⟨rfl, (by repeat (first | assumption | exact Below.refl _ _ | refine Below.setCell ?_ (by first | exact Nat.le_refl _ | (simp; done) | omega | (simp; omega)) _ | refine Below.alloc ?_ (by first | exact Nat.le_refl _ | (simp; done) | omega | (simp; omega)) _ | refine below_drewN ?_ _ | refine Below.drew ?_ | refine Below.on (by assumption) ?_ | refine Below.via (by assumption) (by first | exact Nat.le_refl _ | (simp; done) | omega | (simp; omega)) ?_))⟩
theorem r3 (n : Nat) : IntKind.i64.wrap (3 * ((onesP n : Nat) : Int)) = 3 * ((onesP n : Nat) : Int) := mul3 n
end Go.Proofs.YtegaaccioppfjaaGreatDoor
end
section
set_option linter.unusedSimpArgs false
set_option linter.unusedVariables false
namespace Go.Proofs.YtegaaccioppfjaaGreatDoor
open BigFrame Go.RowKit Go.Phx Go.Shelf
attribute [local go_sem] Oper.semAt_some

set_option maxRecDepth 100000 in
set_option maxHeartbeats 4000000 in
theorem rlgtake_calls (s : Sr) (u : Up) (h1 : s.fin.b.slot < 18446744073709551616) (h2 : u.fin.b.slot < 18446744073709551616) (w : World) : Calls Tryz.prog 68 #[srV s, upV u] w (Ret w (srV (takeP s u))) := by
  have ht1 : ∀ r b : Bool, knownP s.next = r → decide (period s.fin.b.slot = period u.fin.b.slot) = b → r = false → takeP1 s u = if b then { s with next := u.next } else s := fun r b e1 e2 e3 => by
    unfold takeP1
    rw [e1, e3, ← e2]
    simp
  have ht2 : ∀ r b : Bool, knownP s.next = r → decide (period s.fin.b.slot + 1 = period u.fin.b.slot) = b → r = true → takeP1 s u = if b then { s with now := s.next, next := u.next, last := s.this, this := 0 } else s := fun r b e1 e2 e3 => by
    unfold takeP1
    rw [e1, e3, ← e2]
    simp
  have hpl : period s.fin.b.slot < 18446744073709551615 := by unfold period; omega
  have hfin := take1_fin s u
  have hnew := take1_new s u
  obtain ⟨t, ht⟩ : ∃ t, takeP1 s u = t := ⟨_, rfl⟩
  have hfinal : takeP s u = takeP2 t u := by unfold takeP; rw [ht]
  rw [ht] at ht1 ht2 hfin hnew
  replace hfinal := Lib.hid hfinal
  replace ht := Lib.hid ht
  replace hfin := Lib.hid hfin
  replace hnew := Lib.hid hnew
  go_enter Tryz.func68, Tryz.ntmps68
  go_wp2_with fail
  have HB : Below w.heap.size w (((w.alloc (.cells (srA s) 35)).alloc (.cells (upA u) 33)).alloc (.cells (srA Sr.zero) 35)) := (by repeat (first | assumption | exact Below.refl _ _ | refine Below.setCell ?_ (by first | exact Nat.le_refl _ | (simp; done) | omega | (simp; omega)) _ | refine Below.alloc ?_ (by first | exact Nat.le_refl _ | (simp; done) | omega | (simp; omega)) _ | refine below_drewN ?_ _ | refine Below.drew ?_ | refine Below.on (by assumption) ?_ | refine Below.via (by assumption) (by first | exact Nat.le_refl _ | (simp; done) | omega | (simp; omega)) ?_))
  have K0 := ((Blk.new0 w 35 (srA s)).alloc (.cells (upA u) 33)).alloc (.cells (srA Sr.zero) 35)
  have K1 := (Blk.new1 w (.cells (srA s) 35) 33 (upA u)).alloc (.cells (srA Sr.zero) 35)
  have K2 := Blk.new2 w (.cells (srA s) 35) (.cells (upA u) 33) 35 (srA Sr.zero)
  obtain ⟨W, hW⟩ : ∃ W, (((w.alloc (.cells (srA s) 35)).alloc (.cells (upA u) 33)).alloc (.cells (srA Sr.zero) 35)) = W := ⟨_, rfl⟩
  rw [hW] at HB K0 K1 K2 ⊢
  clear hW
  have hgl : w.heap.size ≤ w.heap.size := Nat.le_refl _
  obtain ⟨g, hg⟩ : ∃ g, w.heap.size = g := ⟨_, rfl⟩
  rw [hg] at K0 K1 K2 ⊢
  replace hgl : w.heap.size ≤ g := by omega
  replace K0 := Lib.hid K0
  replace K1 := Lib.hid K1
  replace K2 := Lib.hid K2
  clear hg
  have n1 := fun W => rperiod_q s.fin.b.slot h1 W
  have n2 := fun W => rperiod_q u.fin.b.slot h2 W
  (have k0 := Blk.cell K0.out; have f0 := Blk.free K0.out; have l0 := Blk.lt K0.out; have m0 := Nat.le_of_lt l0; have k1 := Blk.cell K1.out; have f1 := Blk.free K1.out; have l1 := Blk.lt K1.out; have m1 := Nat.le_of_lt l1; have k2 := Blk.cell K2.out; have f2 := Blk.free K2.out; have l2 := Blk.lt K2.out; have m2 := Nat.le_of_lt l2)
  generalize period s.fin.b.slot = p1 at *
  generalize period u.fin.b.slot = p2 at *
  replace n1 := Lib.hid n1
  replace n2 := Lib.hid n2
  replace ht1 := Lib.hid ht1
  replace ht2 := Lib.hid ht2
  go_wp2_with fail
  refine (n1.out _).mono ?_
  rintro e w' ⟨rfl, rfl⟩
  go_wp2_with fail
  refine (n2.out _).mono ?_
  rintro e w' ⟨rfl, rfl⟩
  have n3 := fun W => rknown_calls s.next W
  obtain ⟨r, hr⟩ : ∃ r, knownP s.next = r := ⟨_, rfl⟩
  have ht3 := Lib.hid (ht1.out r _ hr rfl)
  have ht4 := Lib.hid (ht2.out r _ hr rfl)
  rw [hr] at n3
  clear ht1 ht2 hr
  replace n3 := Lib.hid n3
  have hu := h2
  clear h1 h2
  go_upto_region 3 with fail
  go_wp2_with fail
  (refine (n3.out _).mono ?_; rintro e w2 ⟨rfl, hN⟩; have N0 := Lib.hid (K0.out.below hN); have N1 := Lib.hid (K1.out.below hN); have N2 := Lib.hid (K2.out.below hN); have HBn : Below w.heap.size w w2 := Below.on hN HB; clear hN HB K0 k0 f0 l0 m0 K1 k1 f1 l1 m1 K2 k2 f2 l2 m2; have K0 := N0; clear N0; have K1 := N1; clear N1; have K2 := N2; clear N2; have HB := HBn; clear HBn; (have k0 := Blk.cell K0.out; have f0 := Blk.free K0.out; have l0 := Blk.lt K0.out; have m0 := Nat.le_of_lt l0; have k1 := Blk.cell K1.out; have f1 := Blk.free K1.out; have l1 := Blk.lt K1.out; have m1 := Nat.le_of_lt l1; have k2 := Blk.cell K2.out; have f2 := Blk.free K2.out; have l2 := Blk.lt K2.out; have m2 := Nat.le_of_lt l2))
  go_upto_if 20 with fail
  go_cut [] (fun wx => TkW w g t u wx)
  case first =>
    cases r with
    | false =>
      have ht5 := ht3.out rfl
      clear ht3 ht4
      by_cases he : p1 = p2
      · subst he
        rw [decide_eq_true rfl, if_pos rfl] at ht5
        replace ht5 := Lib.hid ht5
        (go_wp2_with (first | (with_reducible refine wpList_store_halt (o := ⟨_, .store 31 _ _, _, _, _, none⟩) (stSr_next _ K0.out (u.next)) rfl _ _ rfl rfl rfl ?_)); generalize hWN : setRow _ _ _ _ = WN; have N0 := Lib.hid (show Blk WN _ _ _ by rw [← hWN]; exact Blk.row K0.out.lt); have N1 := Lib.hid (show Blk WN _ _ _ by rw [← hWN]; exact Blk.rowOver (by omega) K1.out); have N2 := Lib.hid (show Blk WN _ _ _ by rw [← hWN]; exact Blk.rowOver (by omega) K2.out); have HBn : Below w.heap.size w WN := (by rw [← hWN]; exact Below.row HB (by omega) HB.size); clear hWN HB K0 k0 f0 l0 m0 K1 k1 f1 l1 m1 K2 k2 f2 l2 m2; have K0 := N0; clear N0; have K1 := N1; clear N1; have K2 := N2; clear N2; have HB := HBn; clear HBn; (have k0 := Blk.cell K0.out; have f0 := Blk.free K0.out; have l0 := Blk.lt K0.out; have m0 := Nat.le_of_lt l0; have k1 := Blk.cell K1.out; have f1 := Blk.free K1.out; have l1 := Blk.lt K1.out; have m1 := Nat.le_of_lt l1; have k2 := Blk.cell K2.out; have f2 := Blk.free K2.out; have l2 := Blk.lt K2.out; have m2 := Nat.le_of_lt l2); unfold Halted)
        go_wp2_with fail
        go_meet
        case rel => exact TkW.mk ht5.out.symm K0.out K1.out K2.out HB
      · rw [decide_eq_false he, if_neg (by simp)] at ht5
        replace ht5 := Lib.hid ht5
        have he2 : ((p2 : Int) == (p1 : Int)) = false := by simp; omega
        clear he
        go_wp2_with fail
        go_meet
        case rel => exact TkW.mk ht5.out.symm K0.out K1.out K2.out HB
    | true =>
      have ht5 := ht4.out rfl
      clear ht3 ht4
      by_cases he : p1 + 1 = p2
      · subst he
        rw [decide_eq_true rfl, if_pos rfl] at ht5
        replace ht5 := Lib.hid ht5
        (go_wp2_with (first | (with_reducible refine wpList_store_halt (o := ⟨_, .store 31 _ _, _, _, _, none⟩) (stSr_now _ K0.out (s.next)) rfl _ _ rfl rfl rfl ?_)); generalize hWN : setRow _ _ _ _ = WN; have N0 := Lib.hid (show Blk WN _ _ _ by rw [← hWN]; exact Blk.row K0.out.lt); have N1 := Lib.hid (show Blk WN _ _ _ by rw [← hWN]; exact Blk.rowOver (by omega) K1.out); have N2 := Lib.hid (show Blk WN _ _ _ by rw [← hWN]; exact Blk.rowOver (by omega) K2.out); have HBn : Below w.heap.size w WN := (by rw [← hWN]; exact Below.row HB (by omega) HB.size); clear hWN HB K0 k0 f0 l0 m0 K1 k1 f1 l1 m1 K2 k2 f2 l2 m2; have K0 := N0; clear N0; have K1 := N1; clear N1; have K2 := N2; clear N2; have HB := HBn; clear HBn; (have k0 := Blk.cell K0.out; have f0 := Blk.free K0.out; have l0 := Blk.lt K0.out; have m0 := Nat.le_of_lt l0; have k1 := Blk.cell K1.out; have f1 := Blk.free K1.out; have l1 := Blk.lt K1.out; have m1 := Nat.le_of_lt l1; have k2 := Blk.cell K2.out; have f2 := Blk.free K2.out; have l2 := Blk.lt K2.out; have m2 := Nat.le_of_lt l2); unfold Halted)
        (go_wp2_with (first | (with_reducible refine wpList_store_halt (o := ⟨_, .store 31 _ _, _, _, _, none⟩) (stSr_next _ K0.out (u.next)) rfl _ _ rfl rfl rfl ?_)); generalize hWN : setRow _ _ _ _ = WN; have N0 := Lib.hid (show Blk WN _ _ _ by rw [← hWN]; exact Blk.row K0.out.lt); have N1 := Lib.hid (show Blk WN _ _ _ by rw [← hWN]; exact Blk.rowOver (by omega) K1.out); have N2 := Lib.hid (show Blk WN _ _ _ by rw [← hWN]; exact Blk.rowOver (by omega) K2.out); have HBn : Below w.heap.size w WN := (by rw [← hWN]; exact Below.row HB (by omega) HB.size); clear hWN HB K0 k0 f0 l0 m0 K1 k1 f1 l1 m1 K2 k2 f2 l2 m2; have K0 := N0; clear N0; have K1 := N1; clear N1; have K2 := N2; clear N2; have HB := HBn; clear HBn; (have k0 := Blk.cell K0.out; have f0 := Blk.free K0.out; have l0 := Blk.lt K0.out; have m0 := Nat.le_of_lt l0; have k1 := Blk.cell K1.out; have f1 := Blk.free K1.out; have l1 := Blk.lt K1.out; have m1 := Nat.le_of_lt l1; have k2 := Blk.cell K2.out; have f2 := Blk.free K2.out; have l2 := Blk.lt K2.out; have m2 := Nat.le_of_lt l2); unfold Halted)
        (go_wp2_with (first | (with_reducible refine wpList_store_halt (o := ⟨_, .store 3 _ _, _, _, _, none⟩) (stcSr_last _ K0.out (s.this)) rfl _ _ rfl rfl rfl ?_)); generalize hWN : setRow _ _ _ _ = WN; have N0 := Lib.hid (show Blk WN _ _ _ by rw [← hWN]; exact Blk.row K0.out.lt); have N1 := Lib.hid (show Blk WN _ _ _ by rw [← hWN]; exact Blk.rowOver (by omega) K1.out); have N2 := Lib.hid (show Blk WN _ _ _ by rw [← hWN]; exact Blk.rowOver (by omega) K2.out); have HBn : Below w.heap.size w WN := (by rw [← hWN]; exact Below.row HB (by omega) HB.size); clear hWN HB K0 k0 f0 l0 m0 K1 k1 f1 l1 m1 K2 k2 f2 l2 m2; have K0 := N0; clear N0; have K1 := N1; clear N1; have K2 := N2; clear N2; have HB := HBn; clear HBn; (have k0 := Blk.cell K0.out; have f0 := Blk.free K0.out; have l0 := Blk.lt K0.out; have m0 := Nat.le_of_lt l0; have k1 := Blk.cell K1.out; have f1 := Blk.free K1.out; have l1 := Blk.lt K1.out; have m1 := Nat.le_of_lt l1; have k2 := Blk.cell K2.out; have f2 := Blk.free K2.out; have l2 := Blk.lt K2.out; have m2 := Nat.le_of_lt l2); unfold Halted)
        (go_wp2_with (first | (with_reducible refine wpList_store_halt (o := ⟨_, .store 3 _ _, _, _, _, none⟩) (stcSr_this _ K0.out (0)) rfl _ _ rfl rfl rfl ?_)); generalize hWN : setRow _ _ _ _ = WN; have N0 := Lib.hid (show Blk WN _ _ _ by rw [← hWN]; exact Blk.row K0.out.lt); have N1 := Lib.hid (show Blk WN _ _ _ by rw [← hWN]; exact Blk.rowOver (by omega) K1.out); have N2 := Lib.hid (show Blk WN _ _ _ by rw [← hWN]; exact Blk.rowOver (by omega) K2.out); have HBn : Below w.heap.size w WN := (by rw [← hWN]; exact Below.row HB (by omega) HB.size); clear hWN HB K0 k0 f0 l0 m0 K1 k1 f1 l1 m1 K2 k2 f2 l2 m2; have K0 := N0; clear N0; have K1 := N1; clear N1; have K2 := N2; clear N2; have HB := HBn; clear HBn; (have k0 := Blk.cell K0.out; have f0 := Blk.free K0.out; have l0 := Blk.lt K0.out; have m0 := Nat.le_of_lt l0; have k1 := Blk.cell K1.out; have f1 := Blk.free K1.out; have l1 := Blk.lt K1.out; have m1 := Nat.le_of_lt l1; have k2 := Blk.cell K2.out; have f2 := Blk.free K2.out; have l2 := Blk.lt K2.out; have m2 := Nat.le_of_lt l2); unfold Halted)
        go_wp2_with fail
        go_meet
        case rel => exact TkW.mk ht5.out.symm K0.out K1.out K2.out HB
      · rw [decide_eq_false he, if_neg (by simp)] at ht5
        replace ht5 := Lib.hid ht5
        have he2 : ((p2 : Int) == (p1 : Int) + 1) = false := by simp; omega
        clear he
        go_wp2_with fail
        go_meet
        case rel => exact TkW.mk ht5.out.symm K0.out K1.out K2.out HB
  case rest =>
    obtain ⟨j0, j1, j2, HBn⟩ := hcut
    replace j0 := Lib.hid j0
    replace j1 := Lib.hid j1
    replace j2 := Lib.hid j2
    clear k0 f0 l0 m0 k1 f1 l1 m1 k2 f2 l2 m2 K0 K1 K2 HB n3 ht3 ht4
    have K0 := j0; have K1 := j1; have K2 := j2; have HB := HBn
    clear j0 j1 j2 HBn
    (have k0 := Blk.cell K0.out; have f0 := Blk.free K0.out; have l0 := Blk.lt K0.out; have m0 := Nat.le_of_lt l0; have k1 := Blk.cell K1.out; have f1 := Blk.free K1.out; have l1 := Blk.lt K1.out; have m1 := Nat.le_of_lt l1; have k2 := Blk.cell K2.out; have f2 := Blk.free K2.out; have l2 := Blk.lt K2.out; have m2 := Nat.le_of_lt l2)
    by_cases hf : t.fin.b.slot < u.fin.b.slot
    · have hf2 : (t.fin.b.slot : Int) < (u.fin.b.slot : Int) := by omega
      by_cases hn : t.new.b.slot < u.fin.b.slot
      · have e2 := Lib.hid (show takeP2 t u = { t with fin := u.fin, new := u.fin } by unfold takeP2; rw [if_pos hf, if_pos hn])
        have hn2 : (t.new.b.slot : Int) < (u.fin.b.slot : Int) := by omega
        clear hf hn
        (go_wp2_with (first | (with_reducible refine wpList_store_halt (o := ⟨_, .store 29 _ _, _, _, _, none⟩) (stSr_fin _ K0.out (u.fin)) rfl _ _ rfl rfl rfl ?_)); generalize hWN : setRow _ _ _ _ = WN; have N0 := Lib.hid (show Blk WN _ _ _ by rw [← hWN]; exact Blk.row K0.out.lt); have N1 := Lib.hid (show Blk WN _ _ _ by rw [← hWN]; exact Blk.rowOver (by omega) K1.out); have N2 := Lib.hid (show Blk WN _ _ _ by rw [← hWN]; exact Blk.rowOver (by omega) K2.out); have HBn : Below w.heap.size w WN := (by rw [← hWN]; exact Below.row HB (by omega) HB.size); clear hWN HB K0 k0 f0 l0 m0 K1 k1 f1 l1 m1 K2 k2 f2 l2 m2; have K0 := N0; clear N0; have K1 := N1; clear N1; have K2 := N2; clear N2; have HB := HBn; clear HBn; (have k0 := Blk.cell K0.out; have f0 := Blk.free K0.out; have l0 := Blk.lt K0.out; have m0 := Nat.le_of_lt l0; have k1 := Blk.cell K1.out; have f1 := Blk.free K1.out; have l1 := Blk.lt K1.out; have m1 := Nat.le_of_lt l1; have k2 := Blk.cell K2.out; have f2 := Blk.free K2.out; have l2 := Blk.lt K2.out; have m2 := Nat.le_of_lt l2); unfold Halted)
        (go_wp2_with (first | (with_reducible refine wpList_store_halt (o := ⟨_, .store 29 _ _, _, _, _, none⟩) (stSr_new _ K0.out (u.fin)) rfl _ _ rfl rfl rfl ?_)); generalize hWN : setRow _ _ _ _ = WN; have N0 := Lib.hid (show Blk WN _ _ _ by rw [← hWN]; exact Blk.row K0.out.lt); have N1 := Lib.hid (show Blk WN _ _ _ by rw [← hWN]; exact Blk.rowOver (by omega) K1.out); have N2 := Lib.hid (show Blk WN _ _ _ by rw [← hWN]; exact Blk.rowOver (by omega) K2.out); have HBn : Below w.heap.size w WN := (by rw [← hWN]; exact Below.row HB (by omega) HB.size); clear hWN HB K0 k0 f0 l0 m0 K1 k1 f1 l1 m1 K2 k2 f2 l2 m2; have K0 := N0; clear N0; have K1 := N1; clear N1; have K2 := N2; clear N2; have HB := HBn; clear HBn; (have k0 := Blk.cell K0.out; have f0 := Blk.free K0.out; have l0 := Blk.lt K0.out; have m0 := Nat.le_of_lt l0; have k1 := Blk.cell K1.out; have f1 := Blk.free K1.out; have l1 := Blk.lt K1.out; have m1 := Nat.le_of_lt l1; have k2 := Blk.cell K2.out; have f2 := Blk.free K2.out; have l2 := Blk.lt K2.out; have m2 := Nat.le_of_lt l2); unfold Halted)
        (go_wp2_with (first | (with_reducible refine wpList_load_run (o := ⟨_, .load 35 _, _, _, _, none⟩) (ldSr _ K0.out) rfl _ rfl rfl ?_) | (with_reducible refine wpList_load_run_g (o := ⟨_, .load 35 _, _, _, _, some _⟩) (ldSr _ K0.out) (by kernel_rfl) _ rfl rfl ?_) | (with_reducible refine wpList_store_halt (o := ⟨_, .store 35 _ _, _, _, _, none⟩) (stSr _ K2.out ({ t with fin := u.fin, new := u.fin })) rfl _ _ rfl rfl rfl ?_)); generalize hWN : setRow _ _ _ _ = WN; have N2 := Lib.hid (show Blk WN _ _ _ by rw [← hWN]; exact Blk.row K2.out.lt); have N0 := Lib.hid (show Blk WN _ _ _ by rw [← hWN]; exact Blk.rowOver (by omega) K0.out); have N1 := Lib.hid (show Blk WN _ _ _ by rw [← hWN]; exact Blk.rowOver (by omega) K1.out); have HBn : Below w.heap.size w WN := (by rw [← hWN]; exact Below.row HB (by omega) HB.size); clear hWN HB K2 k2 f2 l2 m2 K0 k0 f0 l0 m0 K1 k1 f1 l1 m1; have K2 := N2; clear N2; have K0 := N0; clear N0; have K1 := N1; clear N1; have HB := HBn; clear HBn; (have k2 := Blk.cell K2.out; have f2 := Blk.free K2.out; have l2 := Blk.lt K2.out; have m2 := Nat.le_of_lt l2; have k0 := Blk.cell K0.out; have f0 := Blk.free K0.out; have l0 := Blk.lt K0.out; have m0 := Nat.le_of_lt l0; have k1 := Blk.cell K1.out; have f1 := Blk.free K1.out; have l1 := Blk.lt K1.out; have m1 := Nat.le_of_lt l1); unfold Halted)
        go_wp2_with fail
        exact bodyPost_ret (results_cell rfl rfl (ldSr _ K2.out)) rfl ⟨by rw [hfinal.out, e2.out], HB⟩
      · have e2 := Lib.hid (show takeP2 t u = { t with fin := u.fin } by unfold takeP2; rw [if_pos hf, if_neg hn])
        have hn2 : ¬ (t.new.b.slot : Int) < (u.fin.b.slot : Int) := by omega
        clear hf hn
        (go_wp2_with (first | (with_reducible refine wpList_store_halt (o := ⟨_, .store 29 _ _, _, _, _, none⟩) (stSr_fin _ K0.out (u.fin)) rfl _ _ rfl rfl rfl ?_)); generalize hWN : setRow _ _ _ _ = WN; have N0 := Lib.hid (show Blk WN _ _ _ by rw [← hWN]; exact Blk.row K0.out.lt); have N1 := Lib.hid (show Blk WN _ _ _ by rw [← hWN]; exact Blk.rowOver (by omega) K1.out); have N2 := Lib.hid (show Blk WN _ _ _ by rw [← hWN]; exact Blk.rowOver (by omega) K2.out); have HBn : Below w.heap.size w WN := (by rw [← hWN]; exact Below.row HB (by omega) HB.size); clear hWN HB K0 k0 f0 l0 m0 K1 k1 f1 l1 m1 K2 k2 f2 l2 m2; have K0 := N0; clear N0; have K1 := N1; clear N1; have K2 := N2; clear N2; have HB := HBn; clear HBn; (have k0 := Blk.cell K0.out; have f0 := Blk.free K0.out; have l0 := Blk.lt K0.out; have m0 := Nat.le_of_lt l0; have k1 := Blk.cell K1.out; have f1 := Blk.free K1.out; have l1 := Blk.lt K1.out; have m1 := Nat.le_of_lt l1; have k2 := Blk.cell K2.out; have f2 := Blk.free K2.out; have l2 := Blk.lt K2.out; have m2 := Nat.le_of_lt l2); unfold Halted)
        (go_wp2_with (first | (with_reducible refine wpList_load_run (o := ⟨_, .load 35 _, _, _, _, none⟩) (ldSr _ K0.out) rfl _ rfl rfl ?_) | (with_reducible refine wpList_load_run_g (o := ⟨_, .load 35 _, _, _, _, some _⟩) (ldSr _ K0.out) (by kernel_rfl) _ rfl rfl ?_) | (with_reducible refine wpList_store_halt (o := ⟨_, .store 35 _ _, _, _, _, none⟩) (stSr _ K2.out ({ t with fin := u.fin })) rfl _ _ rfl rfl rfl ?_)); generalize hWN : setRow _ _ _ _ = WN; have N2 := Lib.hid (show Blk WN _ _ _ by rw [← hWN]; exact Blk.row K2.out.lt); have N0 := Lib.hid (show Blk WN _ _ _ by rw [← hWN]; exact Blk.rowOver (by omega) K0.out); have N1 := Lib.hid (show Blk WN _ _ _ by rw [← hWN]; exact Blk.rowOver (by omega) K1.out); have HBn : Below w.heap.size w WN := (by rw [← hWN]; exact Below.row HB (by omega) HB.size); clear hWN HB K2 k2 f2 l2 m2 K0 k0 f0 l0 m0 K1 k1 f1 l1 m1; have K2 := N2; clear N2; have K0 := N0; clear N0; have K1 := N1; clear N1; have HB := HBn; clear HBn; (have k2 := Blk.cell K2.out; have f2 := Blk.free K2.out; have l2 := Blk.lt K2.out; have m2 := Nat.le_of_lt l2; have k0 := Blk.cell K0.out; have f0 := Blk.free K0.out; have l0 := Blk.lt K0.out; have m0 := Nat.le_of_lt l0; have k1 := Blk.cell K1.out; have f1 := Blk.free K1.out; have l1 := Blk.lt K1.out; have m1 := Nat.le_of_lt l1); unfold Halted)
        go_wp2_with fail
        exact bodyPost_ret (results_cell rfl rfl (ldSr _ K2.out)) rfl ⟨by rw [hfinal.out, e2.out], HB⟩
    · have hf2 : ¬ (t.fin.b.slot : Int) < (u.fin.b.slot : Int) := by omega
      have e2 := Lib.hid (show takeP2 t u = t by unfold takeP2; rw [if_neg hf])
      clear hf
      (go_wp2_with (first | (with_reducible refine wpList_load_run (o := ⟨_, .load 35 _, _, _, _, none⟩) (ldSr _ K0.out) rfl _ rfl rfl ?_) | (with_reducible refine wpList_load_run_g (o := ⟨_, .load 35 _, _, _, _, some _⟩) (ldSr _ K0.out) (by kernel_rfl) _ rfl rfl ?_) | (with_reducible refine wpList_store_halt (o := ⟨_, .store 35 _ _, _, _, _, none⟩) (stSr _ K2.out (t)) rfl _ _ rfl rfl rfl ?_)); generalize hWN : setRow _ _ _ _ = WN; have N2 := Lib.hid (show Blk WN _ _ _ by rw [← hWN]; exact Blk.row K2.out.lt); have N0 := Lib.hid (show Blk WN _ _ _ by rw [← hWN]; exact Blk.rowOver (by omega) K0.out); have N1 := Lib.hid (show Blk WN _ _ _ by rw [← hWN]; exact Blk.rowOver (by omega) K1.out); have HBn : Below w.heap.size w WN := (by rw [← hWN]; exact Below.row HB (by omega) HB.size); clear hWN HB K2 k2 f2 l2 m2 K0 k0 f0 l0 m0 K1 k1 f1 l1 m1; have K2 := N2; clear N2; have K0 := N0; clear N0; have K1 := N1; clear N1; have HB := HBn; clear HBn; (have k2 := Blk.cell K2.out; have f2 := Blk.free K2.out; have l2 := Blk.lt K2.out; have m2 := Nat.le_of_lt l2; have k0 := Blk.cell K0.out; have f0 := Blk.free K0.out; have l0 := Blk.lt K0.out; have m0 := Nat.le_of_lt l0; have k1 := Blk.cell K1.out; have f1 := Blk.free K1.out; have l1 := Blk.lt K1.out; have m1 := Nat.le_of_lt l1); unfold Halted)
      go_wp2_with fail
      exact bodyPost_ret (results_cell rfl rfl (ldSr _ K2.out)) rfl ⟨by rw [hfinal.out, e2.out], HB⟩
set_option maxRecDepth 100000 in
set_option maxHeartbeats 1000000 in
theorem rforce_no (s : Sr) (now : Nat) (h : noForce s now = true) (hs : s.fin.b.slot < 18446744073709551616) (hn : now < 18446744073709551616) (w : World) : Calls Tryz.prog 23 #[srV s, .int .u64 now] w (Ret w (.tuple #[srV s, .int .i64 148])) := by
  unfold noForce at h
  cases hh : s.has with
  | false =>
    clear h
    go_enter Tryz.func23, Tryz.ntmps23
    go_upto_region 1 with fail
    have HB : Below w.heap.size w ((w.alloc (.cells (srA s) 35)).alloc (.cells (srA Sr.zero) 35)) := (by repeat (first | assumption | exact Below.refl _ _ | refine Below.setCell ?_ (by first | exact Nat.le_refl _ | (simp; done) | omega | (simp; omega)) _ | refine Below.alloc ?_ (by first | exact Nat.le_refl _ | (simp; done) | omega | (simp; omega)) _ | refine below_drewN ?_ _ | refine Below.drew ?_ | refine Below.on (by assumption) ?_ | refine Below.via (by assumption) (by first | exact Nat.le_refl _ | (simp; done) | omega | (simp; omega)) ?_))
    have K0 := (Blk.new0 w 35 (srA s)).alloc (.cells (srA Sr.zero) 35)
    have K1 := Blk.new1 w (.cells (srA s) 35) 35 (srA Sr.zero)
    obtain ⟨W, hW⟩ : ∃ W, ((w.alloc (.cells (srA s) 35)).alloc (.cells (srA Sr.zero) 35)) = W := ⟨_, rfl⟩
    rw [hW] at HB K0 K1 ⊢
    clear hW
    have hgl : w.heap.size ≤ w.heap.size := Nat.le_refl _
    obtain ⟨g, hg⟩ : ∃ g, w.heap.size = g := ⟨_, rfl⟩
    rw [hg] at K0 K1 ⊢
    replace hgl : w.heap.size ≤ g := by omega
    replace K0 := Lib.hid K0
    replace K1 := Lib.hid K1
    clear hg
    (have k0 := Blk.cell K0.out; have f0 := Blk.free K0.out; have l0 := Blk.lt K0.out; have m0 := Nat.le_of_lt l0; have k1 := Blk.cell K1.out; have f1 := Blk.free K1.out; have l1 := Blk.lt K1.out; have m1 := Nat.le_of_lt l1)
    go_upto_region 2 with fail
    (go_wp2_with (first | (with_reducible refine wpList_load_run (o := ⟨_, .load 35 _, _, _, _, none⟩) (ldSr _ K0.out) rfl _ rfl rfl ?_) | (with_reducible refine wpList_load_run_g (o := ⟨_, .load 35 _, _, _, _, some _⟩) (ldSr _ K0.out) (by kernel_rfl) _ rfl rfl ?_) | (with_reducible refine wpList_store_halt (o := ⟨_, .store 35 _ _, _, _, _, none⟩) (stSr _ K1.out (s)) rfl _ _ rfl rfl rfl ?_)); generalize hWN : setRow _ _ _ _ = WN; have N1 := Lib.hid (show Blk WN _ _ _ by rw [← hWN]; exact Blk.row K1.out.lt); have N0 := Lib.hid (show Blk WN _ _ _ by rw [← hWN]; exact Blk.rowOver (by omega) K0.out); have HBn : Below w.heap.size w WN := (by rw [← hWN]; exact Below.row HB (by omega) HB.size); clear hWN HB K1 k1 f1 l1 m1 K0 k0 f0 l0 m0; have K1 := N1; clear N1; have K0 := N0; clear N0; have HB := HBn; clear HBn; (have k1 := Blk.cell K1.out; have f1 := Blk.free K1.out; have l1 := Blk.lt K1.out; have m1 := Nat.le_of_lt l1; have k0 := Blk.cell K0.out; have f0 := Blk.free K0.out; have l0 := Blk.lt K0.out; have m0 := Nat.le_of_lt l0); unfold Halted)
    go_wp2_with fail
    exact bodyPost_ret (results_cell2 rfl rfl (ldSr _ K1.out)) rfl ⟨rfl, HB⟩
  | true =>
    rw [hh] at h
    replace h : now < s.fin.b.slot + 65 := by simpa using h
    by_cases h1 : now < s.fin.b.slot
    · have h1i : (now : Int) < (s.fin.b.slot : Int) := by omega
      clear h h1
      go_enter Tryz.func23, Tryz.ntmps23
      go_upto_region 1 with fail
      have HB : Below w.heap.size w ((w.alloc (.cells (srA s) 35)).alloc (.cells (srA Sr.zero) 35)) := (by repeat (first | assumption | exact Below.refl _ _ | refine Below.setCell ?_ (by first | exact Nat.le_refl _ | (simp; done) | omega | (simp; omega)) _ | refine Below.alloc ?_ (by first | exact Nat.le_refl _ | (simp; done) | omega | (simp; omega)) _ | refine below_drewN ?_ _ | refine Below.drew ?_ | refine Below.on (by assumption) ?_ | refine Below.via (by assumption) (by first | exact Nat.le_refl _ | (simp; done) | omega | (simp; omega)) ?_))
      have K0 := (Blk.new0 w 35 (srA s)).alloc (.cells (srA Sr.zero) 35)
      have K1 := Blk.new1 w (.cells (srA s) 35) 35 (srA Sr.zero)
      obtain ⟨W, hW⟩ : ∃ W, ((w.alloc (.cells (srA s) 35)).alloc (.cells (srA Sr.zero) 35)) = W := ⟨_, rfl⟩
      rw [hW] at HB K0 K1 ⊢
      clear hW
      have hgl : w.heap.size ≤ w.heap.size := Nat.le_refl _
      obtain ⟨g, hg⟩ : ∃ g, w.heap.size = g := ⟨_, rfl⟩
      rw [hg] at K0 K1 ⊢
      replace hgl : w.heap.size ≤ g := by omega
      replace K0 := Lib.hid K0
      replace K1 := Lib.hid K1
      clear hg
      (have k0 := Blk.cell K0.out; have f0 := Blk.free K0.out; have l0 := Blk.lt K0.out; have m0 := Nat.le_of_lt l0; have k1 := Blk.cell K1.out; have f1 := Blk.free K1.out; have l1 := Blk.lt K1.out; have m1 := Nat.le_of_lt l1)
      go_upto_region 2 with fail
      (go_wp2_with (first | (with_reducible refine wpList_load_run (o := ⟨_, .load 35 _, _, _, _, none⟩) (ldSr _ K0.out) rfl _ rfl rfl ?_) | (with_reducible refine wpList_load_run_g (o := ⟨_, .load 35 _, _, _, _, some _⟩) (ldSr _ K0.out) (by kernel_rfl) _ rfl rfl ?_) | (with_reducible refine wpList_store_halt (o := ⟨_, .store 35 _ _, _, _, _, none⟩) (stSr _ K1.out (s)) rfl _ _ rfl rfl rfl ?_)); generalize hWN : setRow _ _ _ _ = WN; have N1 := Lib.hid (show Blk WN _ _ _ by rw [← hWN]; exact Blk.row K1.out.lt); have N0 := Lib.hid (show Blk WN _ _ _ by rw [← hWN]; exact Blk.rowOver (by omega) K0.out); have HBn : Below w.heap.size w WN := (by rw [← hWN]; exact Below.row HB (by omega) HB.size); clear hWN HB K1 k1 f1 l1 m1 K0 k0 f0 l0 m0; have K1 := N1; clear N1; have K0 := N0; clear N0; have HB := HBn; clear HBn; (have k1 := Blk.cell K1.out; have f1 := Blk.free K1.out; have l1 := Blk.lt K1.out; have m1 := Nat.le_of_lt l1; have k0 := Blk.cell K0.out; have f0 := Blk.free K0.out; have l0 := Blk.lt K0.out; have m0 := Nat.le_of_lt l0); unfold Halted)
      go_wp2_with fail
      exact bodyPost_ret (results_cell2 rfl rfl (ldSr _ K1.out)) rfl ⟨rfl, HB⟩
    · have h1i : ¬ (now : Int) < (s.fin.b.slot : Int) := by omega
      have h2 : IntKind.u64.wrap ((now : Int) - (s.fin.b.slot : Int)) = ((now - s.fin.b.slot : Nat) : Int) := by
        rw [show ((now : Int) - (s.fin.b.slot : Int)) = ((now - s.fin.b.slot : Nat) : Int) by omega]
        exact IntWalk.u64_in _ (by omega)
      have h3 : ((now - s.fin.b.slot : Nat) : Int) ≤ 64 := by omega
      clear h h1
      go_enter Tryz.func23, Tryz.ntmps23
      go_upto_region 1 with fail
      have HB : Below w.heap.size w ((w.alloc (.cells (srA s) 35)).alloc (.cells (srA Sr.zero) 35)) := (by repeat (first | assumption | exact Below.refl _ _ | refine Below.setCell ?_ (by first | exact Nat.le_refl _ | (simp; done) | omega | (simp; omega)) _ | refine Below.alloc ?_ (by first | exact Nat.le_refl _ | (simp; done) | omega | (simp; omega)) _ | refine below_drewN ?_ _ | refine Below.drew ?_ | refine Below.on (by assumption) ?_ | refine Below.via (by assumption) (by first | exact Nat.le_refl _ | (simp; done) | omega | (simp; omega)) ?_))
      have K0 := (Blk.new0 w 35 (srA s)).alloc (.cells (srA Sr.zero) 35)
      have K1 := Blk.new1 w (.cells (srA s) 35) 35 (srA Sr.zero)
      obtain ⟨W, hW⟩ : ∃ W, ((w.alloc (.cells (srA s) 35)).alloc (.cells (srA Sr.zero) 35)) = W := ⟨_, rfl⟩
      rw [hW] at HB K0 K1 ⊢
      clear hW
      have hgl : w.heap.size ≤ w.heap.size := Nat.le_refl _
      obtain ⟨g, hg⟩ : ∃ g, w.heap.size = g := ⟨_, rfl⟩
      rw [hg] at K0 K1 ⊢
      replace hgl : w.heap.size ≤ g := by omega
      replace K0 := Lib.hid K0
      replace K1 := Lib.hid K1
      clear hg
      (have k0 := Blk.cell K0.out; have f0 := Blk.free K0.out; have l0 := Blk.lt K0.out; have m0 := Nat.le_of_lt l0; have k1 := Blk.cell K1.out; have f1 := Blk.free K1.out; have l1 := Blk.lt K1.out; have m1 := Nat.le_of_lt l1)
      go_upto_region 2 with fail
      (go_wp2_with (first | (with_reducible refine wpList_load_run (o := ⟨_, .load 35 _, _, _, _, none⟩) (ldSr _ K0.out) rfl _ rfl rfl ?_) | (with_reducible refine wpList_load_run_g (o := ⟨_, .load 35 _, _, _, _, some _⟩) (ldSr _ K0.out) (by kernel_rfl) _ rfl rfl ?_) | (with_reducible refine wpList_store_halt (o := ⟨_, .store 35 _ _, _, _, _, none⟩) (stSr _ K1.out (s)) rfl _ _ rfl rfl rfl ?_)); generalize hWN : setRow _ _ _ _ = WN; have N1 := Lib.hid (show Blk WN _ _ _ by rw [← hWN]; exact Blk.row K1.out.lt); have N0 := Lib.hid (show Blk WN _ _ _ by rw [← hWN]; exact Blk.rowOver (by omega) K0.out); have HBn : Below w.heap.size w WN := (by rw [← hWN]; exact Below.row HB (by omega) HB.size); clear hWN HB K1 k1 f1 l1 m1 K0 k0 f0 l0 m0; have K1 := N1; clear N1; have K0 := N0; clear N0; have HB := HBn; clear HBn; (have k1 := Blk.cell K1.out; have f1 := Blk.free K1.out; have l1 := Blk.lt K1.out; have m1 := Nat.le_of_lt l1; have k0 := Blk.cell K0.out; have f0 := Blk.free K0.out; have l0 := Blk.lt K0.out; have m0 := Nat.le_of_lt l0); unfold Halted)
      go_wp2_with fail
      exact bodyPost_ret (results_cell2 rfl rfl (ldSr _ K1.out)) rfl ⟨rfl, HB⟩
set_option maxRecDepth 100000 in
set_option maxHeartbeats 1000000 in
theorem rforce_yes (s : Sr) (now : Nat) (h : noForce s now = false) (hs : s.fin.b.slot < 18446744073709551616) (hs2 : s.best.seen.b.slot < 18446744073709551616) (hs3 : s.best.fin.b.slot < 18446744073709551616) (hn : now < 18446744073709551616) (w : World) : Calls Tryz.prog 23 #[srV s, .int .u64 now] w (Ret w (.tuple #[srV (forceP s), .int .i64 0])) := by
  unfold noForce at h
  rw [Bool.or_eq_false_iff] at h
  have hh : s.has = true := by have := h.1; simpa using this
  have h0 : s.fin.b.slot + 65 ≤ now := by have := h.2; simpa using this
  have h1i : ¬ (now : Int) < (s.fin.b.slot : Int) := by omega
  have h2 : IntKind.u64.wrap ((now : Int) - (s.fin.b.slot : Int)) = ((now - s.fin.b.slot : Nat) : Int) := by
    rw [show ((now : Int) - (s.fin.b.slot : Int)) = ((now - s.fin.b.slot : Nat) : Int) by omega]
    exact IntWalk.u64_in _ (by omega)
  have h3 : ¬ ((now - s.fin.b.slot : Nat) : Int) ≤ 64 := by omega
  have hfu : (forcedU s).fin.b.slot < 18446744073709551616 := by unfold forcedU; split <;> assumption
  have nt := fun W => rlgtake_calls s (forcedU s) hs hfu W
  obtain ⟨t, ht⟩ : ∃ t, takeP s (forcedU s) = t := ⟨_, rfl⟩
  rw [ht] at nt
  have hp : forceP s = { clearP t with forced := true } := by unfold forceP; rw [ht]
  replace ht := Lib.hid hp
  replace nt := Lib.hid nt
  clear hp h h0 hfu hs2
  go_enter Tryz.func23, Tryz.ntmps23
  go_upto_region 1 with fail
  have HB : Below w.heap.size w ((w.alloc (.cells (srA s) 35)).alloc (.cells (srA Sr.zero) 35)) := (by repeat (first | assumption | exact Below.refl _ _ | refine Below.setCell ?_ (by first | exact Nat.le_refl _ | (simp; done) | omega | (simp; omega)) _ | refine Below.alloc ?_ (by first | exact Nat.le_refl _ | (simp; done) | omega | (simp; omega)) _ | refine below_drewN ?_ _ | refine Below.drew ?_ | refine Below.on (by assumption) ?_ | refine Below.via (by assumption) (by first | exact Nat.le_refl _ | (simp; done) | omega | (simp; omega)) ?_))
  have K0 := (Blk.new0 w 35 (srA s)).alloc (.cells (srA Sr.zero) 35)
  have K1 := Blk.new1 w (.cells (srA s) 35) 35 (srA Sr.zero)
  obtain ⟨W, hW⟩ : ∃ W, ((w.alloc (.cells (srA s) 35)).alloc (.cells (srA Sr.zero) 35)) = W := ⟨_, rfl⟩
  rw [hW] at HB K0 K1 ⊢
  clear hW
  have hgl : w.heap.size ≤ w.heap.size := Nat.le_refl _
  obtain ⟨g, hg⟩ : ∃ g, w.heap.size = g := ⟨_, rfl⟩
  rw [hg] at K0 K1 ⊢
  replace hgl : w.heap.size ≤ g := by omega
  replace K0 := Lib.hid K0
  replace K1 := Lib.hid K1
  clear hg
  (have k0 := Blk.cell K0.out; have f0 := Blk.free K0.out; have l0 := Blk.lt K0.out; have m0 := Nat.le_of_lt l0; have k1 := Blk.cell K1.out; have f1 := Blk.free K1.out; have l1 := Blk.lt K1.out; have m1 := Nat.le_of_lt l1)
  go_upto_region 3 with fail
  go_wp2_with (first | (with_reducible refine wpList_load_run (o := ⟨_, .load 33 _, _, _, _, none⟩) (ldSr_best _ K0.out) rfl _ rfl rfl ?_) | (with_reducible refine wpList_store_halt (o := ⟨_, .store 33 _ _, _, _, _, none⟩) (stUp Up.zero (Blk.new0 W 33 (upA Up.zero)) s.best) rfl _ _ rfl rfl rfl ?_))
  generalize hWN : setRow _ _ _ _ = WN
  have N0 := Lib.hid (show Blk WN g 35 (srA s) by rw [← hWN]; exact Blk.rowOver (by omega) (K0.out.alloc _))
  have N1 := Lib.hid (show Blk WN (g + 1) 35 (srA Sr.zero) by rw [← hWN]; exact Blk.rowOver (by omega) (K1.out.alloc _))
  have N2 := Lib.hid (show Blk WN W.heap.size 33 (upA s.best) by rw [← hWN]; exact Blk.row (by simp))
  have HBn : Below w.heap.size w WN := by rw [← hWN]; exact Below.row (HB.alloc HB.size _) HB.size (by have := HB.size; simp; omega)
  obtain ⟨g2, hg2⟩ : ∃ g2, W.heap.size = g2 := ⟨_, rfl⟩
  have hgg : g + 1 < g2 := by rw [← hg2]; exact l1
  have hgl2 : w.heap.size ≤ g2 := by rw [← hg2]; exact HB.size
  rw [hg2] at N2 ⊢
  clear hWN hg2 k0 f0 l0 m0 k1 f1 l1 m1 K0 K1 HB
  have K0 := N0; have K1 := N1; have K2 := N2; have HB := HBn
  clear N0 N1 N2 HBn
  (have k0 := Blk.cell K0.out; have f0 := Blk.free K0.out; have l0 := Blk.lt K0.out; have m0 := Nat.le_of_lt l0; have k1 := Blk.cell K1.out; have f1 := Blk.free K1.out; have l1 := Blk.lt K1.out; have m1 := Nat.le_of_lt l1; have k2 := Blk.cell K2.out; have f2 := Blk.free K2.out; have l2 := Blk.lt K2.out; have m2 := Nat.le_of_lt l2)
  unfold Halted
  by_cases hle : s.best.fin.b.slot ≤ s.fin.b.slot
  · have hlei : (s.best.fin.b.slot : Int) ≤ (s.fin.b.slot : Int) := by omega
    have hfe : forcedU s = { s.best with fin := s.best.seen } := by unfold forcedU; rw [if_pos hle]
    rw [hfe] at nt
    clear hfe hle
    (go_wp2_with (first | (with_reducible refine wpList_store_halt (o := ⟨_, .store 29 _ _, _, _, _, none⟩) (stUp_fin _ K2.out (s.best.seen)) rfl _ _ rfl rfl rfl ?_)); generalize hWN : setRow _ _ _ _ = WN; have N2 := Lib.hid (show Blk WN _ _ _ by rw [← hWN]; exact Blk.row K2.out.lt); have N0 := Lib.hid (show Blk WN _ _ _ by rw [← hWN]; exact Blk.rowOver (by omega) K0.out); have N1 := Lib.hid (show Blk WN _ _ _ by rw [← hWN]; exact Blk.rowOver (by omega) K1.out); have HBn : Below w.heap.size w WN := (by rw [← hWN]; exact Below.row HB (by omega) HB.size); clear hWN HB K2 k2 f2 l2 m2 K0 k0 f0 l0 m0 K1 k1 f1 l1 m1; have K2 := N2; clear N2; have K0 := N0; clear N0; have K1 := N1; clear N1; have HB := HBn; clear HBn; (have k2 := Blk.cell K2.out; have f2 := Blk.free K2.out; have l2 := Blk.lt K2.out; have m2 := Nat.le_of_lt l2; have k0 := Blk.cell K0.out; have f0 := Blk.free K0.out; have l0 := Blk.lt K0.out; have m0 := Nat.le_of_lt l0; have k1 := Blk.cell K1.out; have f1 := Blk.free K1.out; have l1 := Blk.lt K1.out; have m1 := Nat.le_of_lt l1); unfold Halted)
    go_wp2_with (first | (with_reducible refine wpList_load_run (o := ⟨_, .load 35 _, _, _, _, none⟩) (ldSr _ K0.out) rfl _ rfl rfl ?_) | (with_reducible refine wpList_load_run (o := ⟨_, .load 33 _, _, _, _, none⟩) (ldUp _ K2.out) rfl _ rfl rfl ?_))
    (refine (nt.out _).mono ?_; rintro e w2 ⟨rfl, hN⟩; have N0 := Lib.hid (K0.out.below hN); have N1 := Lib.hid (K1.out.below hN); have N2 := Lib.hid (K2.out.below hN); have HBn : Below w.heap.size w w2 := Below.on hN HB; clear hN HB K0 k0 f0 l0 m0 K1 k1 f1 l1 m1 K2 k2 f2 l2 m2; have K0 := N0; clear N0; have K1 := N1; clear N1; have K2 := N2; clear N2; have HB := HBn; clear HBn; (have k0 := Blk.cell K0.out; have f0 := Blk.free K0.out; have l0 := Blk.lt K0.out; have m0 := Nat.le_of_lt l0; have k1 := Blk.cell K1.out; have f1 := Blk.free K1.out; have l1 := Blk.lt K1.out; have m1 := Nat.le_of_lt l1; have k2 := Blk.cell K2.out; have f2 := Blk.free K2.out; have l2 := Blk.lt K2.out; have m2 := Nat.le_of_lt l2))
    (go_wp2_with (first | (with_reducible refine wpList_store_halt (o := ⟨_, .store 35 _ _, _, _, _, none⟩) (stSr _ K0.out (t)) rfl _ _ rfl rfl rfl ?_)); generalize hWN : setRow _ _ _ _ = WN; have N0 := Lib.hid (show Blk WN _ _ _ by rw [← hWN]; exact Blk.row K0.out.lt); have N1 := Lib.hid (show Blk WN _ _ _ by rw [← hWN]; exact Blk.rowOver (by omega) K1.out); have N2 := Lib.hid (show Blk WN _ _ _ by rw [← hWN]; exact Blk.rowOver (by omega) K2.out); have HBn : Below w.heap.size w WN := (by rw [← hWN]; exact Below.row HB (by omega) HB.size); clear hWN HB K0 k0 f0 l0 m0 K1 k1 f1 l1 m1 K2 k2 f2 l2 m2; have K0 := N0; clear N0; have K1 := N1; clear N1; have K2 := N2; clear N2; have HB := HBn; clear HBn; (have k0 := Blk.cell K0.out; have f0 := Blk.free K0.out; have l0 := Blk.lt K0.out; have m0 := Nat.le_of_lt l0; have k1 := Blk.cell K1.out; have f1 := Blk.free K1.out; have l1 := Blk.lt K1.out; have m1 := Nat.le_of_lt l1; have k2 := Blk.cell K2.out; have f2 := Blk.free K2.out; have l2 := Blk.lt K2.out; have m2 := Nat.le_of_lt l2); unfold Halted)
    (go_wp2_with (first | (with_reducible refine wpList_store_halt (o := ⟨_, .store 33 _ _, _, _, _, none⟩) (stSr_best _ K0.out (Up.zero)) rfl _ _ rfl rfl rfl ?_)); generalize hWN : setRow _ _ _ _ = WN; have N0 := Lib.hid (show Blk WN _ _ _ by rw [← hWN]; exact Blk.row K0.out.lt); have N1 := Lib.hid (show Blk WN _ _ _ by rw [← hWN]; exact Blk.rowOver (by omega) K1.out); have N2 := Lib.hid (show Blk WN _ _ _ by rw [← hWN]; exact Blk.rowOver (by omega) K2.out); have HBn : Below w.heap.size w WN := (by rw [← hWN]; exact Below.row HB (by omega) HB.size); clear hWN HB K0 k0 f0 l0 m0 K1 k1 f1 l1 m1 K2 k2 f2 l2 m2; have K0 := N0; clear N0; have K1 := N1; clear N1; have K2 := N2; clear N2; have HB := HBn; clear HBn; (have k0 := Blk.cell K0.out; have f0 := Blk.free K0.out; have l0 := Blk.lt K0.out; have m0 := Nat.le_of_lt l0; have k1 := Blk.cell K1.out; have f1 := Blk.free K1.out; have l1 := Blk.lt K1.out; have m1 := Nat.le_of_lt l1; have k2 := Blk.cell K2.out; have f2 := Blk.free K2.out; have l2 := Blk.lt K2.out; have m2 := Nat.le_of_lt l2); unfold Halted)
    (go_wp2_with (first | (with_reducible refine wpList_store_halt (o := ⟨_, .store 4 _ _, _, _, _, none⟩) (stcSr_has _ K0.out (false)) rfl _ _ rfl rfl rfl ?_)); generalize hWN : setRow _ _ _ _ = WN; have N0 := Lib.hid (show Blk WN _ _ _ by rw [← hWN]; exact Blk.row K0.out.lt); have N1 := Lib.hid (show Blk WN _ _ _ by rw [← hWN]; exact Blk.rowOver (by omega) K1.out); have N2 := Lib.hid (show Blk WN _ _ _ by rw [← hWN]; exact Blk.rowOver (by omega) K2.out); have HBn : Below w.heap.size w WN := (by rw [← hWN]; exact Below.row HB (by omega) HB.size); clear hWN HB K0 k0 f0 l0 m0 K1 k1 f1 l1 m1 K2 k2 f2 l2 m2; have K0 := N0; clear N0; have K1 := N1; clear N1; have K2 := N2; clear N2; have HB := HBn; clear HBn; (have k0 := Blk.cell K0.out; have f0 := Blk.free K0.out; have l0 := Blk.lt K0.out; have m0 := Nat.le_of_lt l0; have k1 := Blk.cell K1.out; have f1 := Blk.free K1.out; have l1 := Blk.lt K1.out; have m1 := Nat.le_of_lt l1; have k2 := Blk.cell K2.out; have f2 := Blk.free K2.out; have l2 := Blk.lt K2.out; have m2 := Nat.le_of_lt l2); unfold Halted)
    (go_wp2_with (first | (with_reducible refine wpList_store_halt (o := ⟨_, .store 4 _ _, _, _, _, none⟩) (stcSr_forced _ K0.out (true)) rfl _ _ rfl rfl rfl ?_)); generalize hWN : setRow _ _ _ _ = WN; have N0 := Lib.hid (show Blk WN _ _ _ by rw [← hWN]; exact Blk.row K0.out.lt); have N1 := Lib.hid (show Blk WN _ _ _ by rw [← hWN]; exact Blk.rowOver (by omega) K1.out); have N2 := Lib.hid (show Blk WN _ _ _ by rw [← hWN]; exact Blk.rowOver (by omega) K2.out); have HBn : Below w.heap.size w WN := (by rw [← hWN]; exact Below.row HB (by omega) HB.size); clear hWN HB K0 k0 f0 l0 m0 K1 k1 f1 l1 m1 K2 k2 f2 l2 m2; have K0 := N0; clear N0; have K1 := N1; clear N1; have K2 := N2; clear N2; have HB := HBn; clear HBn; (have k0 := Blk.cell K0.out; have f0 := Blk.free K0.out; have l0 := Blk.lt K0.out; have m0 := Nat.le_of_lt l0; have k1 := Blk.cell K1.out; have f1 := Blk.free K1.out; have l1 := Blk.lt K1.out; have m1 := Nat.le_of_lt l1; have k2 := Blk.cell K2.out; have f2 := Blk.free K2.out; have l2 := Blk.lt K2.out; have m2 := Nat.le_of_lt l2); unfold Halted)
    (go_wp2_with (first | (with_reducible refine wpList_load_run (o := ⟨_, .load 35 _, _, _, _, none⟩) (ldSr _ K0.out) rfl _ rfl rfl ?_) | (with_reducible refine wpList_load_run_g (o := ⟨_, .load 35 _, _, _, _, some _⟩) (ldSr _ K0.out) (by kernel_rfl) _ rfl rfl ?_) | (with_reducible refine wpList_store_halt (o := ⟨_, .store 35 _ _, _, _, _, none⟩) (stSr _ K1.out ({ clearP t with forced := true })) rfl _ _ rfl rfl rfl ?_)); generalize hWN : setRow _ _ _ _ = WN; have N1 := Lib.hid (show Blk WN _ _ _ by rw [← hWN]; exact Blk.row K1.out.lt); have N0 := Lib.hid (show Blk WN _ _ _ by rw [← hWN]; exact Blk.rowOver (by omega) K0.out); have N2 := Lib.hid (show Blk WN _ _ _ by rw [← hWN]; exact Blk.rowOver (by omega) K2.out); have HBn : Below w.heap.size w WN := (by rw [← hWN]; exact Below.row HB (by omega) HB.size); clear hWN HB K1 k1 f1 l1 m1 K0 k0 f0 l0 m0 K2 k2 f2 l2 m2; have K1 := N1; clear N1; have K0 := N0; clear N0; have K2 := N2; clear N2; have HB := HBn; clear HBn; (have k1 := Blk.cell K1.out; have f1 := Blk.free K1.out; have l1 := Blk.lt K1.out; have m1 := Nat.le_of_lt l1; have k0 := Blk.cell K0.out; have f0 := Blk.free K0.out; have l0 := Blk.lt K0.out; have m0 := Nat.le_of_lt l0; have k2 := Blk.cell K2.out; have f2 := Blk.free K2.out; have l2 := Blk.lt K2.out; have m2 := Nat.le_of_lt l2); unfold Halted)
    go_wp2_with fail
    exact bodyPost_ret (results_cell2 rfl rfl (ldSr _ K1.out)) rfl ⟨by rw [ht.out]; rfl, HB⟩
  · have hlei : ¬ (s.best.fin.b.slot : Int) ≤ (s.fin.b.slot : Int) := by omega
    have hfe : forcedU s = s.best := by unfold forcedU; rw [if_neg hle]
    rw [hfe] at nt
    clear hfe hle
    go_wp2_with (first | (with_reducible refine wpList_load_run (o := ⟨_, .load 35 _, _, _, _, none⟩) (ldSr _ K0.out) rfl _ rfl rfl ?_) | (with_reducible refine wpList_load_run (o := ⟨_, .load 33 _, _, _, _, none⟩) (ldUp _ K2.out) rfl _ rfl rfl ?_))
    (refine (nt.out _).mono ?_; rintro e w2 ⟨rfl, hN⟩; have N0 := Lib.hid (K0.out.below hN); have N1 := Lib.hid (K1.out.below hN); have N2 := Lib.hid (K2.out.below hN); have HBn : Below w.heap.size w w2 := Below.on hN HB; clear hN HB K0 k0 f0 l0 m0 K1 k1 f1 l1 m1 K2 k2 f2 l2 m2; have K0 := N0; clear N0; have K1 := N1; clear N1; have K2 := N2; clear N2; have HB := HBn; clear HBn; (have k0 := Blk.cell K0.out; have f0 := Blk.free K0.out; have l0 := Blk.lt K0.out; have m0 := Nat.le_of_lt l0; have k1 := Blk.cell K1.out; have f1 := Blk.free K1.out; have l1 := Blk.lt K1.out; have m1 := Nat.le_of_lt l1; have k2 := Blk.cell K2.out; have f2 := Blk.free K2.out; have l2 := Blk.lt K2.out; have m2 := Nat.le_of_lt l2))
    (go_wp2_with (first | (with_reducible refine wpList_store_halt (o := ⟨_, .store 35 _ _, _, _, _, none⟩) (stSr _ K0.out (t)) rfl _ _ rfl rfl rfl ?_)); generalize hWN : setRow _ _ _ _ = WN; have N0 := Lib.hid (show Blk WN _ _ _ by rw [← hWN]; exact Blk.row K0.out.lt); have N1 := Lib.hid (show Blk WN _ _ _ by rw [← hWN]; exact Blk.rowOver (by omega) K1.out); have N2 := Lib.hid (show Blk WN _ _ _ by rw [← hWN]; exact Blk.rowOver (by omega) K2.out); have HBn : Below w.heap.size w WN := (by rw [← hWN]; exact Below.row HB (by omega) HB.size); clear hWN HB K0 k0 f0 l0 m0 K1 k1 f1 l1 m1 K2 k2 f2 l2 m2; have K0 := N0; clear N0; have K1 := N1; clear N1; have K2 := N2; clear N2; have HB := HBn; clear HBn; (have k0 := Blk.cell K0.out; have f0 := Blk.free K0.out; have l0 := Blk.lt K0.out; have m0 := Nat.le_of_lt l0; have k1 := Blk.cell K1.out; have f1 := Blk.free K1.out; have l1 := Blk.lt K1.out; have m1 := Nat.le_of_lt l1; have k2 := Blk.cell K2.out; have f2 := Blk.free K2.out; have l2 := Blk.lt K2.out; have m2 := Nat.le_of_lt l2); unfold Halted)
    (go_wp2_with (first | (with_reducible refine wpList_store_halt (o := ⟨_, .store 33 _ _, _, _, _, none⟩) (stSr_best _ K0.out (Up.zero)) rfl _ _ rfl rfl rfl ?_)); generalize hWN : setRow _ _ _ _ = WN; have N0 := Lib.hid (show Blk WN _ _ _ by rw [← hWN]; exact Blk.row K0.out.lt); have N1 := Lib.hid (show Blk WN _ _ _ by rw [← hWN]; exact Blk.rowOver (by omega) K1.out); have N2 := Lib.hid (show Blk WN _ _ _ by rw [← hWN]; exact Blk.rowOver (by omega) K2.out); have HBn : Below w.heap.size w WN := (by rw [← hWN]; exact Below.row HB (by omega) HB.size); clear hWN HB K0 k0 f0 l0 m0 K1 k1 f1 l1 m1 K2 k2 f2 l2 m2; have K0 := N0; clear N0; have K1 := N1; clear N1; have K2 := N2; clear N2; have HB := HBn; clear HBn; (have k0 := Blk.cell K0.out; have f0 := Blk.free K0.out; have l0 := Blk.lt K0.out; have m0 := Nat.le_of_lt l0; have k1 := Blk.cell K1.out; have f1 := Blk.free K1.out; have l1 := Blk.lt K1.out; have m1 := Nat.le_of_lt l1; have k2 := Blk.cell K2.out; have f2 := Blk.free K2.out; have l2 := Blk.lt K2.out; have m2 := Nat.le_of_lt l2); unfold Halted)
    (go_wp2_with (first | (with_reducible refine wpList_store_halt (o := ⟨_, .store 4 _ _, _, _, _, none⟩) (stcSr_has _ K0.out (false)) rfl _ _ rfl rfl rfl ?_)); generalize hWN : setRow _ _ _ _ = WN; have N0 := Lib.hid (show Blk WN _ _ _ by rw [← hWN]; exact Blk.row K0.out.lt); have N1 := Lib.hid (show Blk WN _ _ _ by rw [← hWN]; exact Blk.rowOver (by omega) K1.out); have N2 := Lib.hid (show Blk WN _ _ _ by rw [← hWN]; exact Blk.rowOver (by omega) K2.out); have HBn : Below w.heap.size w WN := (by rw [← hWN]; exact Below.row HB (by omega) HB.size); clear hWN HB K0 k0 f0 l0 m0 K1 k1 f1 l1 m1 K2 k2 f2 l2 m2; have K0 := N0; clear N0; have K1 := N1; clear N1; have K2 := N2; clear N2; have HB := HBn; clear HBn; (have k0 := Blk.cell K0.out; have f0 := Blk.free K0.out; have l0 := Blk.lt K0.out; have m0 := Nat.le_of_lt l0; have k1 := Blk.cell K1.out; have f1 := Blk.free K1.out; have l1 := Blk.lt K1.out; have m1 := Nat.le_of_lt l1; have k2 := Blk.cell K2.out; have f2 := Blk.free K2.out; have l2 := Blk.lt K2.out; have m2 := Nat.le_of_lt l2); unfold Halted)
    (go_wp2_with (first | (with_reducible refine wpList_store_halt (o := ⟨_, .store 4 _ _, _, _, _, none⟩) (stcSr_forced _ K0.out (true)) rfl _ _ rfl rfl rfl ?_)); generalize hWN : setRow _ _ _ _ = WN; have N0 := Lib.hid (show Blk WN _ _ _ by rw [← hWN]; exact Blk.row K0.out.lt); have N1 := Lib.hid (show Blk WN _ _ _ by rw [← hWN]; exact Blk.rowOver (by omega) K1.out); have N2 := Lib.hid (show Blk WN _ _ _ by rw [← hWN]; exact Blk.rowOver (by omega) K2.out); have HBn : Below w.heap.size w WN := (by rw [← hWN]; exact Below.row HB (by omega) HB.size); clear hWN HB K0 k0 f0 l0 m0 K1 k1 f1 l1 m1 K2 k2 f2 l2 m2; have K0 := N0; clear N0; have K1 := N1; clear N1; have K2 := N2; clear N2; have HB := HBn; clear HBn; (have k0 := Blk.cell K0.out; have f0 := Blk.free K0.out; have l0 := Blk.lt K0.out; have m0 := Nat.le_of_lt l0; have k1 := Blk.cell K1.out; have f1 := Blk.free K1.out; have l1 := Blk.lt K1.out; have m1 := Nat.le_of_lt l1; have k2 := Blk.cell K2.out; have f2 := Blk.free K2.out; have l2 := Blk.lt K2.out; have m2 := Nat.le_of_lt l2); unfold Halted)
    (go_wp2_with (first | (with_reducible refine wpList_load_run (o := ⟨_, .load 35 _, _, _, _, none⟩) (ldSr _ K0.out) rfl _ rfl rfl ?_) | (with_reducible refine wpList_load_run_g (o := ⟨_, .load 35 _, _, _, _, some _⟩) (ldSr _ K0.out) (by kernel_rfl) _ rfl rfl ?_) | (with_reducible refine wpList_store_halt (o := ⟨_, .store 35 _ _, _, _, _, none⟩) (stSr _ K1.out ({ clearP t with forced := true })) rfl _ _ rfl rfl rfl ?_)); generalize hWN : setRow _ _ _ _ = WN; have N1 := Lib.hid (show Blk WN _ _ _ by rw [← hWN]; exact Blk.row K1.out.lt); have N0 := Lib.hid (show Blk WN _ _ _ by rw [← hWN]; exact Blk.rowOver (by omega) K0.out); have N2 := Lib.hid (show Blk WN _ _ _ by rw [← hWN]; exact Blk.rowOver (by omega) K2.out); have HBn : Below w.heap.size w WN := (by rw [← hWN]; exact Below.row HB (by omega) HB.size); clear hWN HB K1 k1 f1 l1 m1 K0 k0 f0 l0 m0 K2 k2 f2 l2 m2; have K1 := N1; clear N1; have K0 := N0; clear N0; have K2 := N2; clear N2; have HB := HBn; clear HBn; (have k1 := Blk.cell K1.out; have f1 := Blk.free K1.out; have l1 := Blk.lt K1.out; have m1 := Nat.le_of_lt l1; have k0 := Blk.cell K0.out; have f0 := Blk.free K0.out; have l0 := Blk.lt K0.out; have m0 := Nat.le_of_lt l0; have k2 := Blk.cell K2.out; have f2 := Blk.free K2.out; have l2 := Blk.lt K2.out; have m2 := Nat.le_of_lt l2); unfold Halted)
    go_wp2_with fail
    exact bodyPost_ret (results_cell2 rfl rfl (ldSr _ K1.out)) rfl ⟨by rw [ht.out]; rfl, HB⟩
set_option maxRecDepth 100000 in
set_option maxHeartbeats 4000000 in
theorem rsameUp_calls (a b : Up) (w : World) (ha : UpIn w a) (hb : UpIn w b) : Calls Tryz.prog 49 #[upV a, upV b] w (Ret w (.bool (sameUp a b))) := by
  have n1 := fun W (hB : Below w.heap.size w W) => rsameLt_calls a.seen b.seen W (ha.1.below hB) (hb.1.below hB)
  have n2 := fun W (hB : Below w.heap.size w W) => rsameLt_calls a.fin b.fin W (ha.2.2.2.1.below hB) (hb.2.2.2.1.below hB)
  have n3 := fun W (hB : Below w.heap.size w W) => rsameCm_calls a.next b.next W (ha.2.1.below hB) (hb.2.1.below hB)
  have n4 := fun W (hB : Below w.heap.size w W) => lrowsame a.nb.addr b.nb.addr a.nb.cap b.nb.cap a.nb.l b.nb.l ha.2.2.1.2.2.1 hb.2.2.1.2.2.1 W (Txts.below ha.2.2.1.1 hB) (Txts.below hb.2.2.1.1 hB)
  have n5 := fun W (hB : Below w.heap.size w W) => lrowsame a.fb.addr b.fb.addr a.fb.cap b.fb.cap a.fb.l b.fb.l ha.2.2.2.2.1.2.2.1 hb.2.2.2.2.1.2.2.1 W (Txts.below ha.2.2.2.2.1.1 hB) (Txts.below hb.2.2.2.2.1.1 hB)
  have hE : sameUp a b = (sameLt a.seen b.seen && (sameLt a.fin b.fin && (sameCm a.next b.next && (a.nb.l == b.nb.l && (a.fb.l == b.fb.l && (a.bits == b.bits && (a.sig == b.sig && a.slot == b.slot))))))) := rfl
  rw [hE]
  clear hE
  have e6 : ((a.bits : Int) == (b.bits : Int)) = (a.bits == b.bits) := by rw [Bool.eq_iff_iff]; simp; omega
  have e8 : ((a.slot : Int) == (b.slot : Int)) = (a.slot == b.slot) := by rw [Bool.eq_iff_iff]; simp; omega
  generalize sameLt a.seen b.seen = r1 at *
  generalize sameLt a.fin b.fin = r2 at *
  generalize sameCm a.next b.next = r3 at *
  generalize (a.nb.l == b.nb.l) = r4 at *
  generalize (a.fb.l == b.fb.l) = r5 at *
  generalize (a.bits == b.bits) = r6 at *
  obtain ⟨r7, e7⟩ : ∃ r7, (a.sig == b.sig) = r7 := ⟨_, rfl⟩
  rw [e7]
  generalize (a.slot == b.slot) = r8 at *
  replace n1 := Lib.hid n1
  replace n2 := Lib.hid n2
  replace n3 := Lib.hid n3
  replace n4 := Lib.hid n4
  replace n5 := Lib.hid n5
  clear ha hb
  go_enter Tryz.func49, Tryz.ntmps49
  go_upto_region 1 with fail
  have HB : Below w.heap.size w ((w.alloc (.cells (upA a) 33)).alloc (.cells (upA b) 33)) := (by repeat (first | assumption | exact Below.refl _ _ | refine Below.setCell ?_ (by first | exact Nat.le_refl _ | (simp; done) | omega | (simp; omega)) _ | refine Below.alloc ?_ (by first | exact Nat.le_refl _ | (simp; done) | omega | (simp; omega)) _ | refine below_drewN ?_ _ | refine Below.drew ?_ | refine Below.on (by assumption) ?_ | refine Below.via (by assumption) (by first | exact Nat.le_refl _ | (simp; done) | omega | (simp; omega)) ?_))
  have K0 := (Blk.new0 w 33 (upA a)).alloc (.cells (upA b) 33)
  have K1 := Blk.new1 w (.cells (upA a) 33) 33 (upA b)
  obtain ⟨W, hW⟩ : ∃ W, ((w.alloc (.cells (upA a) 33)).alloc (.cells (upA b) 33)) = W := ⟨_, rfl⟩
  rw [hW] at HB K0 K1 ⊢
  clear hW
  have hgl : w.heap.size ≤ w.heap.size := Nat.le_refl _
  obtain ⟨g, hg⟩ : ∃ g, w.heap.size = g := ⟨_, rfl⟩
  rw [hg] at K0 K1 ⊢
  replace hgl : w.heap.size ≤ g := by omega
  replace K0 := Lib.hid K0
  replace K1 := Lib.hid K1
  clear hg
  (have k0 := Blk.cell K0.out; have f0 := Blk.free K0.out; have l0 := Blk.lt K0.out; have m0 := Nat.le_of_lt l0; have k1 := Blk.cell K1.out; have f1 := Blk.free K1.out; have l1 := Blk.lt K1.out; have m1 := Nat.le_of_lt l1)
  go_wp2_with fail
  (refine (n1.out _ HB).mono ?_; rintro e w1 ⟨rfl, hN⟩; have N0 := Lib.hid (K0.out.below hN); have N1 := Lib.hid (K1.out.below hN); have HBn : Below w.heap.size w w1 := Below.on hN HB; clear hN HB K0 k0 f0 l0 m0 K1 k1 f1 l1 m1; have K0 := N0; clear N0; have K1 := N1; clear N1; have HB := HBn; clear HBn; (have k0 := Blk.cell K0.out; have f0 := Blk.free K0.out; have l0 := Blk.lt K0.out; have m0 := Nat.le_of_lt l0; have k1 := Blk.cell K1.out; have f1 := Blk.free K1.out; have l1 := Blk.lt K1.out; have m1 := Nat.le_of_lt l1))
  go_wp2_with fail
  (refine (n2.out _ HB).mono ?_; rintro e w2 ⟨rfl, hN⟩; have N0 := Lib.hid (K0.out.below hN); have N1 := Lib.hid (K1.out.below hN); have HBn : Below w.heap.size w w2 := Below.on hN HB; clear hN HB K0 k0 f0 l0 m0 K1 k1 f1 l1 m1; have K0 := N0; clear N0; have K1 := N1; clear N1; have HB := HBn; clear HBn; (have k0 := Blk.cell K0.out; have f0 := Blk.free K0.out; have l0 := Blk.lt K0.out; have m0 := Nat.le_of_lt l0; have k1 := Blk.cell K1.out; have f1 := Blk.free K1.out; have l1 := Blk.lt K1.out; have m1 := Nat.le_of_lt l1))
  go_wp2_with fail
  (refine (n3.out _ HB).mono ?_; rintro e w3 ⟨rfl, hN⟩; have N0 := Lib.hid (K0.out.below hN); have N1 := Lib.hid (K1.out.below hN); have HBn : Below w.heap.size w w3 := Below.on hN HB; clear hN HB K0 k0 f0 l0 m0 K1 k1 f1 l1 m1; have K0 := N0; clear N0; have K1 := N1; clear N1; have HB := HBn; clear HBn; (have k0 := Blk.cell K0.out; have f0 := Blk.free K0.out; have l0 := Blk.lt K0.out; have m0 := Nat.le_of_lt l0; have k1 := Blk.cell K1.out; have f1 := Blk.free K1.out; have l1 := Blk.lt K1.out; have m1 := Nat.le_of_lt l1))
  cases r1 with
  | false =>
    go_wp2_with fail
    go_ret
    exact ⟨rfl, HB⟩
  | true =>
    cases r2 with
    | false =>
      go_wp2_with fail
      go_ret
      exact ⟨rfl, HB⟩
    | true =>
      cases r3 with
      | false =>
        go_wp2_with fail
        go_ret
        exact ⟨rfl, HB⟩
      | true =>
        go_wp2_with fail
        (refine (n4.out _ HB).mono ?_; rintro e w4 ⟨rfl, hN⟩; have N0 := Lib.hid (K0.out.below hN); have N1 := Lib.hid (K1.out.below hN); have HBn : Below w.heap.size w w4 := Below.on hN HB; clear hN HB K0 k0 f0 l0 m0 K1 k1 f1 l1 m1; have K0 := N0; clear N0; have K1 := N1; clear N1; have HB := HBn; clear HBn; (have k0 := Blk.cell K0.out; have f0 := Blk.free K0.out; have l0 := Blk.lt K0.out; have m0 := Nat.le_of_lt l0; have k1 := Blk.cell K1.out; have f1 := Blk.free K1.out; have l1 := Blk.lt K1.out; have m1 := Nat.le_of_lt l1))
        cases r4 with
        | false =>
          go_wp2_with fail
          go_ret
          exact ⟨rfl, HB⟩
        | true =>
          go_wp2_with fail
          (refine (n5.out _ HB).mono ?_; rintro e w5 ⟨rfl, hN⟩; have N0 := Lib.hid (K0.out.below hN); have N1 := Lib.hid (K1.out.below hN); have HBn : Below w.heap.size w w5 := Below.on hN HB; clear hN HB K0 k0 f0 l0 m0 K1 k1 f1 l1 m1; have K0 := N0; clear N0; have K1 := N1; clear N1; have HB := HBn; clear HBn; (have k0 := Blk.cell K0.out; have f0 := Blk.free K0.out; have l0 := Blk.lt K0.out; have m0 := Nat.le_of_lt l0; have k1 := Blk.cell K1.out; have f1 := Blk.free K1.out; have l1 := Blk.lt K1.out; have m1 := Nat.le_of_lt l1))
          cases r5 with
          | false =>
            go_wp2_with fail
            go_ret
            exact ⟨rfl, HB⟩
          | true =>
            cases r6 with
            | false =>
              go_wp2_with fail
              go_ret
              exact ⟨rfl, HB⟩
            | true =>
              cases r7 with
              | false =>
                go_wp2_with fail
                go_ret
                exact ⟨rfl, HB⟩
              | true =>
                go_wp2_with fail
                go_ret
                exact ⟨rfl, HB⟩
set_option maxRecDepth 100000 in
set_option maxHeartbeats 4000000 in
theorem rsameSr_calls (a b : Sr) (w : World) (ha : SrIn w a) (hb : SrIn w b) : Calls Tryz.prog 24 #[srV a, srV b] w (Ret w (.bool (sameSr a b))) := by
  have n1 := fun W (hB : Below w.heap.size w W) => rsameLt_calls a.fin b.fin W (ha.1.below hB) (hb.1.below hB)
  have n2 := fun W (hB : Below w.heap.size w W) => rsameLt_calls a.new b.new W (ha.2.1.below hB) (hb.2.1.below hB)
  have n3 := fun W (hB : Below w.heap.size w W) => rsameCm_calls a.now b.now W (ha.2.2.1.below hB) (hb.2.2.1.below hB)
  have n4 := fun W (hB : Below w.heap.size w W) => rsameCm_calls a.next b.next W (ha.2.2.2.1.below hB) (hb.2.2.2.1.below hB)
  have n5 := fun W (hB : Below w.heap.size w W) => rsameUp_calls a.best b.best W (ha.2.2.2.2.1.below hB) (hb.2.2.2.2.1.below hB)
  have hE : sameSr a b = (sameLt a.fin b.fin && (sameLt a.new b.new && (sameCm a.now b.now && (sameCm a.next b.next && (sameUp a.best b.best && (a.has == b.has && (a.last == b.last && (a.this == b.this && a.forced == b.forced)))))))) := rfl
  rw [hE]
  clear hE
  generalize sameLt a.fin b.fin = r1 at *
  generalize sameLt a.new b.new = r2 at *
  generalize sameCm a.now b.now = r3 at *
  generalize sameCm a.next b.next = r4 at *
  generalize sameUp a.best b.best = r5 at *
  obtain ⟨r6, e6⟩ : ∃ r, (a.has == b.has) = r := ⟨_, rfl⟩
  obtain ⟨r7, e7⟩ : ∃ r, (a.last == b.last) = r := ⟨_, rfl⟩
  obtain ⟨r8, e8⟩ : ∃ r, (a.this == b.this) = r := ⟨_, rfl⟩
  obtain ⟨r9, e9⟩ : ∃ r, (a.forced == b.forced) = r := ⟨_, rfl⟩
  rw [e6, e7, e8, e9]
  replace n1 := Lib.hid n1
  replace n2 := Lib.hid n2
  replace n3 := Lib.hid n3
  replace n4 := Lib.hid n4
  replace n5 := Lib.hid n5
  clear ha hb
  go_enter Tryz.func24, Tryz.ntmps24
  go_upto_region 1 with fail
  have HB : Below w.heap.size w ((w.alloc (.cells (srA a) 35)).alloc (.cells (srA b) 35)) := (by repeat (first | assumption | exact Below.refl _ _ | refine Below.setCell ?_ (by first | exact Nat.le_refl _ | (simp; done) | omega | (simp; omega)) _ | refine Below.alloc ?_ (by first | exact Nat.le_refl _ | (simp; done) | omega | (simp; omega)) _ | refine below_drewN ?_ _ | refine Below.drew ?_ | refine Below.on (by assumption) ?_ | refine Below.via (by assumption) (by first | exact Nat.le_refl _ | (simp; done) | omega | (simp; omega)) ?_))
  have K0 := (Blk.new0 w 35 (srA a)).alloc (.cells (srA b) 35)
  have K1 := Blk.new1 w (.cells (srA a) 35) 35 (srA b)
  obtain ⟨W, hW⟩ : ∃ W, ((w.alloc (.cells (srA a) 35)).alloc (.cells (srA b) 35)) = W := ⟨_, rfl⟩
  rw [hW] at HB K0 K1 ⊢
  clear hW
  have hgl : w.heap.size ≤ w.heap.size := Nat.le_refl _
  obtain ⟨g, hg⟩ : ∃ g, w.heap.size = g := ⟨_, rfl⟩
  rw [hg] at K0 K1 ⊢
  replace hgl : w.heap.size ≤ g := by omega
  replace K0 := Lib.hid K0
  replace K1 := Lib.hid K1
  clear hg
  (have k0 := Blk.cell K0.out; have f0 := Blk.free K0.out; have l0 := Blk.lt K0.out; have m0 := Nat.le_of_lt l0; have k1 := Blk.cell K1.out; have f1 := Blk.free K1.out; have l1 := Blk.lt K1.out; have m1 := Nat.le_of_lt l1)
  go_wp2_with fail
  (refine (n1.out _ HB).mono ?_; rintro e w1 ⟨rfl, hN⟩; have N0 := Lib.hid (K0.out.below hN); have N1 := Lib.hid (K1.out.below hN); have HBn : Below w.heap.size w w1 := Below.on hN HB; clear hN HB K0 k0 f0 l0 m0 K1 k1 f1 l1 m1; have K0 := N0; clear N0; have K1 := N1; clear N1; have HB := HBn; clear HBn; (have k0 := Blk.cell K0.out; have f0 := Blk.free K0.out; have l0 := Blk.lt K0.out; have m0 := Nat.le_of_lt l0; have k1 := Blk.cell K1.out; have f1 := Blk.free K1.out; have l1 := Blk.lt K1.out; have m1 := Nat.le_of_lt l1))
  go_wp2_with fail
  (refine (n2.out _ HB).mono ?_; rintro e w2 ⟨rfl, hN⟩; have N0 := Lib.hid (K0.out.below hN); have N1 := Lib.hid (K1.out.below hN); have HBn : Below w.heap.size w w2 := Below.on hN HB; clear hN HB K0 k0 f0 l0 m0 K1 k1 f1 l1 m1; have K0 := N0; clear N0; have K1 := N1; clear N1; have HB := HBn; clear HBn; (have k0 := Blk.cell K0.out; have f0 := Blk.free K0.out; have l0 := Blk.lt K0.out; have m0 := Nat.le_of_lt l0; have k1 := Blk.cell K1.out; have f1 := Blk.free K1.out; have l1 := Blk.lt K1.out; have m1 := Nat.le_of_lt l1))
  go_wp2_with fail
  (refine (n3.out _ HB).mono ?_; rintro e w3 ⟨rfl, hN⟩; have N0 := Lib.hid (K0.out.below hN); have N1 := Lib.hid (K1.out.below hN); have HBn : Below w.heap.size w w3 := Below.on hN HB; clear hN HB K0 k0 f0 l0 m0 K1 k1 f1 l1 m1; have K0 := N0; clear N0; have K1 := N1; clear N1; have HB := HBn; clear HBn; (have k0 := Blk.cell K0.out; have f0 := Blk.free K0.out; have l0 := Blk.lt K0.out; have m0 := Nat.le_of_lt l0; have k1 := Blk.cell K1.out; have f1 := Blk.free K1.out; have l1 := Blk.lt K1.out; have m1 := Nat.le_of_lt l1))
  go_wp2_with fail
  (refine (n4.out _ HB).mono ?_; rintro e w4 ⟨rfl, hN⟩; have N0 := Lib.hid (K0.out.below hN); have N1 := Lib.hid (K1.out.below hN); have HBn : Below w.heap.size w w4 := Below.on hN HB; clear hN HB K0 k0 f0 l0 m0 K1 k1 f1 l1 m1; have K0 := N0; clear N0; have K1 := N1; clear N1; have HB := HBn; clear HBn; (have k0 := Blk.cell K0.out; have f0 := Blk.free K0.out; have l0 := Blk.lt K0.out; have m0 := Nat.le_of_lt l0; have k1 := Blk.cell K1.out; have f1 := Blk.free K1.out; have l1 := Blk.lt K1.out; have m1 := Nat.le_of_lt l1))
  go_wp2_with (first | (with_reducible refine wpList_load_run (o := ⟨_, .load 33 _, _, _, _, none⟩) (ldSr_best _ K0.out) rfl _ rfl rfl ?_) | (with_reducible refine wpList_load_run_g (o := ⟨_, .load 33 _, _, _, _, some _⟩) (ldSr_best _ K0.out) (by kernel_rfl) _ rfl rfl ?_) | (with_reducible refine wpList_load_run (o := ⟨_, .load 33 _, _, _, _, none⟩) (ldSr_best _ K1.out) rfl _ rfl rfl ?_) | (with_reducible refine wpList_load_run_g (o := ⟨_, .load 33 _, _, _, _, some _⟩) (ldSr_best _ K1.out) (by kernel_rfl) _ rfl rfl ?_))
  (refine (n5.out _ HB).mono ?_; rintro e w5 ⟨rfl, hN⟩; have N0 := Lib.hid (K0.out.below hN); have N1 := Lib.hid (K1.out.below hN); have HBn : Below w.heap.size w w5 := Below.on hN HB; clear hN HB K0 k0 f0 l0 m0 K1 k1 f1 l1 m1; have K0 := N0; clear N0; have K1 := N1; clear N1; have HB := HBn; clear HBn; (have k0 := Blk.cell K0.out; have f0 := Blk.free K0.out; have l0 := Blk.lt K0.out; have m0 := Nat.le_of_lt l0; have k1 := Blk.cell K1.out; have f1 := Blk.free K1.out; have l1 := Blk.lt K1.out; have m1 := Nat.le_of_lt l1))
  cases r1 with
  | false =>
    go_wp2_with fail
    go_ret
    exact ⟨rfl, HB⟩
  | true =>
    cases r2 with
    | false =>
      go_wp2_with fail
      go_ret
      exact ⟨rfl, HB⟩
    | true =>
      cases r3 with
      | false =>
        go_wp2_with fail
        go_ret
        exact ⟨rfl, HB⟩
      | true =>
        cases r4 with
        | false =>
          go_wp2_with fail
          go_ret
          exact ⟨rfl, HB⟩
        | true =>
          cases r5 with
          | false =>
            go_wp2_with fail
            go_ret
            exact ⟨rfl, HB⟩
          | true =>
            cases r6 with
            | false =>
              go_wp2_with fail
              go_ret
              exact ⟨rfl, HB⟩
            | true =>
              cases r7 with
              | false =>
                go_wp2_with fail
                go_ret
                exact ⟨rfl, HB⟩
              | true =>
                cases r8 with
                | false =>
                  go_wp2_with fail
                  go_ret
                  exact ⟨rfl, HB⟩
                | true =>
                  go_wp2_with fail
                  go_ret
                  exact ⟨rfl, HB⟩
end Go.Proofs.YtegaaccioppfjaaGreatDoor
end
section
set_option linter.unusedSimpArgs false
set_option linter.unusedVariables false
namespace Go.Proofs.YtegaaccioppfjaaGreatDoor
open BigFrame Go.RowKit Go.Phx Go.Shelf
attribute [local go_sem] Oper.semAt_some

def forceS (s : Sr) (now : Nat) : Sr := if noForce s now then s else forceP s
def forceE (s : Sr) (now : Nat) : Int := if noForce s now then 148 else 0
theorem lgforce_calls (s : Sr) (now : Nat) (w : World) (hs : SrIn w s) (hn : now < 18446744073709551616) : Calls Tryz.prog 22 #[srV s, .int .u64 now] w (Ret w (.tuple #[srV (forceS s now), .int .i64 (forceE s now)])) := by
  unfold forceS forceE
  cases h : noForce s now with
  | true => rw [if_pos rfl, if_pos rfl]; exact force_no s now h hs.1.1.1 hn w
  | false => rw [if_neg (by simp), if_neg (by simp)]; exact force_yes s now h hs.1.1.1 hs.2.2.2.2.1.1.1.1 hs.2.2.2.2.1.2.2.2.1.1.1 hn w
theorem rlgforce_calls (s : Sr) (now : Nat) (w : World) (hs : SrIn w s) (hn : now < 18446744073709551616) : Calls Tryz.prog 23 #[srV s, .int .u64 now] w (Ret w (.tuple #[srV (forceS s now), .int .i64 (forceE s now)])) := by
  unfold forceS forceE
  cases h : noForce s now with
  | true => rw [if_pos rfl, if_pos rfl]; exact rforce_no s now h hs.1.1.1 hn w
  | false => rw [if_neg (by simp), if_neg (by simp)]; exact rforce_yes s now h hs.1.1.1 hs.2.2.2.2.1.1.1.1 hs.2.2.2.2.1.2.2.2.1.1.1 hn w
theorem take1_in {w : World} {s : Sr} {u : Up} (hs : SrIn w s) (hu : UpIn w u) : SrIn w (takeP1 s u) := by
  obtain ⟨a, b, c, d, e, f, g, h, i⟩ := hs
  unfold takeP1
  split
  · split
    · exact ⟨a, b, d, hu.2.1, e, f, h, (show (-9223372036854775808 : Int) ≤ 0 ∧ (0 : Int) ≤ 9223372036854775807 by decide), i⟩
    · exact ⟨a, b, c, d, e, f, g, h, i⟩
  · split
    · exact ⟨a, b, c, hu.2.1, e, f, g, h, i⟩
    · exact ⟨a, b, c, d, e, f, g, h, i⟩
theorem take_in {w : World} {s : Sr} {u : Up} (hs : SrIn w s) (hu : UpIn w u) : SrIn w (takeP s u) := by
  have hs := take1_in hs hu
  unfold takeP takeP2
  generalize takeP1 s u = s at *
  obtain ⟨a, b, c, d, e, f, g, h, i⟩ := hs
  split
  · refine ⟨hu.2.2.2.1, ?_, c, d, e, f, g, h, i⟩
    show LtIn w (if _ then _ else _)
    split
    · exact hu.2.2.2.1
    · exact b
  · exact ⟨a, b, c, d, e, f, g, h, i⟩
theorem clear_in {w : World} {s : Sr} (hs : SrIn w s) : SrIn w (clearP s) := by
  obtain ⟨a, b, c, d, e, f, g, h, i⟩ := hs
  exact ⟨a, b, c, d, UpIn.zero w, f, g, h, i⟩
theorem forced_in {w : World} {s : Sr} (hs : SrIn w s) : UpIn w (forcedU s) := by
  have hu := hs.2.2.2.2.1
  unfold forcedU
  split
  · exact ⟨hu.1, hu.2.1, hu.2.2.1, hu.1, hu.2.2.2.2⟩
  · exact hu
theorem forceP_in {w : World} {s : Sr} (hs : SrIn w s) : SrIn w (forceP s) := by
  have h := clear_in (take_in hs (forced_in hs))
  obtain ⟨a, b, c, d, e, f, g, h, i⟩ := h
  exact ⟨a, b, c, d, e, f, g, h, i⟩
theorem forceS_in {w : World} {s : Sr} (now : Nat) (hs : SrIn w s) : SrIn w (forceS s now) := by
  unfold forceS
  split
  · exact hs
  · exact forceP_in hs
end Go.Proofs.YtegaaccioppfjaaGreatDoor
end
