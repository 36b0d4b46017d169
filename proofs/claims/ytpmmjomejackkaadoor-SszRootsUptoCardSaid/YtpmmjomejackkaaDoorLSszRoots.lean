/- A tree's root, and a leaf's branch, or that there are none, by the program and by the reference: any chunks, depth, place, their bulk bounded. -/
import Derived.Test.YtpmmjomejackkaaDoorSszX
import Derived.Test.YtpmmjomejackkaaDoorSszS
import Derived.Test.YtpmmjomejackkaaDoorSszU
import Derived.Test.YtpmmjomejackkaaDoorLaid
import Derived.WalkKit
import Derived.ProofKit
import Derived.OpenShut
set_option linter.unusedSimpArgs false
set_option linter.unusedVariables false
namespace Go.Proofs.YtpmmjomejackkaaDoor
open BigFrame Go.RowKit Go.Phx Go.Shelf
attribute [local go_sem] Oper.semAt_some
namespace lawSszRoots

theorem rootV_is (L : List Bytes) (d : Int) : ∃ (p : Bytes) (e : Int), rootV L d = .tuple #[.string (bs p), .int .i64 e] := by
  unfold rootV
  split
  · exact ⟨_, _, rfl⟩
  · exact ⟨[], _, rfl⟩
set_option maxRecDepth 100000 in
set_option maxHeartbeats 2000000 in
theorem walk (A : Option Addr) (c : Nat) (xs : List ByteArray) (d i : Int) (hb : xs.length + ((xs.map fun s => s.data.toList).flatten).length ≤ 1048576) (w : World) (hs : Strs w A xs) (hk : HasK w) :
    Calls Tryd.prog 8 #[.slice A xs.length c, .int .i64 d, .int .i64 i] w (Ret w (.bool true)) := by
  obtain ⟨L, hL1, hL2⟩ := as_lists xs
  rw [← hL2] at hb
  subst hL1
  clear hL2
  rw [List.length_map] at hb ⊢
  obtain ⟨hl, hall⟩ := in_bulk hb
  replace hs : Txts w A L := hs
  clear hb
  have hl2 : L.length ≤ 9223372036854775807 := by omega
  have hall2 := Lib.hid (show ∀ x ∈ L, x.length ≤ 9223372036854775807 from fun x hx => by have := hall x hx; omega)
  clear hall
  replace hs := Lib.hid hs
  by_cases h8 : 8 < d ∧ d ≤ 10
  · obtain ⟨h8a, h8b⟩ := h8
    have e1 : decide (8 < d) = true := decide_eq_true h8a
    have e2 : decide (d ≤ 10) = true := decide_eq_true h8b
    obtain ⟨p, er, hp⟩ := rootV_is L (8:Int)
    obtain ⟨q, hq⟩ : ∃ q, (if BranchOk L (8:Int) i then branchP L i.toNat ((8:Int) : Int).toNat else []) = q := ⟨_, rfl⟩
    obtain ⟨eb, he⟩ : ∃ eb : Int, (if BranchOk L (8:Int) i then (0 : Int) else 80) = eb := ⟨_, rfl⟩
    have hql : q.length ≤ 9223372036854775807 := by
      rw [← hq]
      split
      · rename_i h
        rw [branchP_len]
        have := h.1.2.1
        omega
      · simp
    replace hp := Lib.hid hp
    replace hq := Lib.hid hq
    replace he := Lib.hid he
    go_enter Tryd.func8, Tryd.ntmps8
    go_wp2_with fail
    refine (shown8_calls _ hk).mono ?_
    rintro e w1 ⟨rfl, h1⟩
    go_wp2_with fail
    refine (root_calls A c L (8:Int) hl2 hall2.out _ (hk.on h1) (Txts.below hs.out h1)).mono ?_
    rintro e w2 ⟨rfl, h2⟩
    have h12 := Below.on h2 h1
    have hk2 := (hk.on h1).on h2
    rw [hp.out]
    clear h1 h2
    go_wp2_with fail
    refine (rroot_calls A c L (8:Int) hall2.out _ (Txts.below hs.out h12)).mono ?_
    rintro e w3 ⟨rfl, h3⟩
    have h13 := Below.on h3 h12
    have hk3 := hk2.on h3
    rw [hp.out]
    clear h3 h12 hk2
    go_wp2_with fail
    refine (branch_calls A c L (8:Int) i hl2 hall2.out _ hk3 (Txts.below hs.out h13)).mono ?_
    rintro e w4 ⟨v4, rfl, R4, h4⟩
    have h14 := Below.on h4 h13
    clear h4 h13
    rw [hq.out] at R4
    obtain ⟨A4, c4, rfl, T4⟩ := R4.txts
    replace T4 := Lib.hid T4
    clear R4
    have hbr := rbranch_calls A c L (8:Int) i hall2.out _ (Txts.below hs.out h14)
    rw [hq.out, he.out] at hbr
    rw [he.out]
    replace hbr := Lib.hid hbr
    go_wp2_with fail
    refine hbr.out.mono ?_
    rintro e w5 ⟨v5, rfl, R5, h5⟩
    have h15 := Below.on h5 h14
    have T45 := Lib.hid (Txts.below T4.out h5)
    clear h5 h14
    obtain ⟨A5, c5, rfl, T5⟩ := R5.txts
    replace T5 := Lib.hid T5
    clear R5
    go_wp2_with fail
    refine (same_calls A4 A5 c4 c5 q q hql hql _ T45.out T5.out).mono ?_
    rintro e w6 ⟨rfl, h6⟩
    have h16 := Below.on h6 h15
    have hyes : decide (q = q) = true := decide_eq_true rfl
    try rw [hyes]
    clear h6 h15
    go_wp2_with fail
    go_ret
    exact ⟨by simp, h16⟩
  · have e3 : (decide (8 < d) && decide (d ≤ 10)) = false := by
      rw [Bool.and_eq_false_iff, decide_eq_false_iff_not, decide_eq_false_iff_not]
      omega
    obtain ⟨p, er, hp⟩ := rootV_is L d
    obtain ⟨q, hq⟩ : ∃ q, (if BranchOk L d i then branchP L i.toNat (d : Int).toNat else []) = q := ⟨_, rfl⟩
    obtain ⟨eb, he⟩ : ∃ eb : Int, (if BranchOk L d i then (0 : Int) else 80) = eb := ⟨_, rfl⟩
    have hql : q.length ≤ 9223372036854775807 := by
      rw [← hq]
      split
      · rename_i h
        rw [branchP_len]
        have := h.1.2.1
        omega
      · simp
    replace hp := Lib.hid hp
    replace hq := Lib.hid hq
    replace he := Lib.hid he
    by_cases h8a : 8 < d
    · have e1 : decide (8 < d) = true := decide_eq_true h8a
      have e2 : decide (d ≤ 10) = false := decide_eq_false (by omega)
      clear e3
      go_enter Tryd.func8, Tryd.ntmps8
      go_wp2_with fail
      refine (shown8_calls _ hk).mono ?_
      rintro e w1 ⟨rfl, h1⟩
      go_wp2_with fail
      refine (root_calls A c L d hl2 hall2.out _ (hk.on h1) (Txts.below hs.out h1)).mono ?_
      rintro e w2 ⟨rfl, h2⟩
      have h12 := Below.on h2 h1
      have hk2 := (hk.on h1).on h2
      rw [hp.out]
      clear h1 h2
      go_wp2_with fail
      refine (rroot_calls A c L d hall2.out _ (Txts.below hs.out h12)).mono ?_
      rintro e w3 ⟨rfl, h3⟩
      have h13 := Below.on h3 h12
      have hk3 := hk2.on h3
      rw [hp.out]
      clear h3 h12 hk2
      go_wp2_with fail
      refine (branch_calls A c L d i hl2 hall2.out _ hk3 (Txts.below hs.out h13)).mono ?_
      rintro e w4 ⟨v4, rfl, R4, h4⟩
      have h14 := Below.on h4 h13
      clear h4 h13
      rw [hq.out] at R4
      obtain ⟨A4, c4, rfl, T4⟩ := R4.txts
      replace T4 := Lib.hid T4
      clear R4
      have hbr := rbranch_calls A c L d i hall2.out _ (Txts.below hs.out h14)
      rw [hq.out, he.out] at hbr
      rw [he.out]
      replace hbr := Lib.hid hbr
      go_wp2_with fail
      refine hbr.out.mono ?_
      rintro e w5 ⟨v5, rfl, R5, h5⟩
      have h15 := Below.on h5 h14
      have T45 := Lib.hid (Txts.below T4.out h5)
      clear h5 h14
      obtain ⟨A5, c5, rfl, T5⟩ := R5.txts
      replace T5 := Lib.hid T5
      clear R5
      go_wp2_with fail
      refine (same_calls A4 A5 c4 c5 q q hql hql _ T45.out T5.out).mono ?_
      rintro e w6 ⟨rfl, h6⟩
      have h16 := Below.on h6 h15
      have hyes : decide (q = q) = true := decide_eq_true rfl
      try rw [hyes]
      clear h6 h15
      go_wp2_with fail
      go_ret
      exact ⟨by simp, h16⟩
    · have e1 : decide (8 < d) = false := decide_eq_false h8a
      clear e3 h8
      go_enter Tryd.func8, Tryd.ntmps8
      go_wp2_with fail
      refine (shown8_calls _ hk).mono ?_
      rintro e w1 ⟨rfl, h1⟩
      go_wp2_with fail
      refine (root_calls A c L d hl2 hall2.out _ (hk.on h1) (Txts.below hs.out h1)).mono ?_
      rintro e w2 ⟨rfl, h2⟩
      have h12 := Below.on h2 h1
      have hk2 := (hk.on h1).on h2
      rw [hp.out]
      clear h1 h2
      go_wp2_with fail
      refine (rroot_calls A c L d hall2.out _ (Txts.below hs.out h12)).mono ?_
      rintro e w3 ⟨rfl, h3⟩
      have h13 := Below.on h3 h12
      have hk3 := hk2.on h3
      rw [hp.out]
      clear h3 h12 hk2
      go_wp2_with fail
      refine (branch_calls A c L d i hl2 hall2.out _ hk3 (Txts.below hs.out h13)).mono ?_
      rintro e w4 ⟨v4, rfl, R4, h4⟩
      have h14 := Below.on h4 h13
      clear h4 h13
      rw [hq.out] at R4
      obtain ⟨A4, c4, rfl, T4⟩ := R4.txts
      replace T4 := Lib.hid T4
      clear R4
      have hbr := rbranch_calls A c L d i hall2.out _ (Txts.below hs.out h14)
      rw [hq.out, he.out] at hbr
      rw [he.out]
      replace hbr := Lib.hid hbr
      go_wp2_with fail
      refine hbr.out.mono ?_
      rintro e w5 ⟨v5, rfl, R5, h5⟩
      have h15 := Below.on h5 h14
      have T45 := Lib.hid (Txts.below T4.out h5)
      clear h5 h14
      obtain ⟨A5, c5, rfl, T5⟩ := R5.txts
      replace T5 := Lib.hid T5
      clear R5
      go_wp2_with fail
      refine (same_calls A4 A5 c4 c5 q q hql hql _ T45.out T5.out).mono ?_
      rintro e w6 ⟨rfl, h6⟩
      have h16 := Below.on h6 h15
      have hyes : decide (q = q) = true := decide_eq_true rfl
      try rw [hyes]
      clear h6 h15
      go_wp2_with fail
      go_ret
      exact ⟨by simp, h16⟩
open Go.ChangeShapes Go.WideShapes Go.ChangeAt Go.Joins

set_option maxRecDepth 100000 in
theorem contract (H : Type) (enc : TypeId × Value → H) (W : World) (base : Nat) (args : Array Value) (ds gs : List (DataW H)) (before : List MemPlace)
    (hval0 : ∀ (j : Nat) t v, Tryd.f8.params[j]? = some t → args[j]? = some v → Value.okWide Tryd.prog W .any base t v)
    (hW : DataW.Whole enc Tryd.prog Tryd.f8.params.toList Rows.sszRootsSpec.vars false W args.toList ds gs before) (hsmall : Rows.uptoSmall H (ds ++ gs) = true)
    (hL : laidMetH Tryd.prog Rows.sszRootsUptoRow.laid W) :
    Calls Tryd.prog 8 args W fun e W' => ∃ v, e = .returned v ∧ Rows.sszRootsSpec.post enc Tryd.prog Tryd.f8 false true false false W args v W' := by
  have hval := hval0
  have hW' := hW
  obtain ⟨p, q, hA0, hV, rfl, hfz, hnd⟩ := hW
  have hA : DataW.TrodAll enc Tryd.prog W 0 (fun _ => true) true Tryd.f8.params.toList args.toList ds p := hA0
  rw [Tryd.params8] at hA hval
  have hAk := hA
  obtain ⟨v0, vs0, d0, ds0, p0, q0, hargs, hds0, hps0, h0, r0⟩ := trodAll_cons hA
  obtain ⟨v1, vs1, d1, ds1, p1, q1, hvs1, hds1, hps1, h1, r1⟩ := trodAll_cons r0
  subst hvs1
  obtain ⟨v2, vs2, d2, ds2, p2, q2, hvs2, hds2, hps2, h2, r2⟩ := trodAll_cons r1
  subst hvs2
  obtain ⟨hv9, hds9, hps9⟩ := trodAll_nil r2
  subst hv9
  subst hds9
  subst hds2
  subst hds1
  subst hds0
  obtain rfl : args = #[v0, v1, v2] := by cases args; simp_all
  obtain ⟨rfl, rfl⟩ := trodVars_none hV
  obtain ⟨A0, c0, xs0, rfl, hc0, hm0, hs0, hz0, hd0⟩ := openStrs (hval 0 22 v0 rfl rfl) h0
  obtain ⟨a1, rfl, hd1, hp1, wa1⟩ := openI64 (hval 1 3 v1 rfl rfl) h1
  obtain ⟨a2, rfl, hd2, hp2, wa2⟩ := openI64 (hval 2 3 v2 rfl rfl) h2
  have hb0 := bulk_slice hd0 (bulk_of hsmall (d := d0) (by simp))
  have hK := hasK_of hL
  refine (walk A0 c0 xs0 a1 a2 hb0 W hs0 hK).mono fun e W' ⟨he, hg⟩ => ?_
  subst he
  have hlt : ∀ x ∈ p, x.block < W.heap.size := fun x hx => hW'.lt x (by simp [hx])
  exact ⟨_, rfl, post_below (pa := p) (pv := []) hW' (fun _ _ _ => (trodAll_cons_mk (shut_bool Tryd.underlying4 _) trodAll_mk0)) (fun sp hsp => by have := stays_all laidOut hg (by kernel_rfl) hAk hlt sp (fun x hx => hsp x (by simp [hx])); rw [← Tryd.params8] at this; exact this) (fun _ _ => rfl) rfl hg (ok_one (by kernel_rfl) rfl (okWide_bool_mk Tryd.underlying4 _))⟩
theorem laid_met (os : Os) : laidMet Tryd.prog Rows.sszRootsUptoRow.laid ((laidWorld os).forCall (fun _ _ => 0) ⟨#[], #[.slice none 0 0, .int .i64 0, .int .i64 0], []⟩).memory :=
  laidMet_of_run' 8 (by kernel_rfl) (by kernel_rfl)
theorem reads (os : Os) {H : Type} (enc : TypeId × Value → H) : ∃ places, DataW.whole enc Tryd.prog ((laidWorld os).forCall (fun _ _ => 0) ⟨#[], #[.slice none 0 0, .int .i64 0, .int .i64 0], []⟩).memory Tryd.f8.params.toList Rows.sszRootsSpec.vars false #[.slice none 0 0, .int .i64 0, .int .i64 0].toList 8 = some ([.nil, .lit (.int .i64 0), .lit (.int .i64 0)], [], places) :=
  ⟨[], by kernel_rfl⟩
set_option maxRecDepth 100000 in
theorem lifted (os : Os) (started : os.Started) (H : Type) (enc : TypeId × Value → H) (F : Stop.Interp) :
    ReturnsInHanded {} Tryd.checked os 8 .any ((Rows.OpenSpec.upto Rows.sszRootsSpec).preRow enc Tryd.prog Tryd.f8 Rows.sszRootsUptoRow.domain false Rows.sszRootsUptoRow.laid) (((Rows.OpenSpec.upto Rows.sszRootsSpec).at F).post enc Tryd.prog Tryd.f8 false true false false) := by
  obtain ⟨places, hx⟩ := reads os enc
  refine returnsInHanded_of_row (C := Tryd.checked) (s := Rows.OpenSpec.upto Rows.sszRootsSpec) own started (by kernel_rfl) Tryd.func8
    (witness_row_at (enc := enc) (C := Tryd.checked) false (laidWorld os) #[.slice none 0 0, .int .i64 0, .int .i64 0] rfl (by kernel_rfl) (by kernel_rfl) (by kernel_rfl)
      (OpenSpec.preRow_of_cond 8 hx (by kernel_rfl) (fun k hk => by cases hk; kernel_rfl) (by kernel_rfl) (laid_met os))) ?_
  intro W base args ds gs before hval hW _ hcond hreach hL _ _
  exact contract H enc W base args ds gs before hval hW (hcond _ rfl) hL
theorem said : Rows.SszRootsUptoSaid :=
  OpenClaim.holds_of_cond 8 Tryd.f8 rfl rfl rfl rfl rfl rfl rfl ⟨rfl, rfl, rfl, rfl, rfl⟩ rfl rfl rfl rfl rfl (by kernel_rfl) Tryd.func8 (by kernel_rfl)
    (of_decide_eq_true (by kernel_rfl)) (by unfold Func.isWrapper; first | (rw [if_pos (by decide +kernel)]; kernel_rfl) | (rw [if_neg (by decide +kernel)]; exact ⟨rfl, rfl⟩))
    (fun os started H enc _ F => by rw [OpenClaim.pre_eq_preRow]; exact lifted os started H enc F)
theorem plain (f : FuncId) (fn : Func) (hf : Tryd.pinned.checked.prog.funcNamed "pharos/pharoslaw08.SszRoots" = some f) (hfn : Tryd.pinned.checked.prog.funcs[f]? = some fn) :
    false = Tryd.pinned.checked.prog.looks [] ∧ ∀ (j : Nat) t, fn.params[j]? = some t → Tryd.pinned.checked.prog.wantsStandIn t = false := by
  obtain rfl : f = 8 := Option.some.inj ((show Tryd.prog.funcNamed "pharos/pharoslaw08.SszRoots" = some 8 by kernel_rfl).symm.trans hf) |>.symm
  obtain rfl : fn = Tryd.f8 := (Option.some.inj (Tryd.func8.symm.trans hfn)).symm
  refine ⟨by kernel_rfl, fun j t ht => ?_⟩
  rw [Tryd.params8] at ht
  have hm : t ∈ [22, 3, 3] := by simpa using Array.mem_of_getElem? ht
  have hall : ∀ t ∈ [22, 3, 3], Tryd.prog.wantsStandIn t = false := by
    intro t h
    simp only [List.mem_cons, List.not_mem_nil, or_false] at h
    rcases h with rfl | rfl | rfl <;> kernel_rfl
  exact hall t hm

/-- THE STATEMENT'S CARD -/
theorem proved : Rows.SszRootsUptoCardSaid :=
  Claim7.holds_tied_plain_at .later [] _ _ _ _ said (fun _ h => by cases h) (by kernel_rfl) (fun _ h => by cases h) sszRootsUpto_row_tie rfl ⟨rfl, rfl⟩ (by kernel_rfl) rfl plain (by kernel_rfl)

end lawSszRoots
end Go.Proofs.YtpmmjomejackkaaDoor
