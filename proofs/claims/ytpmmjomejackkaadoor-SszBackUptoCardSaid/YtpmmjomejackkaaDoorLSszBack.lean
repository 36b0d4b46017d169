/- A branch of a tree checks, of its leaf, under its root; by the program alone: any chunks, depth, place, their bulk bounded. -/
import Derived.Test.YtpmmjomejackkaaDoorSszX
import Derived.Test.YtpmmjomejackkaaDoorSszS
import Derived.Test.YtpmmjomejackkaaDoorSszU
import Derived.Test.YtpmmjomejackkaaDoorLaid
import Derived.WalkKit
import Derived.ProofKit
import Derived.OpenShut
set_option linter.unusedSimpArgs false
set_option linter.unusedVariables false
namespace Go.Proofs.YtpmmjomejackkaaDoor
open BigFrame Go.RowKit Go.Phx Go.Shelf
attribute [local go_sem] Oper.semAt_some
namespace lawSszBack

set_option maxRecDepth 100000 in
set_option maxHeartbeats 4000000 in
theorem walk (A : Option Addr) (c : Nat) (xs : List ByteArray) (d i : Int) (hb : xs.length + ((xs.map fun s => s.data.toList).flatten).length ≤ 1048576) (w : World) (hs : Strs w A xs) (hk : HasK w) :
    Calls Tryd.prog 11 #[.slice A xs.length c, .int .i64 d, .int .i64 i] w (Ret w (.bool true)) := by
  obtain ⟨L, hL1, hL2⟩ := as_lists xs
  rw [← hL2] at hb
  subst hL1
  clear hL2
  rw [List.length_map] at hb ⊢
  obtain ⟨hl, hall⟩ := in_bulk hb
  replace hs : Txts w A L := hs
  clear hb
  have hl2 : L.length ≤ 9223372036854775807 := by omega
  have hall2 := Lib.hid (show ∀ x ∈ L, x.length ≤ 9223372036854775807 from fun x hx => by have := hall x hx; omega)
  clear hall
  replace hs := Lib.hid hs
  by_cases h8 : 8 < d
  · have e1 : decide (8 < d) = true := decide_eq_true h8
    go_enter Tryd.func11, Tryd.ntmps11
    go_wp2_with fail
    refine (shown8_calls _ hk).mono ?_
    rintro e w1 ⟨rfl, h1⟩
    go_wp2_with fail
    go_ret
    exact ⟨rfl, h1⟩
  have e1 : decide (8 < d) = false := decide_eq_false h8
  by_cases hR : RightP L d
  · obtain ⟨k, rfl⟩ : ∃ k : Nat, d = k := ⟨d.toNat, (Int.toNat_of_nonneg hR.1).symm⟩
    have hroot := fun W (h : Below w.heap.size w W) => root_yes A c L k hR W (hk.on h) (Txts.below hs.out h)
    replace hroot := Lib.hid hroot
    have hL256 : L.length ≤ 256 := hR.2.2.1
    have hall32 := hR.2.2.2.2
    have hk8 : k ≤ 8 := by omega
    by_cases hi : 0 ≤ i ∧ i < ((2 ^ k : Nat) : Int)
    · obtain ⟨n, rfl⟩ : ∃ n : Nat, i = n := ⟨i.toNat, (Int.toNat_of_nonneg hi.1).symm⟩
      have hn : n < 2 ^ k := Int.ofNat_lt.1 hi.2
      have hn256 : n < 256 := Nat.lt_of_lt_of_le hn (Nat.pow_le_pow_right (by omega) hk8)
      have hbr := fun W (h : Below w.heap.size w W) => branch_yes A c L k n hR hn W (hk.on h) (Txts.below hs.out h)
      replace hbr := Lib.hid hbr
      have hbc := back_checks L k n hall32 (by omega) hn
      have hrl : (rootP L k).length = 32 := node_len L hall32 k 0
      have hbl := branchP_len L n k
      have hball := branchP_all L hall32 n k
      have hnl := node_len L hall32 0 n
      have hleaf : nodeP L 0 n = L.getD n zero32 := rfl
      have hright := Lib.hid hR
      clear hi hn hR
      generalize rootP L k = r at *
      generalize branchP L n k = q at *
      have hbA : ∀ y ∈ q, y.length ≤ 1000000000 := fun y hy => by rw [hball y hy]; decide
      replace hall32 := Lib.hid hall32
      replace hball := Lib.hid hball
      replace hbA := Lib.hid hbA
      go_enter Tryd.func11, Tryd.ntmps11
      go_wp2_with fail
      refine (shown8_calls _ hk).mono ?_
      rintro e w1 ⟨rfl, h1⟩
      go_wp2_with fail
      refine (hroot.out _ h1).mono ?_
      rintro e w2 ⟨rfl, h2⟩
      have h12 := Below.on h2 h1
      go_wp2_with fail
      refine (hbr.out _ h12).mono ?_
      rintro e w3 ⟨v3, rfl, R3, h3⟩
      have h13 := Below.on h3 h12
      have hk3 := hk.on h13
      obtain ⟨A3, c3, rfl, T3⟩ := R3.txts
      replace T3 := Lib.hid T3
      clear R3 h1 h2 h3 h12 hk
      obtain ⟨wz, vz, hmk, hcv, hBz⟩ := run_noughts 32 (by omega) w3
      simp only [show ((32 : Nat) : Int) = 32 from rfl] at hmk
      have h13z := Below.on hBz h13
      have hkz := hk3.on hBz
      have T3z := Lib.hid (Txts.below T3.out hBz)
      have hsz := Txts.below hs.out h13z
      replace hkz := Lib.hid hkz
      clear hk3 h13 hBz T3
      by_cases hlt : n < L.length
      · have hx : nodeP L 0 n = L.getD n [] := by rw [hleaf, List.getD, List.getD, List.getElem?_eq_getElem hlt]; rfl
        obtain ⟨b, o, rfl, hbb, hcell⟩ := hsz.at n hlt
        rw [hx] at hbc hnl
        have hyes : decide (CheckP (L.getD n []) q n r) = true := decide_eq_true hbc
        have hck := check_calls (L.getD n []) A3 c3 q n r (by omega) (by omega) (by omega) (by omega) hbA.out wz hkz.out T3z.out
        rw [hyes] at hck
        generalize L.getD n [] = x at *
        replace hck := Lib.hid hck
        replace hbc := Lib.hid hbc
        rw [hbl] at hck ⊢
        replace hbl := Lib.hid hbl
        replace hx := Lib.hid hx
        replace hleaf := Lib.hid hleaf
        clear hsz hyes
        go_wp2_with fail
        refine hck.out.mono ?_
        rintro e w4 ⟨rfl, h4⟩
        go_wp2_with fail
        go_ret
        exact ⟨by simp, Below.on h4 h13z⟩
      · have hx : nodeP L 0 n = zero32 := by rw [hleaf, List.getD, List.getElem?_eq_none (by omega)]; rfl
        rw [hx] at hbc hnl
        have hyes : decide (CheckP zero32 q n r) = true := decide_eq_true hbc
        have hck := check_calls zero32 A3 c3 q n r (by omega) (by omega) (by omega) (by omega) hbA.out wz hkz.out T3z.out
        rw [hyes] at hck
        have hzz : List.replicate 32 (0 : UInt8) = zero32 := rfl
        rw [hzz] at hcv
        generalize zero32 = x at *
        replace hck := Lib.hid hck
        replace hbc := Lib.hid hbc
        rw [hbl] at hck ⊢
        replace hbl := Lib.hid hbl
        replace hx := Lib.hid hx
        replace hleaf := Lib.hid hleaf
        clear hsz hyes hzz
        go_wp2_with fail
        refine hck.out.mono ?_
        rintro e w4 ⟨rfl, h4⟩
        go_wp2_with fail
        go_ret
        exact ⟨by simp, Below.on h4 h13z⟩
    · have hno : ¬ BranchOk L (k : Int) i := fun h => hi ⟨h.2.1, by have := h.2.2; rwa [Int.toNat_natCast] at this⟩
      have hbr := fun W (h : Below w.heap.size w W) => branch_calls A c L k i hl2 hall2.out W (hk.on h) (Txts.below hs.out h)
      rw [if_neg hno, if_neg hno] at hbr
      replace hbr := Lib.hid hbr
      clear hi hno hR hall32
      go_enter Tryd.func11, Tryd.ntmps11
      go_wp2_with fail
      refine (shown8_calls _ hk).mono ?_
      rintro e w1 ⟨rfl, h1⟩
      go_wp2_with fail
      refine (hroot.out _ h1).mono ?_
      rintro e w2 ⟨rfl, h2⟩
      have h12 := Below.on h2 h1
      go_wp2_with fail
      refine (hbr.out _ h12).mono ?_
      rintro e w3 ⟨v3, rfl, _, h3⟩
      go_wp2_with fail
      go_ret
      exact ⟨rfl, Below.on h3 h12⟩
  · have hno : ¬ BranchOk L d i := fun h => hR h.1
    have hbr := fun W (h : Below w.heap.size w W) => branch_calls A c L d i hl2 hall2.out W (hk.on h) (Txts.below hs.out h)
    rw [if_neg hno, if_neg hno] at hbr
    replace hbr := Lib.hid hbr
    have hroot := fun W (h : Below w.heap.size w W) => root_no A c L d hR hl2 hall2.out W (Txts.below hs.out h)
    replace hroot := Lib.hid hroot
    clear hno hR
    go_enter Tryd.func11, Tryd.ntmps11
    go_wp2_with fail
    refine (shown8_calls _ hk).mono ?_
    rintro e w1 ⟨rfl, h1⟩
    go_wp2_with fail
    refine (hroot.out _ h1).mono ?_
    rintro e w2 ⟨rfl, h2⟩
    have h12 := Below.on h2 h1
    go_wp2_with fail
    refine (hbr.out _ h12).mono ?_
    rintro e w3 ⟨v3, rfl, _, h3⟩
    go_wp2_with fail
    go_ret
    exact ⟨rfl, Below.on h3 h12⟩
open Go.ChangeShapes Go.WideShapes Go.ChangeAt Go.Joins

set_option maxRecDepth 100000 in
theorem contract (H : Type) (enc : TypeId × Value → H) (W : World) (base : Nat) (args : Array Value) (ds gs : List (DataW H)) (before : List MemPlace)
    (hval0 : ∀ (j : Nat) t v, Tryd.f11.params[j]? = some t → args[j]? = some v → Value.okWide Tryd.prog W .any base t v)
    (hW : DataW.Whole enc Tryd.prog Tryd.f11.params.toList Rows.sszBackSpec.vars false W args.toList ds gs before) (hsmall : Rows.uptoSmall H (ds ++ gs) = true)
    (hL : laidMetH Tryd.prog Rows.sszBackUptoRow.laid W) :
    Calls Tryd.prog 11 args W fun e W' => ∃ v, e = .returned v ∧ Rows.sszBackSpec.post enc Tryd.prog Tryd.f11 false true false false W args v W' := by
  have hval := hval0
  have hW' := hW
  obtain ⟨p, q, hA0, hV, rfl, hfz, hnd⟩ := hW
  have hA : DataW.TrodAll enc Tryd.prog W 0 (fun _ => true) true Tryd.f11.params.toList args.toList ds p := hA0
  rw [Tryd.params11] at hA hval
  have hAk := hA
  obtain ⟨v0, vs0, d0, ds0, p0, q0, hargs, hds0, hps0, h0, r0⟩ := trodAll_cons hA
  obtain ⟨v1, vs1, d1, ds1, p1, q1, hvs1, hds1, hps1, h1, r1⟩ := trodAll_cons r0
  subst hvs1
  obtain ⟨v2, vs2, d2, ds2, p2, q2, hvs2, hds2, hps2, h2, r2⟩ := trodAll_cons r1
  subst hvs2
  obtain ⟨hv9, hds9, hps9⟩ := trodAll_nil r2
  subst hv9
  subst hds9
  subst hds2
  subst hds1
  subst hds0
  obtain rfl : args = #[v0, v1, v2] := by cases args; simp_all
  obtain ⟨rfl, rfl⟩ := trodVars_none hV
  obtain ⟨A0, c0, xs0, rfl, hc0, hm0, hs0, hz0, hd0⟩ := openStrs (hval 0 22 v0 rfl rfl) h0
  obtain ⟨a1, rfl, hd1, hp1, wa1⟩ := openI64 (hval 1 3 v1 rfl rfl) h1
  obtain ⟨a2, rfl, hd2, hp2, wa2⟩ := openI64 (hval 2 3 v2 rfl rfl) h2
  have hb0 := bulk_slice hd0 (bulk_of hsmall (d := d0) (by simp))
  have hK := hasK_of hL
  refine (walk A0 c0 xs0 a1 a2 hb0 W hs0 hK).mono fun e W' ⟨he, hg⟩ => ?_
  subst he
  have hlt : ∀ x ∈ p, x.block < W.heap.size := fun x hx => hW'.lt x (by simp [hx])
  exact ⟨_, rfl, post_below (pa := p) (pv := []) hW' (fun _ _ _ => (trodAll_cons_mk (shut_bool Tryd.underlying4 _) trodAll_mk0)) (fun sp hsp => by have := stays_all laidOut hg (by kernel_rfl) hAk hlt sp (fun x hx => hsp x (by simp [hx])); rw [← Tryd.params11] at this; exact this) (fun _ _ => rfl) rfl hg (ok_one (by kernel_rfl) rfl (okWide_bool_mk Tryd.underlying4 _))⟩
theorem laid_met (os : Os) : laidMet Tryd.prog Rows.sszBackUptoRow.laid ((laidWorld os).forCall (fun _ _ => 0) ⟨#[], #[.slice none 0 0, .int .i64 0, .int .i64 0], []⟩).memory :=
  laidMet_of_run' 8 (by kernel_rfl) (by kernel_rfl)
theorem reads (os : Os) {H : Type} (enc : TypeId × Value → H) : ∃ places, DataW.whole enc Tryd.prog ((laidWorld os).forCall (fun _ _ => 0) ⟨#[], #[.slice none 0 0, .int .i64 0, .int .i64 0], []⟩).memory Tryd.f11.params.toList Rows.sszBackSpec.vars false #[.slice none 0 0, .int .i64 0, .int .i64 0].toList 8 = some ([.nil, .lit (.int .i64 0), .lit (.int .i64 0)], [], places) :=
  ⟨[], by kernel_rfl⟩
set_option maxRecDepth 100000 in
theorem lifted (os : Os) (started : os.Started) (H : Type) (enc : TypeId × Value → H) (F : Stop.Interp) :
    ReturnsInHanded {} Tryd.checked os 11 .any ((Rows.OpenSpec.upto Rows.sszBackSpec).preRow enc Tryd.prog Tryd.f11 Rows.sszBackUptoRow.domain false Rows.sszBackUptoRow.laid) (((Rows.OpenSpec.upto Rows.sszBackSpec).at F).post enc Tryd.prog Tryd.f11 false true false false) := by
  obtain ⟨places, hx⟩ := reads os enc
  refine returnsInHanded_of_row (C := Tryd.checked) (s := Rows.OpenSpec.upto Rows.sszBackSpec) own started (by kernel_rfl) Tryd.func11
    (witness_row_at (enc := enc) (C := Tryd.checked) false (laidWorld os) #[.slice none 0 0, .int .i64 0, .int .i64 0] rfl (by kernel_rfl) (by kernel_rfl) (by kernel_rfl)
      (OpenSpec.preRow_of_cond 8 hx (by kernel_rfl) (fun k hk => by cases hk; kernel_rfl) (by kernel_rfl) (laid_met os))) ?_
  intro W base args ds gs before hval hW _ hcond hreach hL _ _
  exact contract H enc W base args ds gs before hval hW (hcond _ rfl) hL
theorem said : Rows.SszBackUptoSaid :=
  OpenClaim.holds_of_cond 11 Tryd.f11 rfl rfl rfl rfl rfl rfl rfl ⟨rfl, rfl, rfl, rfl, rfl⟩ rfl rfl rfl rfl rfl (by kernel_rfl) Tryd.func11 (by kernel_rfl)
    (of_decide_eq_true (by kernel_rfl)) (by unfold Func.isWrapper; first | (rw [if_pos (by decide +kernel)]; kernel_rfl) | (rw [if_neg (by decide +kernel)]; exact ⟨rfl, rfl⟩))
    (fun os started H enc _ F => by rw [OpenClaim.pre_eq_preRow]; exact lifted os started H enc F)
theorem plain (f : FuncId) (fn : Func) (hf : Tryd.pinned.checked.prog.funcNamed "pharos/pharoslaw08.SszBack" = some f) (hfn : Tryd.pinned.checked.prog.funcs[f]? = some fn) :
    false = Tryd.pinned.checked.prog.looks [] ∧ ∀ (j : Nat) t, fn.params[j]? = some t → Tryd.pinned.checked.prog.wantsStandIn t = false := by
  obtain rfl : f = 11 := Option.some.inj ((show Tryd.prog.funcNamed "pharos/pharoslaw08.SszBack" = some 11 by kernel_rfl).symm.trans hf) |>.symm
  obtain rfl : fn = Tryd.f11 := (Option.some.inj (Tryd.func11.symm.trans hfn)).symm
  refine ⟨by kernel_rfl, fun j t ht => ?_⟩
  rw [Tryd.params11] at ht
  have hm : t ∈ [22, 3, 3] := by simpa using Array.mem_of_getElem? ht
  have hall : ∀ t ∈ [22, 3, 3], Tryd.prog.wantsStandIn t = false := by
    intro t h
    simp only [List.mem_cons, List.not_mem_nil, or_false] at h
    rcases h with rfl | rfl | rfl <;> kernel_rfl
  exact hall t hm

/-- THE STATEMENT'S CARD -/
theorem proved : Rows.SszBackUptoCardSaid :=
  Claim7.holds_tied_plain_at .later [] _ _ _ _ said (fun _ h => by cases h) (by kernel_rfl) (fun _ h => by cases h) sszBackUpto_row_tie rfl ⟨rfl, rfl⟩ (by kernel_rfl) rfl plain (by kernel_rfl)

end lawSszBack
end Go.Proofs.YtpmmjomejackkaaDoor
