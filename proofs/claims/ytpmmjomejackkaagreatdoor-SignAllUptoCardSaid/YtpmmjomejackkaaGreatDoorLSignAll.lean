/- Whether a signature holds of many keys, by the program and by the reference: any keys, texts, their bulk bounded. -/
import Derived.Test.YtpmmjomejackkaaGreatDoorSgnQ
import Derived.Test.YtpmmjomejackkaaGreatDoorG28
import Derived.Test.YtpmmjomejackkaaGreatDoorGX
import Derived.Test.YtpmmjomejackkaaGreatDoorG26
import Derived.WalkKit
import Derived.ProofKit
import Derived.OpenShut
set_option linter.unusedSimpArgs false
set_option linter.unusedVariables false
namespace Go.Proofs.YtpmmjomejackkaaGreatDoor
open BigFrame Go.RowKit Go.Phx Go.Shelf
attribute [local go_sem] Oper.semAt_some
namespace lawSignAll

set_option maxRecDepth 100000 in
set_option maxHeartbeats 2000000 in
theorem walk (A : Option Addr) (c : Nat) (xs : List ByteArray) (t sg : List UInt8) (w : World) (hk : HasK w) (hs : Strs w A xs) (hc : xs.length ≤ c) (hn : xs.length ≤ 1048576) (ht : t.length ≤ 1048576) :
    Calls Tryz.prog 3 #[.slice A xs.length c, .string (bs t), .string (bs sg)] w (Ret w (.bool true)) := by
  obtain ⟨L, hL⟩ : ∃ L, (xs.take 40).map (fun x => x.data.toList) = L := ⟨_, rfl⟩
  have hLl : L.length = min xs.length 40 := by rw [← hL]; simp; omega
  have hLs : Lsts w A L := hL ▸ lsts_take hs 40
  have e1 : min (xs.length : Int) 40 = (L.length : Int) := by omega
  have hyn : L.length ≤ xs.length := by omega
  have hy1 : L.length ≤ 1048576 := by omega
  have HS := Lib.hid hLs
  obtain ⟨m, hm⟩ : ∃ m, min t.length 10000 = m := ⟨_, rfl⟩
  have hmin : min (t.length : Int) 10000 = (m : Int) := by omega
  have hms : m ≤ t.length := by omega
  obtain ⟨t2, ht2⟩ : ∃ t2, t.take m = t2 := ⟨_, rfl⟩
  have ht2l : t2.length ≤ 1048576 := by rw [← ht2, List.length_take]; omega
  have htk : (bs t).extract 0 m = bs t2 := by rw [bs_take, ht2]
  have n1 := fun W (hB : Below w.heap.size w W) => all_calls A c L hy1 t2 sg ht2l W (hk.on hB) (HS.out.below hB)
  have n2 := fun W (hB : Below w.heap.size w W) => rall_calls A c L hy1 t2 sg ht2l W (HS.out.below hB)
  generalize allB L t2 sg = r at *
  replace n1 := Lib.hid n1
  replace n2 := Lib.hid n2
  replace ht2 := Lib.hid ht2
  replace hm := Lib.hid hm
  clear hs hLs hL hLl
  go_enter Tryz.func3, Tryz.ntmps3
  go_wp2_with fail
  refine (shown12_calls _ hk).mono ?_
  rintro e w1 ⟨rfl, h1⟩
  clear hk
  go_wp2_with fail
  try simp only [htk]
  refine (n1.out _ h1).mono ?_
  rintro e w2 ⟨rfl, h2⟩
  have hB2 := Below.on h2 h1
  clear h1 h2
  go_wp2_with fail
  try simp only [htk]
  refine (n2.out _ hB2).mono ?_
  rintro e w3 ⟨rfl, h3⟩
  go_wp2_with fail
  go_ret
  exact ⟨by simp, Below.on h3 hB2⟩
open Go.ChangeShapes Go.WideShapes Go.ChangeAt Go.Joins

set_option maxRecDepth 100000 in
theorem contract (H : Type) (enc : TypeId × Value → H) (W : World) (base : Nat) (args : Array Value) (ds gs : List (DataW H)) (before : List MemPlace)
    (hval0 : ∀ (j : Nat) t v, Tryz.f3.params[j]? = some t → args[j]? = some v → Value.okWide Tryz.prog W .any base t v)
    (hW : DataW.Whole enc Tryz.prog Tryz.f3.params.toList Rows.signAllSpec.vars false W args.toList ds gs before) (hsmall : Rows.uptoSmall H (ds ++ gs) = true)
    (hL : laidMetH Tryz.prog Rows.signAllUptoRow.laid W) :
    Calls Tryz.prog 3 args W fun e W' => ∃ v, e = .returned v ∧ Rows.signAllSpec.post enc Tryz.prog Tryz.f3 false true false false W args v W' := by
  have hval := hval0
  have hW' := hW
  obtain ⟨p, q, hA0, hV, rfl, hfz, hnd⟩ := hW
  have hA : DataW.TrodAll enc Tryz.prog W 0 (fun _ => true) true Tryz.f3.params.toList args.toList ds p := hA0
  rw [Tryz.params3] at hA hval
  have hAk := hA
  obtain ⟨v0, vs0, d0, ds0, p0, q0, hargs, hds0, hps0, h0, r0⟩ := trodAll_cons hA
  obtain ⟨v1, vs1, d1, ds1, p1, q1, hvs1, hds1, hps1, h1, r1⟩ := trodAll_cons r0
  subst hvs1
  obtain ⟨v2, vs2, d2, ds2, p2, q2, hvs2, hds2, hps2, h2, r2⟩ := trodAll_cons r1
  subst hvs2
  obtain ⟨hv9, hds9, hps9⟩ := trodAll_nil r2
  subst hv9
  subst hds9
  subst hds2
  subst hds1
  subst hds0
  obtain rfl : args = #[v0, v1, v2] := by cases args; simp_all
  obtain ⟨rfl, rfl⟩ := trodVars_none hV
  obtain ⟨A0, c0, xs0, rfl, hc0, hm0, hs0, hz0, hd0⟩ := openStrs (hval 0 22 v0 rfl rfl) h0
  obtain ⟨s1, rfl, hd1, hp1, ws1⟩ := openString (hval 1 9 v1 rfl rfl) h1
  obtain ⟨s2, rfl, hd2, hp2, ws2⟩ := openString (hval 2 9 v2 rfl rfl) h2
  have hb0 := bulk_slice hd0 (bulk_of hsmall (d := d0) (by simp))
  have hb1 := bulk_string (hd1 ▸ bulk_of hsmall (d := d1) (by simp))
  have hb2 := bulk_string (hd2 ▸ bulk_of hsmall (d := d2) (by simp))
  have hK := hasK_of hL
  refine (walk A0 c0 xs0 s1.data.toList s2.data.toList W hK hs0 hc0 (by omega) (by have := hb1; simpa using this)).mono fun e W' ⟨he, hg⟩ => ?_
  subst he
  have hlt : ∀ x ∈ p, x.block < W.heap.size := fun x hx => hW'.lt x (by simp [hx])
  exact ⟨_, rfl, post_below (pa := p) (pv := []) hW' (fun _ _ _ => (trodAll_cons_mk (shut_bool Tryz.underlying4 _) trodAll_mk0)) (fun sp hsp => by have := stays_all laidOut hg (by kernel_rfl) hAk hlt sp (fun x hx => hsp x (by simp [hx])); rw [← Tryz.params3] at this; exact this) (fun _ _ => rfl) rfl hg (ok_one (by kernel_rfl) rfl (okWide_bool_mk Tryz.underlying4 _))⟩
theorem laid_met (os : Os) : laidMet Tryz.prog Rows.signAllUptoRow.laid ((laidWorld os).forCall (fun _ _ => 0) ⟨#[], #[.slice none 0 0, .string ByteArray.empty, .string ByteArray.empty], []⟩).memory :=
  laidMet_of_run' 8 (by kernel_rfl) (by kernel_rfl)
theorem reads (os : Os) {H : Type} (enc : TypeId × Value → H) : ∃ places, DataW.whole enc Tryz.prog ((laidWorld os).forCall (fun _ _ => 0) ⟨#[], #[.slice none 0 0, .string ByteArray.empty, .string ByteArray.empty], []⟩).memory Tryz.f3.params.toList Rows.signAllSpec.vars false #[.slice none 0 0, .string ByteArray.empty, .string ByteArray.empty].toList 8 = some ([.nil, .lit (.string []), .lit (.string [])], [], places) :=
  ⟨[], by kernel_rfl⟩
set_option maxRecDepth 100000 in
theorem lifted (os : Os) (started : os.Started) (H : Type) (enc : TypeId × Value → H) (F : Stop.Interp) :
    ReturnsInHanded {} Tryz.checked os 3 .any ((Rows.OpenSpec.upto Rows.signAllSpec).preRow enc Tryz.prog Tryz.f3 Rows.signAllUptoRow.domain false Rows.signAllUptoRow.laid) (((Rows.OpenSpec.upto Rows.signAllSpec).at F).post enc Tryz.prog Tryz.f3 false true false false) := by
  obtain ⟨places, hx⟩ := reads os enc
  refine returnsInHanded_of_row (C := Tryz.checked) (s := Rows.OpenSpec.upto Rows.signAllSpec) own started (by kernel_rfl) Tryz.func3
    (witness_row_at (enc := enc) (C := Tryz.checked) false (laidWorld os) #[.slice none 0 0, .string ByteArray.empty, .string ByteArray.empty] rfl (by kernel_rfl) (by kernel_rfl) (by kernel_rfl)
      (OpenSpec.preRow_of_cond 8 hx (by kernel_rfl) (fun k hk => by cases hk; kernel_rfl) (by kernel_rfl) (laid_met os))) ?_
  intro W base args ds gs before hval hW _ hcond hreach hL _ _
  exact contract H enc W base args ds gs before hval hW (hcond _ rfl) hL
theorem said : Rows.SignAllUptoSaid :=
  OpenClaim.holds_of_cond 3 Tryz.f3 rfl rfl rfl rfl rfl rfl rfl ⟨rfl, rfl, rfl, rfl, rfl⟩ rfl rfl rfl rfl rfl (by kernel_rfl) Tryz.func3 (by kernel_rfl)
    (of_decide_eq_true (by kernel_rfl)) (by unfold Func.isWrapper; first | (rw [if_pos (by decide +kernel)]; kernel_rfl) | (rw [if_neg (by decide +kernel)]; exact ⟨rfl, rfl⟩))
    (fun os started H enc _ F => by rw [OpenClaim.pre_eq_preRow]; exact lifted os started H enc F)
theorem plain (f : FuncId) (fn : Func) (hf : Tryz.pinned.checked.prog.funcNamed "pharos/pharoslaw12.SignAll" = some f) (hfn : Tryz.pinned.checked.prog.funcs[f]? = some fn) :
    false = Tryz.pinned.checked.prog.looks [] ∧ ∀ (j : Nat) t, fn.params[j]? = some t → Tryz.pinned.checked.prog.wantsStandIn t = false := by
  obtain rfl : f = 3 := Option.some.inj ((show Tryz.prog.funcNamed "pharos/pharoslaw12.SignAll" = some 3 by kernel_rfl).symm.trans hf) |>.symm
  obtain rfl : fn = Tryz.f3 := (Option.some.inj (Tryz.func3.symm.trans hfn)).symm
  refine ⟨by kernel_rfl, fun j t ht => ?_⟩
  rw [Tryz.params3] at ht
  have hm : t ∈ [22, 9, 9] := by simpa using Array.mem_of_getElem? ht
  have hall : ∀ t ∈ [22, 9, 9], Tryz.prog.wantsStandIn t = false := by
    intro t h
    simp only [List.mem_cons, List.not_mem_nil, or_false] at h
    rcases h with rfl | rfl | rfl <;> kernel_rfl
  exact hall t hm

/-- THE STATEMENT'S CARD -/
theorem proved : Rows.SignAllUptoCardSaid :=
  Claim7.holds_tied_plain_at .later [] _ _ _ _ said (fun _ h => by cases h) (by kernel_rfl) (fun _ h => by cases h) signAllUpto_row_tie rfl ⟨rfl, rfl⟩ (by kernel_rfl) rfl plain (by kernel_rfl)

end lawSignAll
end Go.Proofs.YtpmmjomejackkaaGreatDoor
