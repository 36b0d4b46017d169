/- The sum of parts is the reference's sum of them joined: any parts whose bulk is bounded. -/
import Derived.Test.YtpmmjomejackkaaDoorShaL
import Derived.Test.YtpmmjomejackkaaDoorLaid
import Derived.WalkKit
import Derived.ProofKit
import Derived.OpenShut
set_option linter.unusedSimpArgs false
set_option linter.unusedVariables false
namespace Go.Proofs.YtpmmjomejackkaaDoor
open BigFrame Go.RowKit Go.Phx Go.Shelf
attribute [local go_sem] Oper.semAt_some
namespace lawShaSums

set_option maxRecDepth 100000 in
set_option maxHeartbeats 2000000 in
theorem walk (A : Option Addr) (c : Nat) (xs : List ByteArray) (w : World) (hk : HasK w) (hs : Strs w A xs) (hc : xs.length ≤ c) (hn : xs.length ≤ 1048576) (hlen : (cat xs).length ≤ 1048576) :
    Calls Tryd.prog 3 #[.slice A xs.length c] w (Ret w (.bool true)) := by
  obtain ⟨ys, hys⟩ : ∃ ys, xs.take 100 = ys := ⟨_, rfl⟩
  have hyl : ys.length = min xs.length 100 := by rw [← hys]; simp; omega
  have hyc : (cat ys).length ≤ 1048576 := by have := cat_take_le xs 100; rw [hys] at this; omega
  have hsy : Strs w A ys := fun h0 => by
    obtain ⟨b, o, ha, hb, hcell⟩ := hs (by omega)
    refine ⟨b, o, ha, hb, fun i x hx => hcell i x ?_⟩
    have hi := (List.getElem?_eq_some_iff.1 hx).1
    rw [← hys, List.getElem?_take_of_lt (by omega)] at hx
    exact hx
  have e1 : min (xs.length : Int) 100 = (ys.length : Int) := by omega
  have hyn : ys.length ≤ xs.length := by omega
  have hy1 : ys.length ≤ 100 := by omega
  have HS := Lib.hid hsy
  clear hs hys hyl hsy
  go_enter Tryd.func3, Tryd.ntmps3
  go_wp2_with fail
  refine (shown_calls _ hk).mono ?_
  rintro e w1 ⟨rfl, h1⟩
  go_wp2_with fail
  refine (joined_calls A c ys _ (HS.out.below h1) hy1 (by omega)).mono ?_
  rintro e w2 ⟨rfl, h2⟩
  have hB2 := Below.on h2 h1
  clear h1 h2
  by_cases hbig : 100000 < (cat ys).length
  · go_wp2_with fail
    go_ret
    exact ⟨rfl, hB2⟩
  · go_wp2_with fail
    refine (sum_calls A c ys _ (hk.on hB2) (HS.out.below hB2) (by omega) (by omega) (by omega)).mono ?_
    rintro e w3 ⟨rfl, h3⟩
    go_wp2_with fail
    refine (rsum_calls (cat ys) (by omega) _).mono ?_
    rintro e w4 ⟨rfl, h4⟩
    go_wp2_with fail
    go_ret
    exact ⟨by simp, Below.on h4 (Below.on h3 hB2)⟩
open Go.ChangeShapes Go.WideShapes Go.ChangeAt Go.Joins

set_option maxRecDepth 100000 in
theorem contract (H : Type) (enc : TypeId × Value → H) (W : World) (base : Nat) (args : Array Value) (ds gs : List (DataW H)) (before : List MemPlace)
    (hval0 : ∀ (j : Nat) t v, Tryd.f3.params[j]? = some t → args[j]? = some v → Value.okWide Tryd.prog W .any base t v)
    (hW : DataW.Whole enc Tryd.prog Tryd.f3.params.toList Rows.shaSumsSpec.vars false W args.toList ds gs before) (hsmall : Rows.uptoSmall H (ds ++ gs) = true)
    (hL : laidMetH Tryd.prog Rows.shaSumsUptoRow.laid W) :
    Calls Tryd.prog 3 args W fun e W' => ∃ v, e = .returned v ∧ Rows.shaSumsSpec.post enc Tryd.prog Tryd.f3 false true false false W args v W' := by
  have hval := hval0
  have hW' := hW
  obtain ⟨p, q, hA0, hV, rfl, hfz, hnd⟩ := hW
  have hA : DataW.TrodAll enc Tryd.prog W 0 (fun _ => true) true Tryd.f3.params.toList args.toList ds p := hA0
  rw [Tryd.params3] at hA hval
  have hAk := hA
  obtain ⟨v0, vs0, d0, ds0, p0, q0, hargs, hds0, hps0, h0, r0⟩ := trodAll_cons hA
  obtain ⟨hv9, hds9, hps9⟩ := trodAll_nil r0
  subst hv9
  subst hds9
  subst hds0
  obtain rfl : args = #[v0] := by cases args; simp_all
  obtain ⟨rfl, rfl⟩ := trodVars_none hV
  obtain ⟨A0, c0, xs0, rfl, hc0, hm0, hs0, hz0, hd0⟩ := openStrs (hval 0 22 v0 rfl rfl) h0
  have hb0 := bulk_slice hd0 (bulk_of hsmall (d := d0) (by simp))
  have hK := hasK_of hL
  refine (walk A0 c0 xs0 W hK hs0 hc0 (by omega) (show ((xs0.map fun s => s.data.toList).flatten).length ≤ 1048576 by omega)).mono fun e W' ⟨he, hg⟩ => ?_
  subst he
  have hlt : ∀ x ∈ p, x.block < W.heap.size := fun x hx => hW'.lt x (by simp [hx])
  exact ⟨_, rfl, post_below (pa := p) (pv := []) hW' (fun _ _ _ => (trodAll_cons_mk (shut_bool Tryd.underlying4 _) trodAll_mk0)) (fun sp hsp => by have := stays_all laidOut hg (by kernel_rfl) hAk hlt sp (fun x hx => hsp x (by simp [hx])); rw [← Tryd.params3] at this; exact this) (fun _ _ => rfl) rfl hg (ok_one (by kernel_rfl) rfl (okWide_bool_mk Tryd.underlying4 _))⟩
theorem laid_met (os : Os) : laidMet Tryd.prog Rows.shaSumsUptoRow.laid ((laidWorld os).forCall (fun _ _ => 0) ⟨#[], #[.slice none 0 0], []⟩).memory :=
  laidMet_of_run' 8 (by kernel_rfl) (by kernel_rfl)
theorem reads (os : Os) {H : Type} (enc : TypeId × Value → H) : ∃ places, DataW.whole enc Tryd.prog ((laidWorld os).forCall (fun _ _ => 0) ⟨#[], #[.slice none 0 0], []⟩).memory Tryd.f3.params.toList Rows.shaSumsSpec.vars false #[.slice none 0 0].toList 8 = some ([.nil], [], places) :=
  ⟨[], by kernel_rfl⟩
set_option maxRecDepth 100000 in
theorem lifted (os : Os) (started : os.Started) (H : Type) (enc : TypeId × Value → H) (F : Stop.Interp) :
    ReturnsInHanded {} Tryd.checked os 3 .any ((Rows.OpenSpec.upto Rows.shaSumsSpec).preRow enc Tryd.prog Tryd.f3 Rows.shaSumsUptoRow.domain false Rows.shaSumsUptoRow.laid) (((Rows.OpenSpec.upto Rows.shaSumsSpec).at F).post enc Tryd.prog Tryd.f3 false true false false) := by
  obtain ⟨places, hx⟩ := reads os enc
  refine returnsInHanded_of_row (C := Tryd.checked) (s := Rows.OpenSpec.upto Rows.shaSumsSpec) own started (by kernel_rfl) Tryd.func3
    (witness_row_at (enc := enc) (C := Tryd.checked) false (laidWorld os) #[.slice none 0 0] rfl (by kernel_rfl) (by kernel_rfl) (by kernel_rfl)
      (OpenSpec.preRow_of_cond 8 hx (by kernel_rfl) (fun k hk => by cases hk; kernel_rfl) (by kernel_rfl) (laid_met os))) ?_
  intro W base args ds gs before hval hW _ hcond hreach hL _ _
  exact contract H enc W base args ds gs before hval hW (hcond _ rfl) hL
theorem said : Rows.ShaSumsUptoSaid :=
  OpenClaim.holds_of_cond 3 Tryd.f3 rfl rfl rfl rfl rfl rfl rfl ⟨rfl, rfl, rfl, rfl, rfl⟩ rfl rfl rfl rfl rfl (by kernel_rfl) Tryd.func3 (by kernel_rfl)
    (of_decide_eq_true (by kernel_rfl)) (by unfold Func.isWrapper; first | (rw [if_pos (by decide +kernel)]; kernel_rfl) | (rw [if_neg (by decide +kernel)]; exact ⟨rfl, rfl⟩))
    (fun os started H enc _ F => by rw [OpenClaim.pre_eq_preRow]; exact lifted os started H enc F)
theorem plain (f : FuncId) (fn : Func) (hf : Tryd.pinned.checked.prog.funcNamed "pharos/pharoslaw02.ShaSums" = some f) (hfn : Tryd.pinned.checked.prog.funcs[f]? = some fn) :
    false = Tryd.pinned.checked.prog.looks [] ∧ ∀ (j : Nat) t, fn.params[j]? = some t → Tryd.pinned.checked.prog.wantsStandIn t = false := by
  obtain rfl : f = 3 := Option.some.inj ((show Tryd.prog.funcNamed "pharos/pharoslaw02.ShaSums" = some 3 by kernel_rfl).symm.trans hf) |>.symm
  obtain rfl : fn = Tryd.f3 := (Option.some.inj (Tryd.func3.symm.trans hfn)).symm
  refine ⟨by kernel_rfl, fun j t ht => ?_⟩
  rw [Tryd.params3] at ht
  have hm : t ∈ [22] := by simpa using Array.mem_of_getElem? ht
  have hall : ∀ t ∈ [22], Tryd.prog.wantsStandIn t = false := by
    intro t h
    simp only [List.mem_cons, List.not_mem_nil, or_false] at h
    subst h; kernel_rfl
  exact hall t hm

/-- THE STATEMENT'S CARD -/
theorem proved : Rows.ShaSumsUptoCardSaid :=
  Claim7.holds_tied_plain_at .later [] _ _ _ _ said (fun _ h => by cases h) (by kernel_rfl) (fun _ h => by cases h) shaSumsUpto_row_tie rfl ⟨rfl, rfl⟩ (by kernel_rfl) rfl plain (by kernel_rfl)

end lawShaSums
end Go.Proofs.YtpmmjomejackkaaDoor
