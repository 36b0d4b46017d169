/- Digits of both texts are those of one, and of the other behind; so are bytes of digits: any texts, their bulk bounded. -/
import Derived.Test.YtpmmjomejackkaaDoorShaL
import Derived.Test.YtpmmjomejackkaaDoorUnh2
import Derived.Test.YtpmmjomejackkaaDoorLaid
import Derived.WalkKit
import Derived.ProofKit
import Derived.OpenShut
set_option linter.unusedSimpArgs false
set_option linter.unusedVariables false
namespace Go.Proofs.YtpmmjomejackkaaDoor
open BigFrame Go.RowKit Go.Phx Go.Shelf
attribute [local go_sem] Oper.semAt_some
namespace lawShaJoins

theorem unhexV_is (l : List UInt8) : ∃ (p : List UInt8) (e : Int), unhexV l = .tuple #[.string (bs p), .int .i64 e] := by
  cases h : unhexL l with
  | none => exact ⟨[], 2, unhexV_none h⟩
  | some p => exact ⟨p, 0, unhexV_some h⟩
set_option maxRecDepth 100000 in
set_option maxHeartbeats 2000000 in
theorem walk (l m : List UInt8) (hl : l.length ≤ 1048576) (hm : m.length ≤ 1048576) (w : World) (hk : HasK w) : Calls Tryd.prog 7 #[.string (bs l), .string (bs m)] w (Ret w (.bool true)) := by
  have hxl := hexL_len l
  have hxm := hexL_len m
  have happ := Lib.hid (hexL_app l m)
  have hlm : (l ++ m).length ≤ 2097152 := by simp; omega
  go_enter Tryd.func7, Tryd.ntmps7
  go_wp2_with fail
  refine (shown_calls _ hk).mono ?_
  rintro e w1 ⟨rfl, h1⟩
  go_wp2_with fail
  refine (unhex_calls l (by omega) _).mono ?_
  rintro e w2 ⟨rfl, h2⟩
  have h12 := Below.on h2 h1
  clear h1 h2
  cases hp : unhexL l with
  | none =>
    obtain ⟨q, eq, hq⟩ := unhexV_is m
    obtain ⟨r, er, hr⟩ := unhexV_is (l ++ m)
    rw [unhexV_none hp]
    clear hp
    go_wp2_with fail
    refine (unhex_calls m (by omega) _).mono ?_
    rintro e w3 ⟨rfl, h3⟩
    have h13 := Below.on h3 h12
    rw [hq]
    clear hq
    go_wp2_with fail
    refine (unhex_calls (l ++ m) (by omega) _).mono ?_
    rintro e w4 ⟨rfl, h4⟩
    rw [hr]
    clear hr
    go_wp2_with fail
    refine (hex_calls (l ++ m) (by omega) _).mono ?_
    rintro e w5 ⟨rfl, h5⟩
    rw [happ.out]
    go_wp2_with fail
    refine (hex_calls l (by omega) _).mono ?_
    rintro e w6 ⟨rfl, h6⟩
    go_wp2_with fail
    refine (hex_calls m (by omega) _).mono ?_
    rintro e w7 ⟨rfl, h7⟩
    go_wp2_with fail
    go_ret
    exact ⟨by simp, Below.on h7 (Below.on h6 (Below.on h5 (Below.on h4 h13)))⟩
  | some p =>
    rw [unhexV_some hp]
    have hpl := unhex_len (l.length / 2) l p (by omega) hp
    go_wp2_with fail
    refine (unhex_calls m (by omega) _).mono ?_
    rintro e w3 ⟨rfl, h3⟩
    have h13 := Below.on h3 h12
    cases hq : unhexL m with
    | none =>
      obtain ⟨r, er, hr⟩ := unhexV_is (l ++ m)
      rw [unhexV_none hq]
      clear hp hq
      go_wp2_with fail
      refine (unhex_calls (l ++ m) (by omega) _).mono ?_
      rintro e w4 ⟨rfl, h4⟩
      rw [hr]
      clear hr
      go_wp2_with fail
      refine (hex_calls (l ++ m) (by omega) _).mono ?_
      rintro e w5 ⟨rfl, h5⟩
      rw [happ.out]
      go_wp2_with fail
      refine (hex_calls l (by omega) _).mono ?_
      rintro e w6 ⟨rfl, h6⟩
      go_wp2_with fail
      refine (hex_calls m (by omega) _).mono ?_
      rintro e w7 ⟨rfl, h7⟩
      go_wp2_with fail
      go_ret
      exact ⟨by simp, Below.on h7 (Below.on h6 (Below.on h5 (Below.on h4 h13)))⟩
    | some q =>
      rw [unhexV_some hq]
      have hql := unhex_len (m.length / 2) m q (by omega) hq
      have hj : unhexL (l ++ m) = some (p ++ q) := by
        rw [unhexL_app p.length l m hpl.symm, hp, hq]; rfl
      have hv := unhexV_some hj
      clear hp hq hj
      go_wp2_with fail
      refine (unhex_calls (l ++ m) (by omega) _).mono ?_
      rintro e w4 ⟨rfl, h4⟩
      rw [hv]
      clear hv
      go_wp2_with fail
      refine (hex_calls (l ++ m) (by omega) _).mono ?_
      rintro e w5 ⟨rfl, h5⟩
      rw [happ.out]
      go_wp2_with fail
      refine (hex_calls l (by omega) _).mono ?_
      rintro e w6 ⟨rfl, h6⟩
      go_wp2_with fail
      refine (hex_calls m (by omega) _).mono ?_
      rintro e w7 ⟨rfl, h7⟩
      go_wp2_with fail
      go_ret
      exact ⟨by simp, Below.on h7 (Below.on h6 (Below.on h5 (Below.on h4 h13)))⟩
open Go.ChangeShapes Go.WideShapes Go.ChangeAt Go.Joins

set_option maxRecDepth 100000 in
theorem contract (H : Type) (enc : TypeId × Value → H) (W : World) (base : Nat) (args : Array Value) (ds gs : List (DataW H)) (before : List MemPlace)
    (hval0 : ∀ (j : Nat) t v, Tryd.f7.params[j]? = some t → args[j]? = some v → Value.okWide Tryd.prog W .any base t v)
    (hW : DataW.Whole enc Tryd.prog Tryd.f7.params.toList Rows.shaJoinsSpec.vars false W args.toList ds gs before) (hsmall : Rows.uptoSmall H (ds ++ gs) = true)
    (hL : laidMetH Tryd.prog Rows.shaJoinsUptoRow.laid W) :
    Calls Tryd.prog 7 args W fun e W' => ∃ v, e = .returned v ∧ Rows.shaJoinsSpec.post enc Tryd.prog Tryd.f7 false true false false W args v W' := by
  have hval := hval0
  have hW' := hW
  obtain ⟨p, q, hA0, hV, rfl, hfz, hnd⟩ := hW
  have hA : DataW.TrodAll enc Tryd.prog W 0 (fun _ => true) true Tryd.f7.params.toList args.toList ds p := hA0
  rw [Tryd.params7] at hA hval
  have hAk := hA
  obtain ⟨v0, vs0, d0, ds0, p0, q0, hargs, hds0, hps0, h0, r0⟩ := trodAll_cons hA
  obtain ⟨v1, vs1, d1, ds1, p1, q1, hvs1, hds1, hps1, h1, r1⟩ := trodAll_cons r0
  subst hvs1
  obtain ⟨hv9, hds9, hps9⟩ := trodAll_nil r1
  subst hv9
  subst hds9
  subst hds1
  subst hds0
  obtain rfl : args = #[v0, v1] := by cases args; simp_all
  obtain ⟨rfl, rfl⟩ := trodVars_none hV
  obtain ⟨s0, rfl, hd0, hp0, ws0⟩ := openString (hval 0 9 v0 rfl rfl) h0
  obtain ⟨s1, rfl, hd1, hp1, ws1⟩ := openString (hval 1 9 v1 rfl rfl) h1
  have hb0 := bulk_string (hd0 ▸ bulk_of hsmall (d := d0) (by simp))
  have hb1 := bulk_string (hd1 ▸ bulk_of hsmall (d := d1) (by simp))
  have hK := hasK_of hL
  refine (walk s0.data.toList s1.data.toList (by have := hb0; simpa using this) (by have := hb1; simpa using this) W hK).mono fun e W' ⟨he, hg⟩ => ?_
  subst he
  have hlt : ∀ x ∈ p, x.block < W.heap.size := fun x hx => hW'.lt x (by simp [hx])
  exact ⟨_, rfl, post_below (pa := p) (pv := []) hW' (fun _ _ _ => (trodAll_cons_mk (shut_bool Tryd.underlying4 _) trodAll_mk0)) (fun sp hsp => by have := stays_all laidOut hg (by kernel_rfl) hAk hlt sp (fun x hx => hsp x (by simp [hx])); rw [← Tryd.params7] at this; exact this) (fun _ _ => rfl) rfl hg (ok_one (by kernel_rfl) rfl (okWide_bool_mk Tryd.underlying4 _))⟩
theorem laid_met (os : Os) : laidMet Tryd.prog Rows.shaJoinsUptoRow.laid ((laidWorld os).forCall (fun _ _ => 0) ⟨#[], #[.string ByteArray.empty, .string ByteArray.empty], []⟩).memory :=
  laidMet_of_run' 8 (by kernel_rfl) (by kernel_rfl)
theorem reads (os : Os) {H : Type} (enc : TypeId × Value → H) : ∃ places, DataW.whole enc Tryd.prog ((laidWorld os).forCall (fun _ _ => 0) ⟨#[], #[.string ByteArray.empty, .string ByteArray.empty], []⟩).memory Tryd.f7.params.toList Rows.shaJoinsSpec.vars false #[.string ByteArray.empty, .string ByteArray.empty].toList 8 = some ([.lit (.string []), .lit (.string [])], [], places) :=
  ⟨[], by kernel_rfl⟩
set_option maxRecDepth 100000 in
theorem lifted (os : Os) (started : os.Started) (H : Type) (enc : TypeId × Value → H) (F : Stop.Interp) :
    ReturnsInHanded {} Tryd.checked os 7 .any ((Rows.OpenSpec.upto Rows.shaJoinsSpec).preRow enc Tryd.prog Tryd.f7 Rows.shaJoinsUptoRow.domain false Rows.shaJoinsUptoRow.laid) (((Rows.OpenSpec.upto Rows.shaJoinsSpec).at F).post enc Tryd.prog Tryd.f7 false true false false) := by
  obtain ⟨places, hx⟩ := reads os enc
  refine returnsInHanded_of_row (C := Tryd.checked) (s := Rows.OpenSpec.upto Rows.shaJoinsSpec) own started (by kernel_rfl) Tryd.func7
    (witness_row_at (enc := enc) (C := Tryd.checked) false (laidWorld os) #[.string ByteArray.empty, .string ByteArray.empty] rfl (by kernel_rfl) (by kernel_rfl) (by kernel_rfl)
      (OpenSpec.preRow_of_cond 8 hx (by kernel_rfl) (fun k hk => by cases hk; kernel_rfl) (by kernel_rfl) (laid_met os))) ?_
  intro W base args ds gs before hval hW _ hcond hreach hL _ _
  exact contract H enc W base args ds gs before hval hW (hcond _ rfl) hL
theorem said : Rows.ShaJoinsUptoSaid :=
  OpenClaim.holds_of_cond 7 Tryd.f7 rfl rfl rfl rfl rfl rfl rfl ⟨rfl, rfl, rfl, rfl, rfl⟩ rfl rfl rfl rfl rfl (by kernel_rfl) Tryd.func7 (by kernel_rfl)
    (of_decide_eq_true (by kernel_rfl)) (by unfold Func.isWrapper; first | (rw [if_pos (by decide +kernel)]; kernel_rfl) | (rw [if_neg (by decide +kernel)]; exact ⟨rfl, rfl⟩))
    (fun os started H enc _ F => by rw [OpenClaim.pre_eq_preRow]; exact lifted os started H enc F)
theorem plain (f : FuncId) (fn : Func) (hf : Tryd.pinned.checked.prog.funcNamed "pharos/pharoslaw02.ShaJoins" = some f) (hfn : Tryd.pinned.checked.prog.funcs[f]? = some fn) :
    false = Tryd.pinned.checked.prog.looks [] ∧ ∀ (j : Nat) t, fn.params[j]? = some t → Tryd.pinned.checked.prog.wantsStandIn t = false := by
  obtain rfl : f = 7 := Option.some.inj ((show Tryd.prog.funcNamed "pharos/pharoslaw02.ShaJoins" = some 7 by kernel_rfl).symm.trans hf) |>.symm
  obtain rfl : fn = Tryd.f7 := (Option.some.inj (Tryd.func7.symm.trans hfn)).symm
  refine ⟨by kernel_rfl, fun j t ht => ?_⟩
  rw [Tryd.params7] at ht
  have hm : t ∈ [9, 9] := by simpa using Array.mem_of_getElem? ht
  have hall : ∀ t ∈ [9, 9], Tryd.prog.wantsStandIn t = false := by
    intro t h
    simp only [List.mem_cons, List.not_mem_nil, or_false] at h
    rcases h with rfl | rfl <;> kernel_rfl
  exact hall t hm

/-- THE STATEMENT'S CARD -/
theorem proved : Rows.ShaJoinsUptoCardSaid :=
  Claim7.holds_tied_plain_at .later [] _ _ _ _ said (fun _ h => by cases h) (by kernel_rfl) (fun _ h => by cases h) shaJoinsUpto_row_tie rfl ⟨rfl, rfl⟩ (by kernel_rfl) rfl plain (by kernel_rfl)

end lawShaJoins
end Go.Proofs.YtpmmjomejackkaaDoor
