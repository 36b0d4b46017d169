/- A client that takes the bytes of updates holds what its rules make of them: any slot, roots, plans, slots, their bulk bounded. -/
import Derived.Test.YtobgigcdpiikaaaGreatDoorUc32
import Derived.Test.YtobgigcdpiikaaaGreatDoorUc31
import Derived.WalkKit
import Derived.ProofKit
import Derived.OpenShut
set_option linter.unusedSimpArgs false
set_option linter.unusedVariables false
namespace Go.Proofs.YtobgigcdpiikaaaGreatDoor
open BigFrame Go.RowKit Go.Phx Go.Shelf
namespace lawTopChains
open Go.ChangeShapes Go.WideShapes Go.ChangeAt Go.Joins

theorem walk (sl : Int) (h0 : 0 ≤ sl) (h1 : sl ≤ 18446744073709551615) (a r : Bytes) (A : Option Addr) (c : Nat) (L : List Pl) (An : Option Addr) (cn : Nat) (ln : List Nat) (w : World) (hP : PlsAll w A c L) (hN : NumsAll w An cn ln) (hk : HasK w) :
    Calls Tryz.prog 3 #[.int .u64 sl, .string (bs a), .string (bs r), .slice A L.length c, .slice An ln.length cn] w (Ret w (.bool true)) := by
  obtain ⟨slot, rfl⟩ : ∃ n : Nat, sl = n := ⟨sl.toNat, (Int.toNat_of_nonneg h0).symm⟩
  exact chains_walk slot (by omega) a r A c L (fun _ => trivial) An cn ln w hP hN hk

set_option maxRecDepth 100000 in
theorem contract (H : Type) (enc : TypeId × Value → H) (W : World) (base : Nat) (args : Array Value) (ds gs : List (DataW H)) (before : List MemPlace)
    (hval0 : ∀ (j : Nat) t v, Tryz.f3.params[j]? = some t → args[j]? = some v → Value.okWide Tryz.prog W .any base t v)
    (hW : DataW.Whole enc Tryz.prog Tryz.f3.params.toList Rows.topChainsSpec.vars false W args.toList ds gs before) (hsmall : Rows.uptoSmall H (ds ++ gs) = true)
    (hL : laidMetH Tryz.prog Rows.topChainsUptoRow.laid W) :
    Calls Tryz.prog 3 args W fun e W' => ∃ v, e = .returned v ∧ Rows.topChainsSpec.post enc Tryz.prog Tryz.f3 false true false false W args v W' := by
  have hval := hval0
  have hW' := hW
  obtain ⟨p, q, hA0, hV, rfl, hfz, hnd⟩ := hW
  have hA : DataW.TrodAll enc Tryz.prog W 0 (fun _ => true) true Tryz.f3.params.toList args.toList ds p := hA0
  rw [Tryz.params3] at hA hval
  have hAk := hA
  obtain ⟨v0, vs0, d0, ds0, p0, q0, hargs, hds0, hps0, h0, r0⟩ := trodAll_cons hA
  obtain ⟨v1, vs1, d1, ds1, p1, q1, hvs1, hds1, hps1, h1, r1⟩ := trodAll_cons r0
  subst hvs1
  obtain ⟨v2, vs2, d2, ds2, p2, q2, hvs2, hds2, hps2, h2, r2⟩ := trodAll_cons r1
  subst hvs2
  obtain ⟨v3, vs3, d3, ds3, p3, q3, hvs3, hds3, hps3, h3, r3⟩ := trodAll_cons r2
  subst hvs3
  obtain ⟨v4, vs4, d4, ds4, p4, q4, hvs4, hds4, hps4, h4, r4⟩ := trodAll_cons r3
  subst hvs4
  obtain ⟨hv9, hds9, hps9⟩ := trodAll_nil r4
  subst hv9
  subst hds9
  subst hds4
  subst hds3
  subst hds2
  subst hds1
  subst hds0
  obtain rfl : args = #[v0, v1, v2, v3, v4] := by cases args; simp_all
  obtain ⟨rfl, rfl⟩ := trodVars_none hV
  obtain ⟨a0, rfl, hd0, hp0, wa0⟩ := openU64 (hval 0 22 v0 rfl rfl) h0
  obtain ⟨s1, rfl, hd1, hp1, ws1⟩ := openString (hval 1 9 v1 rfl rfl) h1
  obtain ⟨s2, rfl, hd2, hp2, ws2⟩ := openString (hval 2 9 v2 rfl rfl) h2
  obtain ⟨A3, c3, l3, rfl, hs3⟩ := openPls (hval 3 23 v3 rfl rfl) h3 (bulk_of hsmall (d := d3) (by simp))
  obtain ⟨A4, c4, l4, rfl, hs4⟩ := openNums (hval 4 24 v4 rfl rfl) h4
  have hb1 := bulk_string (hd1 ▸ bulk_of hsmall (d := d1) (by simp))
  have hb2 := bulk_string (hd2 ▸ bulk_of hsmall (d := d2) (by simp))
  have hK := hasKC_of hL
  refine (walk a0 (bounds_u64 wa0).1 (bounds_u64 wa0).2 s1.data.toList s2.data.toList A3 c3 l3 A4 c4 l4 W hs3 hs4 hK).mono fun e W' ⟨he, hg⟩ => ?_
  subst he
  have hlt : ∀ x ∈ p, x.block < W.heap.size := fun x hx => hW'.lt x (by simp [hx])
  exact ⟨_, rfl, post_below (pa := p) (pv := []) hW' (fun _ _ _ => (trodAll_cons_mk (shut_bool Tryz.underlying4 _) trodAll_mk0)) (fun sp hsp => by have := stays_all laidOut hg (by kernel_rfl) hAk hlt sp (fun x hx => hsp x (by simp [hx])); rw [← Tryz.params3] at this; exact this) (fun _ _ => rfl) rfl hg (ok_one (by kernel_rfl) rfl (okWide_bool_mk Tryz.underlying4 _))⟩
theorem laid_met (os : Os) : laidMet Tryz.prog Rows.topChainsUptoRow.laid ((laidWorldC os).forCall (fun _ _ => 0) ⟨#[], #[.int .u64 0, .string ByteArray.empty, .string ByteArray.empty, .slice none 0 0, .slice none 0 0], []⟩).memory :=
  laidMet_of_run' 8 (by kernel_rfl) (by kernel_rfl)
theorem reads (os : Os) {H : Type} (enc : TypeId × Value → H) : ∃ places, DataW.whole enc Tryz.prog ((laidWorldC os).forCall (fun _ _ => 0) ⟨#[], #[.int .u64 0, .string ByteArray.empty, .string ByteArray.empty, .slice none 0 0, .slice none 0 0], []⟩).memory Tryz.f3.params.toList Rows.topChainsSpec.vars false #[.int .u64 0, .string ByteArray.empty, .string ByteArray.empty, .slice none 0 0, .slice none 0 0].toList 8 = some ([.lit (.int .u64 0), .lit (.string []), .lit (.string []), .nil, .nil], [], places) :=
  ⟨[], by kernel_rfl⟩
set_option maxRecDepth 100000 in
theorem lifted (os : Os) (started : os.Started) (H : Type) (enc : TypeId × Value → H) (F : Stop.Interp) :
    ReturnsInHanded {} Tryz.checked os 3 .any ((Rows.OpenSpec.upto Rows.topChainsSpec).preRow enc Tryz.prog Tryz.f3 Rows.topChainsUptoRow.domain false Rows.topChainsUptoRow.laid) (((Rows.OpenSpec.upto Rows.topChainsSpec).at F).post enc Tryz.prog Tryz.f3 false true false false) := by
  obtain ⟨places, hx⟩ := reads os enc
  refine returnsInHanded_of_row (C := Tryz.checked) (s := Rows.OpenSpec.upto Rows.topChainsSpec) own started (by kernel_rfl) Tryz.func3
    (witness_row_at (enc := enc) (C := Tryz.checked) false (laidWorldC os) #[.int .u64 0, .string ByteArray.empty, .string ByteArray.empty, .slice none 0 0, .slice none 0 0] rfl (by kernel_rfl) (by kernel_rfl) (by kernel_rfl)
      (OpenSpec.preRow_of_cond 8 hx (by kernel_rfl) (fun k hk => by cases hk; kernel_rfl) (by kernel_rfl) (laid_met os))) ?_
  intro W base args ds gs before hval hW _ hcond hreach hL _ _
  exact contract H enc W base args ds gs before hval hW (hcond _ rfl) hL
theorem and_mk {a b : Bool} (h : a = true) (k : b = true) : (a && b) = true := by rw [h, k]; rfl
set_option maxHeartbeats 40000000 in
theorem facts : joinedFacts Tryz.pinned.checked.prog 3 Tryz.f3 (Rows.OpenSpec.upto Rows.topChainsSpec).bare Rows.topChainsUptoRow = true := by
  unfold joinedFacts
  repeat' (with_reducible refine and_mk ?_ ?_)
  all_goals (as_aux_lemma => kernel_rfl)
theorem said : Rows.TopChainsUptoSaid :=
  OpenClaim.holds_of_cond 3 Tryz.f3 rfl rfl rfl rfl rfl rfl rfl ⟨rfl, rfl, rfl, rfl, rfl⟩ rfl rfl rfl rfl rfl (by kernel_rfl) Tryz.func3 facts
    (of_decide_eq_true (by kernel_rfl)) (by unfold Func.isWrapper; first | (rw [if_pos (by decide +kernel)]; kernel_rfl) | (rw [if_neg (by decide +kernel)]; exact ⟨rfl, rfl⟩))
    (fun os started H enc _ F => by rw [OpenClaim.pre_eq_preRow]; exact lifted os started H enc F)
theorem plain (f : FuncId) (fn : Func) (hf : Tryz.pinned.checked.prog.funcNamed "pharos/pharostop.TopChains" = some f) (hfn : Tryz.pinned.checked.prog.funcs[f]? = some fn) :
    false = Tryz.pinned.checked.prog.looks [] ∧ ∀ (j : Nat) t, fn.params[j]? = some t → Tryz.pinned.checked.prog.wantsStandIn t = false := by
  obtain rfl : f = 3 := Option.some.inj ((show Tryz.prog.funcNamed "pharos/pharostop.TopChains" = some 3 by kernel_rfl).symm.trans hf) |>.symm
  obtain rfl : fn = Tryz.f3 := (Option.some.inj (Tryz.func3.symm.trans hfn)).symm
  refine ⟨by kernel_rfl, fun j t ht => ?_⟩
  rw [Tryz.params3] at ht
  have hm : t ∈ [22, 9, 9, 23, 24] := by simpa using Array.mem_of_getElem? ht
  have hall : ∀ t ∈ [22, 9, 9, 23, 24], Tryz.prog.wantsStandIn t = false := by
    intro t h
    simp only [List.mem_cons, List.not_mem_nil, or_false] at h
    rcases h with rfl | rfl | rfl | rfl | rfl <;> kernel_rfl
  exact hall t hm

/-- THE STATEMENT'S CARD -/
theorem proved : Rows.TopChainsUptoCardSaid :=
  Claim7.holds_tied_plain_at .later [] _ _ _ _ said (fun _ h => by cases h) (by kernel_rfl) (fun _ h => by cases h) topChainsUpto_row_tie rfl ⟨rfl, rfl⟩ (by kernel_rfl) rfl plain (by kernel_rfl)

end lawTopChains
end Go.Proofs.YtobgigcdpiikaaaGreatDoor
