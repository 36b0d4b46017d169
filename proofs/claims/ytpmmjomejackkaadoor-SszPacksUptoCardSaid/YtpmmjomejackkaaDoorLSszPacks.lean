/- Bytes as chunks, a number's chunk, a root with a length, by the program and by the reference: any bytes, root, number, their bulk bounded. -/
import Derived.Test.YtpmmjomejackkaaDoorSszW
import Derived.Test.YtpmmjomejackkaaDoorSszK
import Derived.Test.YtpmmjomejackkaaDoorLaid
import Derived.WalkKit
import Derived.ProofKit
import Derived.OpenShut
set_option linter.unusedSimpArgs false
set_option linter.unusedVariables false
namespace Go.Proofs.YtpmmjomejackkaaDoor
open BigFrame Go.RowKit Go.Phx Go.Shelf
attribute [local go_sem] Oper.semAt_some
namespace lawSszPacks

theorem mixV_is (r : Bytes) (n : Nat) : ∃ (p : Bytes) (e : Int), (if r.length = 32 then Value.tuple #[.string (bs (sha (r ++ numP n))), .int .i64 0] else .tuple #[.string { data := #[] }, .int .i64 80]) = .tuple #[.string (bs p), .int .i64 e] := by
  split
  · exact ⟨_, _, rfl⟩
  · exact ⟨[], _, rfl⟩
set_option maxRecDepth 100000 in
set_option maxHeartbeats 2000000 in
theorem walk (s r : Bytes) (i : Int) (hi0 : 0 ≤ i) (hi1 : i ≤ 18446744073709551615) (hs : s.length ≤ 1048576) (hr : r.length ≤ 1048576) (w : World) (hk : HasK w) :
    Calls Tryd.prog 14 #[.string (bs s), .string (bs r), .int .u64 i] w (Ret w (.bool true)) := by
  obtain ⟨n, rfl⟩ : ∃ n : Nat, i = n := ⟨i.toNat, (Int.toNat_of_nonneg hi0).symm⟩
  have hn : n < 18446744073709551616 := by omega
  clear hi0 hi1
  obtain ⟨p, er, hp⟩ := mixV_is r n
  obtain ⟨m, hm⟩ : ∃ m, min s.length 10000 = m := ⟨_, rfl⟩
  have hmin : min (s.length : Int) 10000 = (m : Int) := by omega
  have hms : m ≤ s.length := by omega
  have hm2 : m ≤ 10000 := by omega
  obtain ⟨s2, hs2⟩ : ∃ s2, s.take m = s2 := ⟨_, rfl⟩
  have hs2l : s2.length ≤ 100000 := by rw [← hs2, List.length_take]; omega
  have htk : (bs s).extract 0 m = bs s2 := by rw [bs_take, hs2]
  replace hs2 := Lib.hid hs2
  replace hm := Lib.hid hm
  replace hp := Lib.hid hp
  go_enter Tryd.func14, Tryd.ntmps14
  go_wp2_with fail
  refine (shown8_calls _ hk).mono ?_
  rintro e w1 ⟨rfl, h1⟩
  go_wp2_with fail
  refine (mix_calls r (by omega) n hn _ (hk.on h1)).mono ?_
  rintro e w2 ⟨rfl, h2⟩
  have h12 := Below.on h2 h1
  rw [hp.out]
  clear h1 h2
  go_wp2_with fail
  refine (rmix_calls r (by omega) n hn _).mono ?_
  rintro e w3 ⟨rfl, h3⟩
  have h13 := Below.on h3 h12
  rw [hp.out]
  clear h3 h12
  go_wp2_with fail
  try simp only [htk]
  refine (pack_calls s2 hs2l _).mono ?_
  rintro e w4 ⟨v4, rfl, R4, h4⟩
  have h14 := Below.on h4 h13
  clear h4 h13
  obtain ⟨A4, c4, rfl, T4⟩ := R4.txts
  replace T4 := Lib.hid T4
  clear R4
  go_wp2_with fail
  refine (rpack_calls s2 hs2l _).mono ?_
  rintro e w5 ⟨v5, rfl, R5, h5⟩
  have h15 := Below.on h5 h14
  have T45 := Lib.hid (Txts.below T4.out h5)
  clear h5 h14
  obtain ⟨A5, c5, rfl, T5⟩ := R5.txts
  replace T5 := Lib.hid T5
  clear R5
  have hpl := packP_len s2
  have hpl2 : (packP s2).length ≤ 9223372036854775807 := by omega
  replace hpl := Lib.hid hpl
  go_wp2_with fail
  refine (same_calls A4 A5 c4 c5 (packP s2) (packP s2) hpl2 hpl2 _ T45.out T5.out).mono ?_
  rintro e w6 ⟨rfl, h6⟩
  have h16 := Below.on h6 h15
  have hyes : decide (packP s2 = packP s2) = true := decide_eq_true rfl
  try rw [hyes]
  clear h6 h15
  go_wp2_with fail
  refine (number_calls n hn _).mono ?_
  rintro e w7 ⟨rfl, h7⟩
  go_wp2_with fail
  refine (rnumber_calls n hn _).mono ?_
  rintro e w8 ⟨rfl, h8⟩
  go_wp2_with fail
  go_ret
  exact ⟨by simp, Below.on h8 (Below.on h7 h16)⟩
open Go.ChangeShapes Go.WideShapes Go.ChangeAt Go.Joins

set_option maxRecDepth 100000 in
theorem contract (H : Type) (enc : TypeId × Value → H) (W : World) (base : Nat) (args : Array Value) (ds gs : List (DataW H)) (before : List MemPlace)
    (hval0 : ∀ (j : Nat) t v, Tryd.f14.params[j]? = some t → args[j]? = some v → Value.okWide Tryd.prog W .any base t v)
    (hW : DataW.Whole enc Tryd.prog Tryd.f14.params.toList Rows.sszPacksSpec.vars false W args.toList ds gs before) (hsmall : Rows.uptoSmall H (ds ++ gs) = true)
    (hL : laidMetH Tryd.prog Rows.sszPacksUptoRow.laid W) :
    Calls Tryd.prog 14 args W fun e W' => ∃ v, e = .returned v ∧ Rows.sszPacksSpec.post enc Tryd.prog Tryd.f14 false true false false W args v W' := by
  have hval := hval0
  have hW' := hW
  obtain ⟨p, q, hA0, hV, rfl, hfz, hnd⟩ := hW
  have hA : DataW.TrodAll enc Tryd.prog W 0 (fun _ => true) true Tryd.f14.params.toList args.toList ds p := hA0
  rw [Tryd.params14] at hA hval
  have hAk := hA
  obtain ⟨v0, vs0, d0, ds0, p0, q0, hargs, hds0, hps0, h0, r0⟩ := trodAll_cons hA
  obtain ⟨v1, vs1, d1, ds1, p1, q1, hvs1, hds1, hps1, h1, r1⟩ := trodAll_cons r0
  subst hvs1
  obtain ⟨v2, vs2, d2, ds2, p2, q2, hvs2, hds2, hps2, h2, r2⟩ := trodAll_cons r1
  subst hvs2
  obtain ⟨hv9, hds9, hps9⟩ := trodAll_nil r2
  subst hv9
  subst hds9
  subst hds2
  subst hds1
  subst hds0
  obtain rfl : args = #[v0, v1, v2] := by cases args; simp_all
  obtain ⟨rfl, rfl⟩ := trodVars_none hV
  obtain ⟨s0, rfl, hd0, hp0, ws0⟩ := openString (hval 0 9 v0 rfl rfl) h0
  obtain ⟨s1, rfl, hd1, hp1, ws1⟩ := openString (hval 1 9 v1 rfl rfl) h1
  obtain ⟨a2, rfl, hd2, hp2, wa2⟩ := openU64 (hval 2 41 v2 rfl rfl) h2
  have hb0 := bulk_string (hd0 ▸ bulk_of hsmall (d := d0) (by simp))
  have hb1 := bulk_string (hd1 ▸ bulk_of hsmall (d := d1) (by simp))
  have hK := hasK_of hL
  refine (walk s0.data.toList s1.data.toList a2 (bounds_u64 wa2).1 (bounds_u64 wa2).2 (by have := hb0; simpa using this) (by have := hb1; simpa using this) W hK).mono fun e W' ⟨he, hg⟩ => ?_
  subst he
  have hlt : ∀ x ∈ p, x.block < W.heap.size := fun x hx => hW'.lt x (by simp [hx])
  exact ⟨_, rfl, post_below (pa := p) (pv := []) hW' (fun _ _ _ => (trodAll_cons_mk (shut_bool Tryd.underlying4 _) trodAll_mk0)) (fun sp hsp => by have := stays_all laidOut hg (by kernel_rfl) hAk hlt sp (fun x hx => hsp x (by simp [hx])); rw [← Tryd.params14] at this; exact this) (fun _ _ => rfl) rfl hg (ok_one (by kernel_rfl) rfl (okWide_bool_mk Tryd.underlying4 _))⟩
theorem laid_met (os : Os) : laidMet Tryd.prog Rows.sszPacksUptoRow.laid ((laidWorld os).forCall (fun _ _ => 0) ⟨#[], #[.string ByteArray.empty, .string ByteArray.empty, .int .u64 0], []⟩).memory :=
  laidMet_of_run' 8 (by kernel_rfl) (by kernel_rfl)
theorem reads (os : Os) {H : Type} (enc : TypeId × Value → H) : ∃ places, DataW.whole enc Tryd.prog ((laidWorld os).forCall (fun _ _ => 0) ⟨#[], #[.string ByteArray.empty, .string ByteArray.empty, .int .u64 0], []⟩).memory Tryd.f14.params.toList Rows.sszPacksSpec.vars false #[.string ByteArray.empty, .string ByteArray.empty, .int .u64 0].toList 8 = some ([.lit (.string []), .lit (.string []), .lit (.int .u64 0)], [], places) :=
  ⟨[], by kernel_rfl⟩
set_option maxRecDepth 100000 in
theorem lifted (os : Os) (started : os.Started) (H : Type) (enc : TypeId × Value → H) (F : Stop.Interp) :
    ReturnsInHanded {} Tryd.checked os 14 .any ((Rows.OpenSpec.upto Rows.sszPacksSpec).preRow enc Tryd.prog Tryd.f14 Rows.sszPacksUptoRow.domain false Rows.sszPacksUptoRow.laid) (((Rows.OpenSpec.upto Rows.sszPacksSpec).at F).post enc Tryd.prog Tryd.f14 false true false false) := by
  obtain ⟨places, hx⟩ := reads os enc
  refine returnsInHanded_of_row (C := Tryd.checked) (s := Rows.OpenSpec.upto Rows.sszPacksSpec) own started (by kernel_rfl) Tryd.func14
    (witness_row_at (enc := enc) (C := Tryd.checked) false (laidWorld os) #[.string ByteArray.empty, .string ByteArray.empty, .int .u64 0] rfl (by kernel_rfl) (by kernel_rfl) (by kernel_rfl)
      (OpenSpec.preRow_of_cond 8 hx (by kernel_rfl) (fun k hk => by cases hk; kernel_rfl) (by kernel_rfl) (laid_met os))) ?_
  intro W base args ds gs before hval hW _ hcond hreach hL _ _
  exact contract H enc W base args ds gs before hval hW (hcond _ rfl) hL
theorem said : Rows.SszPacksUptoSaid :=
  OpenClaim.holds_of_cond 14 Tryd.f14 rfl rfl rfl rfl rfl rfl rfl ⟨rfl, rfl, rfl, rfl, rfl⟩ rfl rfl rfl rfl rfl (by kernel_rfl) Tryd.func14 (by kernel_rfl)
    (of_decide_eq_true (by kernel_rfl)) (by unfold Func.isWrapper; first | (rw [if_pos (by decide +kernel)]; kernel_rfl) | (rw [if_neg (by decide +kernel)]; exact ⟨rfl, rfl⟩))
    (fun os started H enc _ F => by rw [OpenClaim.pre_eq_preRow]; exact lifted os started H enc F)
theorem plain (f : FuncId) (fn : Func) (hf : Tryd.pinned.checked.prog.funcNamed "pharos/pharoslaw08.SszPacks" = some f) (hfn : Tryd.pinned.checked.prog.funcs[f]? = some fn) :
    false = Tryd.pinned.checked.prog.looks [] ∧ ∀ (j : Nat) t, fn.params[j]? = some t → Tryd.pinned.checked.prog.wantsStandIn t = false := by
  obtain rfl : f = 14 := Option.some.inj ((show Tryd.prog.funcNamed "pharos/pharoslaw08.SszPacks" = some 14 by kernel_rfl).symm.trans hf) |>.symm
  obtain rfl : fn = Tryd.f14 := (Option.some.inj (Tryd.func14.symm.trans hfn)).symm
  refine ⟨by kernel_rfl, fun j t ht => ?_⟩
  rw [Tryd.params14] at ht
  have hm : t ∈ [9, 9, 41] := by simpa using Array.mem_of_getElem? ht
  have hall : ∀ t ∈ [9, 9, 41], Tryd.prog.wantsStandIn t = false := by
    intro t h
    simp only [List.mem_cons, List.not_mem_nil, or_false] at h
    rcases h with rfl | rfl | rfl <;> kernel_rfl
  exact hall t hm

/-- THE STATEMENT'S CARD -/
theorem proved : Rows.SszPacksUptoCardSaid :=
  Claim7.holds_tied_plain_at .later [] _ _ _ _ said (fun _ h => by cases h) (by kernel_rfl) (fun _ h => by cases h) sszPacksUpto_row_tie rfl ⟨rfl, rfl⟩ (by kernel_rfl) rfl plain (by kernel_rfl)

end lawSszPacks
end Go.Proofs.YtpmmjomejackkaaDoor
