/- The sum of one point's bytes is these, of none that of Inf, and one that is none's makes a list none's; by the program alone: any text, texts, their bulk bounded. -/
import Derived.Test.YtpmmjomejackkaaDoorG27
import Derived.Test.YtpmmjomejackkaaDoorG26
import Derived.Test.YtpmmjomejackkaaDoorG12
import Derived.WalkKit
import Derived.ProofKit
import Derived.OpenShut
set_option linter.unusedSimpArgs false
set_option linter.unusedVariables false
namespace Go.Proofs.YtpmmjomejackkaaDoor
open BigFrame Go.RowKit Go.Phx Go.Shelf
attribute [local go_sem] Oper.semAt_some
namespace lawSignOnes

set_option maxRecDepth 100000 in
set_option maxHeartbeats 4000000 in
theorem walk (A : Option Addr) (c : Nat) (xs : List ByteArray) (s : List UInt8) (w : World) (hk : HasK w) (hs : Strs w A xs) (hc : xs.length ≤ c) (hn : xs.length ≤ 1048576) :
    Calls Tryd.prog 20 #[.string (bs s), .slice A xs.length c] w (Ret w (.bool true)) := by
  obtain ⟨L, hL⟩ : ∃ L, (xs.take 20).map (fun x => x.data.toList) = L := ⟨_, rfl⟩
  have hLl : L.length = min xs.length 20 := by rw [← hL]; simp; omega
  have hLs : Lsts w A L := hL ▸ lsts_take hs 20
  have e1 : min (xs.length : Int) 20 = (L.length : Int) := by omega
  have hyn : L.length ≤ xs.length := by omega
  have hy1 : L.length ≤ 1048576 := by omega
  have HS := Lib.hid hLs
  have hLn : L.length ≤ 20 := by omega
  have n1 : ∀ W g, Blk W g 9 #[.string (bs s)] → Calls Tryd.prog 56 #[.slice (some ⟨g, 0, none⟩) 1 1] W (Ret W (sumV (fromL s))) :=
    fun W g h => sumE_one s ▸ sSum_calls (some ⟨g, 0, none⟩) 1 [s] (by simp) W (lsts_one h)
  have n2 : ∀ W, Calls Tryd.prog 56 #[.slice none 0 0] W (Ret W (.tuple #[.string { data := #[0, 0, 0, 0, 0] }, .int .i64 0])) :=
    fun W => sSum_calls none 0 [] (by simp) W (lsts_nil _ _)
  have n3 : ∀ W A2 c2, Txts W A2 (L ++ [s]) → Calls Tryd.prog 56 #[.slice A2 (L.length + 1 : Nat) c2] W (Ret W (sumV (sumE (L ++ [s])))) :=
    fun W A2 c2 h => by
      have := sSum_calls A2 c2 (L ++ [s]) (by simp; omega) W h
      rwa [List.length_append, List.length_singleton] at this
  have e2 : (L.length : Int) + 1 = ((L.length + 1 : Nat) : Int) := by omega
  have hst := fun W (hB : Below w.heap.size w W) => start_append W w.heap.size hB.size (L.length + 1) (by omega) A c L hy1 (HS.out.below hB)
  obtain ⟨N, hN⟩ : ∃ N, L.length + 1 = N := ⟨_, rfl⟩
  rw [hN] at n3 e2 hst
  have hN2 : N ≤ 21 := by omega
  have hres : ∃ (b1 : List UInt8) (e1 : Int) (b2 : List UInt8) (e2 : Int), sumV (fromL s) = .tuple #[.string (bs b1), .int .i64 e1] ∧ sumV (sumE (L ++ [s])) = .tuple #[.string (bs b2), .int .i64 e2] ∧ (e1 = 0 ∧ b1 = s ∨ e1 = 100 ∧ b1 = [] ∧ e2 = 100) := by
    obtain ⟨b2, er, h2⟩ := sumV_is (sumE (L ++ [s]))
    cases hf : fromL s with
    | none =>
      refine ⟨[], 100, [], 100, rfl, ?_, .inr ⟨rfl, rfl, rfl⟩⟩
      unfold sumE
      rw [sumFrom_no s hf]
      rfl
    | some p => exact ⟨_, 0, b2, er, by unfold sumV; rfl, h2, .inl ⟨rfl, (back_bytes hf).2⟩⟩
  obtain ⟨b1, er1, b2, er2, hv1, hv2, hcase⟩ := hres
  rw [hv1] at n1
  rw [hv2] at n3
  replace hv1 := Lib.hid hv1
  replace hv2 := Lib.hid hv2
  replace n1 := Lib.hid n1
  replace n2 := Lib.hid n2
  replace n3 := Lib.hid n3
  replace hst := Lib.hid hst
  replace hN := Lib.hid hN
  clear hs hLs hL hLl
  cases A with
  | none =>
    go_enter Tryd.func20, Tryd.ntmps20
    go_wp2_with fail
    refine (shown12_calls _ hk).mono ?_
    rintro e w1 ⟨rfl, h1⟩
    clear hk
    go_wp2_with fail
    refine (n1.out _ _ (Blk.new0 _ _ _)).mono ?_
    rintro e w2 ⟨rfl, h2⟩
    have hB2 := Below.on h2 (h1.alloc h1.size _)
    clear h1 h2
    go_wp2_with fail
    refine (n2.out _).mono ?_
    rintro e w3 ⟨rfl, h3⟩
    have hB3 := Below.on h3 hB2
    clear h3 hB2
    obtain ⟨v5, w5, hmk, hB5, v6, w6, hap, R6, hB6⟩ := hst.out w3 hB3
    have hB7 := Below.on hB6 hB3
    have hz7 := hB7.size
    go_wp2_with (first | (at_builtin; refine wpList_append_run rfl _ _ _ _ rfl _ _ v6 rfl rfl hap ?_) | (at_builtin; refine wpList_append_txt rfl _ _ rfl w.heap.size v6 L rfl (R6.on _) s ⟨w6.heap.size, 0, none⟩ rfl (new_cell _ _ _) (by omega) (by simp; omega) ?_))
    intro v8 w8 R8 hg8 _
    have hB8 := below_app (hB7.alloc hB7.size _) (R6.on _) hg8
    obtain ⟨A8, c8, hv8, T8⟩ := LRow.txts R8
    rw [List.length_append, List.length_singleton, hN.out] at hv8
    subst hv8
    have n4 := Lib.hid (n3.out w8 A8 c8 T8)
    clear hap hmk hB5 hB6 R6 R8 hg8 T8 n3 hB3 hst
    go_wp2_with fail
    refine n4.out.mono ?_
    rintro e w9 ⟨rfl, h9⟩
    have hB9 := Below.on h9 hB8
    clear h9 hB8
    rcases hcase with ⟨rfl, rfl⟩ | ⟨rfl, rfl, rfl⟩
    · go_wp2_with fail
      go_ret
      exact ⟨by simp, hB9⟩
    · go_wp2_with fail
      go_ret
      exact ⟨by simp, hB9⟩
  | some a =>
    go_enter Tryd.func20, Tryd.ntmps20
    go_wp2_with fail
    refine (shown12_calls _ hk).mono ?_
    rintro e w1 ⟨rfl, h1⟩
    clear hk
    go_wp2_with fail
    refine (n1.out _ _ (Blk.new0 _ _ _)).mono ?_
    rintro e w2 ⟨rfl, h2⟩
    have hB2 := Below.on h2 (h1.alloc h1.size _)
    clear h1 h2
    go_wp2_with fail
    refine (n2.out _).mono ?_
    rintro e w3 ⟨rfl, h3⟩
    have hB3 := Below.on h3 hB2
    clear h3 hB2
    obtain ⟨v5, w5, hmk, hB5, v6, w6, hap, R6, hB6⟩ := hst.out w3 hB3
    have hB7 := Below.on hB6 hB3
    have hz7 := hB7.size
    go_wp2_with (first | (at_builtin; refine wpList_append_run rfl _ _ _ _ rfl _ _ v6 rfl rfl hap ?_) | (at_builtin; refine wpList_append_txt rfl _ _ rfl w.heap.size v6 L rfl (R6.on _) s ⟨w6.heap.size, 0, none⟩ rfl (new_cell _ _ _) (by omega) (by simp; omega) ?_))
    intro v8 w8 R8 hg8 _
    have hB8 := below_app (hB7.alloc hB7.size _) (R6.on _) hg8
    obtain ⟨A8, c8, hv8, T8⟩ := LRow.txts R8
    rw [List.length_append, List.length_singleton, hN.out] at hv8
    subst hv8
    have n4 := Lib.hid (n3.out w8 A8 c8 T8)
    clear hap hmk hB5 hB6 R6 R8 hg8 T8 n3 hB3 hst
    go_wp2_with fail
    refine n4.out.mono ?_
    rintro e w9 ⟨rfl, h9⟩
    have hB9 := Below.on h9 hB8
    clear h9 hB8
    rcases hcase with ⟨rfl, rfl⟩ | ⟨rfl, rfl, rfl⟩
    · go_wp2_with fail
      go_ret
      exact ⟨by simp, hB9⟩
    · go_wp2_with fail
      go_ret
      exact ⟨by simp, hB9⟩
open Go.ChangeShapes Go.WideShapes Go.ChangeAt Go.Joins

set_option maxRecDepth 100000 in
theorem contract (H : Type) (enc : TypeId × Value → H) (W : World) (base : Nat) (args : Array Value) (ds gs : List (DataW H)) (before : List MemPlace)
    (hval0 : ∀ (j : Nat) t v, Tryd.f20.params[j]? = some t → args[j]? = some v → Value.okWide Tryd.prog W .any base t v)
    (hW : DataW.Whole enc Tryd.prog Tryd.f20.params.toList Rows.signOnesSpec.vars false W args.toList ds gs before) (hsmall : Rows.uptoSmall H (ds ++ gs) = true)
    (hL : laidMetH Tryd.prog Rows.signOnesUptoRow.laid W) :
    Calls Tryd.prog 20 args W fun e W' => ∃ v, e = .returned v ∧ Rows.signOnesSpec.post enc Tryd.prog Tryd.f20 false true false false W args v W' := by
  have hval := hval0
  have hW' := hW
  obtain ⟨p, q, hA0, hV, rfl, hfz, hnd⟩ := hW
  have hA : DataW.TrodAll enc Tryd.prog W 0 (fun _ => true) true Tryd.f20.params.toList args.toList ds p := hA0
  rw [Tryd.params20] at hA hval
  have hAk := hA
  obtain ⟨v0, vs0, d0, ds0, p0, q0, hargs, hds0, hps0, h0, r0⟩ := trodAll_cons hA
  obtain ⟨v1, vs1, d1, ds1, p1, q1, hvs1, hds1, hps1, h1, r1⟩ := trodAll_cons r0
  subst hvs1
  obtain ⟨hv9, hds9, hps9⟩ := trodAll_nil r1
  subst hv9
  subst hds9
  subst hds1
  subst hds0
  obtain rfl : args = #[v0, v1] := by cases args; simp_all
  obtain ⟨rfl, rfl⟩ := trodVars_none hV
  obtain ⟨s0, rfl, hd0, hp0, ws0⟩ := openString (hval 0 9 v0 rfl rfl) h0
  obtain ⟨A1, c1, xs1, rfl, hc1, hm1, hs1, hz1, hd1⟩ := openStrs (hval 1 22 v1 rfl rfl) h1
  have hb0 := bulk_string (hd0 ▸ bulk_of hsmall (d := d0) (by simp))
  have hb1 := bulk_slice hd1 (bulk_of hsmall (d := d1) (by simp))
  have hK := hasK_of hL
  refine (walk A1 c1 xs1 s0.data.toList W hK hs1 hc1 (by omega)).mono fun e W' ⟨he, hg⟩ => ?_
  subst he
  have hlt : ∀ x ∈ p, x.block < W.heap.size := fun x hx => hW'.lt x (by simp [hx])
  exact ⟨_, rfl, post_below (pa := p) (pv := []) hW' (fun _ _ _ => (trodAll_cons_mk (shut_bool Tryd.underlying4 _) trodAll_mk0)) (fun sp hsp => by have := stays_all laidOut hg (by kernel_rfl) hAk hlt sp (fun x hx => hsp x (by simp [hx])); rw [← Tryd.params20] at this; exact this) (fun _ _ => rfl) rfl hg (ok_one (by kernel_rfl) rfl (okWide_bool_mk Tryd.underlying4 _))⟩
theorem laid_met (os : Os) : laidMet Tryd.prog Rows.signOnesUptoRow.laid ((laidWorld os).forCall (fun _ _ => 0) ⟨#[], #[.string ByteArray.empty, .slice none 0 0], []⟩).memory :=
  laidMet_of_run' 8 (by kernel_rfl) (by kernel_rfl)
theorem reads (os : Os) {H : Type} (enc : TypeId × Value → H) : ∃ places, DataW.whole enc Tryd.prog ((laidWorld os).forCall (fun _ _ => 0) ⟨#[], #[.string ByteArray.empty, .slice none 0 0], []⟩).memory Tryd.f20.params.toList Rows.signOnesSpec.vars false #[.string ByteArray.empty, .slice none 0 0].toList 8 = some ([.lit (.string []), .nil], [], places) :=
  ⟨[], by kernel_rfl⟩
set_option maxRecDepth 100000 in
theorem lifted (os : Os) (started : os.Started) (H : Type) (enc : TypeId × Value → H) (F : Stop.Interp) :
    ReturnsInHanded {} Tryd.checked os 20 .any ((Rows.OpenSpec.upto Rows.signOnesSpec).preRow enc Tryd.prog Tryd.f20 Rows.signOnesUptoRow.domain false Rows.signOnesUptoRow.laid) (((Rows.OpenSpec.upto Rows.signOnesSpec).at F).post enc Tryd.prog Tryd.f20 false true false false) := by
  obtain ⟨places, hx⟩ := reads os enc
  refine returnsInHanded_of_row (C := Tryd.checked) (s := Rows.OpenSpec.upto Rows.signOnesSpec) own started (by kernel_rfl) Tryd.func20
    (witness_row_at (enc := enc) (C := Tryd.checked) false (laidWorld os) #[.string ByteArray.empty, .slice none 0 0] rfl (by kernel_rfl) (by kernel_rfl) (by kernel_rfl)
      (OpenSpec.preRow_of_cond 8 hx (by kernel_rfl) (fun k hk => by cases hk; kernel_rfl) (by kernel_rfl) (laid_met os))) ?_
  intro W base args ds gs before hval hW _ hcond hreach hL _ _
  exact contract H enc W base args ds gs before hval hW (hcond _ rfl) hL
theorem said : Rows.SignOnesUptoSaid :=
  OpenClaim.holds_of_cond 20 Tryd.f20 rfl rfl rfl rfl rfl rfl rfl ⟨rfl, rfl, rfl, rfl, rfl⟩ rfl rfl rfl rfl rfl (by kernel_rfl) Tryd.func20 (by kernel_rfl)
    (of_decide_eq_true (by kernel_rfl)) (by unfold Func.isWrapper; first | (rw [if_pos (by decide +kernel)]; kernel_rfl) | (rw [if_neg (by decide +kernel)]; exact ⟨rfl, rfl⟩))
    (fun os started H enc _ F => by rw [OpenClaim.pre_eq_preRow]; exact lifted os started H enc F)
theorem plain (f : FuncId) (fn : Func) (hf : Tryd.pinned.checked.prog.funcNamed "pharos/pharoslaw12.SignOnes" = some f) (hfn : Tryd.pinned.checked.prog.funcs[f]? = some fn) :
    false = Tryd.pinned.checked.prog.looks [] ∧ ∀ (j : Nat) t, fn.params[j]? = some t → Tryd.pinned.checked.prog.wantsStandIn t = false := by
  obtain rfl : f = 20 := Option.some.inj ((show Tryd.prog.funcNamed "pharos/pharoslaw12.SignOnes" = some 20 by kernel_rfl).symm.trans hf) |>.symm
  obtain rfl : fn = Tryd.f20 := (Option.some.inj (Tryd.func20.symm.trans hfn)).symm
  refine ⟨by kernel_rfl, fun j t ht => ?_⟩
  rw [Tryd.params20] at ht
  have hm : t ∈ [9, 22] := by simpa using Array.mem_of_getElem? ht
  have hall : ∀ t ∈ [9, 22], Tryd.prog.wantsStandIn t = false := by
    intro t h
    simp only [List.mem_cons, List.not_mem_nil, or_false] at h
    rcases h with rfl | rfl <;> kernel_rfl
  exact hall t hm

/-- THE STATEMENT'S CARD -/
theorem proved : Rows.SignOnesUptoCardSaid :=
  Claim7.holds_tied_plain_at .later [] _ _ _ _ said (fun _ h => by cases h) (by kernel_rfl) (fun _ h => by cases h) signOnesUpto_row_tie rfl ⟨rfl, rfl⟩ (by kernel_rfl) rfl plain (by kernel_rfl)

end lawSignOnes
end Go.Proofs.YtpmmjomejackkaaDoor
