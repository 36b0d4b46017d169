/- How a text is parted makes no difference to its sum, which has 32 bytes: any text, any place. -/
import Derived.Test.YtpmmjomejackkaaDoorG26
import Derived.Test.YtpmmjomejackkaaDoorG22
import Derived.WalkKit
import Derived.ProofKit
import Derived.OpenShut
set_option linter.unusedSimpArgs false
set_option linter.unusedVariables false
namespace Go.Proofs.YtpmmjomejackkaaDoor
open BigFrame Go.RowKit Go.Phx Go.Shelf
attribute [local go_sem] Oper.semAt_some
namespace lawShaParts

theorem strs1 (w : World) (a : ByteArray) : Strs (w.alloc (.cells #[.string a] 9)) (some ⟨w.heap.size, 0, none⟩) [a] :=
  Strs.mk (by simp) fun i x hx => by
    rw [(Blk.new0 w _ _).cell, Nat.zero_add]
    match i, hx with
    | 0, hx => simp at hx; subst hx; rfl
theorem strs3 (w : World) (a b c : ByteArray) : Strs (w.alloc (.cells #[.string a, .string b, .string c] 9)) (some ⟨w.heap.size, 0, none⟩) [a, b, c] :=
  Strs.mk (by simp) fun i x hx => by
    rw [(Blk.new0 w _ _).cell, Nat.zero_add]
    match i, hx with
    | 0, hx => simp at hx; subst hx; rfl
    | 1, hx => simp at hx; subst hx; rfl
    | 2, hx => simp at hx; subst hx; rfl
theorem cat1 (a : List UInt8) : cat [bs a] = a := by simp [cat, bs]
theorem cat2 (a b : List UInt8) : cat [bs a, bs b] = a ++ b := by simp [cat, bs]
theorem cat3 (a : List UInt8) : cat [{ data := #[] }, bs a, { data := #[] }] = a := by simp [cat, bs]
theorem sumA (p s : List UInt8) (k : Nat) (hp : p.length ≤ 100000) (h : sha p = s) (g : Nat) (W : World) (hk : HasK W) (hs : Strs W (some ⟨g, 0, none⟩) [bs (p.take k), bs (p.drop k)]) :
    Calls Tryd.prog 24 #[.slice (some ⟨g, 0, none⟩) 2 2] W (Ret W (.string (bs s))) := by
  have e : cat [bs (p.take k), bs (p.drop k)] = p := by rw [cat2, List.take_append_drop]
  have := sum_calls (some ⟨g, 0, none⟩) 2 _ W hk hs (by simp) (by simp) (by rw [e]; omega)
  rw [e, h] at this
  exact this
theorem sumB (p s : List UInt8) (hp : p.length ≤ 100000) (h : sha p = s) (g : Nat) (W : World) (hk : HasK W) (hs : Strs W (some ⟨g, 0, none⟩) [{ data := #[] }, bs p, { data := #[] }]) :
    Calls Tryd.prog 24 #[.slice (some ⟨g, 0, none⟩) 3 3] W (Ret W (.string (bs s))) := by
  have := sum_calls (some ⟨g, 0, none⟩) 3 _ W hk hs (by simp) (by simp) (by rw [cat3]; omega)
  rw [cat3, h] at this
  exact this
set_option maxRecDepth 100000 in
set_option maxHeartbeats 20000000 in
theorem walk (l : List UInt8) (at' : Int) (hl : l.length ≤ 9223372036854775807) (w : World) (hk : HasK w) : Calls Tryd.prog 4 #[.string (bs l), .int .i64 at'] w (Ret w (.bool true)) := by
  obtain ⟨p, hp⟩ : ∃ p, l.take 100000 = p := ⟨_, rfl⟩
  have hpl : p.length = min l.length 100000 := by rw [← hp]; simp; omega
  have e1 : min (l.length : Int) 100000 = ((min l.length 100000 : Nat) : Int) := by omega
  obtain ⟨n, hn⟩ : ∃ n, min l.length 100000 = n := ⟨_, rfl⟩
  have hpt : l.take n = p := by rw [← hn, ← hp]; simp [List.take_eq_take_iff, Nat.min_comm]
  rw [hn] at e1 hpl
  have hn1 : n ≤ l.length := by omega
  have hn2 : n ≤ 100000 := by omega
  obtain ⟨k, hk1⟩ : ∃ k : Nat, max 0 (min at' (n : Int)) = (k : Int) := ⟨(max 0 (min at' (n : Int))).toNat, by omega⟩
  have hkn : k ≤ n := by omega
  rw [← hpl] at hk1 e1 hpt hn1 hn2 hkn
  have e3 : (0 : Int) ≤ (k : Int) := by omega
  have e4 : (k : Int) ≤ (p.length : Int) := by omega
  clear hp hn hpl
  have hsl := sha_len p
  go_enter Tryd.func4, Tryd.ntmps4
  go_wp2_with fail
  refine (shown_calls _ hk).mono ?_
  rintro e w1 ⟨rfl, h1⟩
  go_wp2_with fail
  refine (sum_calls _ _ [bs p] _ (hk.on (h1.alloc h1.size _)) (strs1 w1 _) (by simp) (by simp) (by rw [cat1]; omega)).mono ?_
  rintro e w2 ⟨rfl, h2⟩
  rw [cat1]
  have hB2 : Below w.heap.size w w2 := Below.on h2 (h1.alloc h1.size _)
  have hz2 := hB2.size
  clear h1 h2
  obtain ⟨s, hs⟩ : ∃ s, sha p = s := ⟨_, rfl⟩
  rw [hs] at hsl ⊢
  have HS := Lib.hid hs
  have HK := Lib.hid hk
  clear hs hk e1 hpt
  go_wp2_with fail
  have hz0 : w2.heap.size ≤ w2.heap.size := Nat.le_refl _
  have q3 : (0 : Int) ≤ (p.length : Int) := by omega
  have t1 : (bs p).extract 0 k = bs (p.take k) := bs_take p k
  have t2 : (bs p).extract k p.length = bs (p.drop k) := bs_drop p k
  have hpl2 : p.length ≤ 100000 := by omega
  clear hn2 hl
  have hwf : ∀ f, Fence.wide.fn f := fun _ => trivial
  refine (wpIn_wide (n := 9)).1 ?_
  refine wpIn_round_held (fun w' => Below w2.heap.size w2 w') (fun j => true) (by kernel_rfl) ?_
  have hS0 : Below w2.heap.size w2 w2.drew := (Below.refl _ _).drew
  refine S_take (fun _ => trivial) 0 (.bool true) (by kernel_rfl) rfl (by kernel_rfl) (by kernel_rfl) (by kernel_rfl) (by kernel_rfl) (onlyN_panic _ _) hS0 (by kernel_rfl) (fun w' h => by go_simp) ?_
  refine S_take (fun _ => trivial) 1 (.bool true) (by kernel_rfl) rfl (by kernel_rfl) (by kernel_rfl) (by kernel_rfl) (by kernel_rfl) (onlyN_panic _ _) hS0 (by kernel_rfl) (fun w' h => by go_simp) ?_
  refine S_take (fun _ => trivial) 2 (.string (bs s)) (by kernel_rfl) rfl (by kernel_rfl) (by kernel_rfl) (by kernel_rfl) (by kernel_rfl) (onlyN_panic _ _) hS0 (by kernel_rfl) (fun w' h => by go_simp) ?_
  refine S_take (fun _ => trivial) 3 (.int .i64 32) (by kernel_rfl) rfl (by kernel_rfl) (by kernel_rfl) (by kernel_rfl) (by kernel_rfl) (onlyN_panic _ _) hS0 (by kernel_rfl) (fun w' h => by go_simp) ?_
  refine S_take (fun _ => trivial) 4 (.bool true) (by kernel_rfl) rfl (by kernel_rfl) (by kernel_rfl) (by kernel_rfl) (by kernel_rfl) (onlyN_panic _ _) hS0 (by kernel_rfl) (fun w' h => by go_simp) ?_
  refine S_take (fun _ => trivial) 5 (.bool true) (by kernel_rfl) rfl (by kernel_rfl) (by kernel_rfl) (by kernel_rfl) (by kernel_rfl) (onlyN_panic _ _) hS0 (by kernel_rfl) (fun w' h => by go_simp) ?_
  refine S_take (fun _ => trivial) 6 (.bool true) (by kernel_rfl) rfl (by kernel_rfl) (by kernel_rfl) (by kernel_rfl) (by kernel_rfl) (onlyN_panic _ _) hS0 (by kernel_rfl) (fun w' h => by go_simp) ?_
  refine S_take (fun _ => trivial) 7 (.string (bs p)) (by kernel_rfl) rfl (by kernel_rfl) (by kernel_rfl) (by kernel_rfl) (by kernel_rfl) (onlyN_panic _ _) hS0 (by kernel_rfl) (fun w' h => by go_simp) ?_
  refine S_take (fun _ => trivial) 8 (.int .i64 k) (by kernel_rfl) rfl (by kernel_rfl) (by kernel_rfl) (by kernel_rfl) (by kernel_rfl) (onlyN_panic _ _) hS0 (by kernel_rfl) (fun w' h => by go_simp) ?_
  refine S_take (fun _ => trivial) 9 (.string (bs (p.take k))) (by kernel_rfl) rfl (by kernel_rfl) (by kernel_rfl) (by kernel_rfl) (by kernel_rfl) (onlyN_panic _ _) hS0 (by kernel_rfl) (fun w' h => by go_simp) ?_
  refine S_take (fun _ => trivial) 10 (.string (bs p)) (by kernel_rfl) rfl (by kernel_rfl) (by kernel_rfl) (by kernel_rfl) (by kernel_rfl) (onlyN_panic _ _) hS0 (by kernel_rfl) (fun w' h => by go_simp) ?_
  refine S_take (fun _ => trivial) 11 (.int .i64 k) (by kernel_rfl) rfl (by kernel_rfl) (by kernel_rfl) (by kernel_rfl) (by kernel_rfl) (onlyN_panic _ _) hS0 (by kernel_rfl) (fun w' h => by go_simp) ?_
  refine S_take (fun _ => trivial) 12 (.string (bs (p.drop k))) (by kernel_rfl) rfl (by kernel_rfl) (by kernel_rfl) (by kernel_rfl) (by kernel_rfl) (onlyN_panic _ _) hS0 (by kernel_rfl) (fun w' h => by go_simp) ?_
  refine S_take (fun _ => trivial) 15 (.string (bs s)) (by kernel_rfl) rfl (by kernel_rfl) (by kernel_rfl) (by kernel_rfl) (by kernel_rfl) (onlyN_panic _ _) hS0 (by kernel_rfl) (fun w' h => by go_simp) ?_
  refine S_one 13 (by kernel_rfl) rfl (fun K hK => ?_)
  go_simp
  have hS1 : Below w2.heap.size w2 (w2.alloc (.cells #[.string (bs (p.take k)), .string (bs (p.drop k))] 9)).drew := (by repeat (first | assumption | exact Below.refl _ _ | refine Below.setCell ?_ (by first | exact Nat.le_refl _ | (simp; done) | omega | (simp; omega)) _ | refine Below.alloc ?_ (by first | exact Nat.le_refl _ | (simp; done) | omega | (simp; omega)) _ | refine below_drewN ?_ _ | refine Below.drew ?_ | refine Below.on (by assumption) ?_ | refine Below.via (by assumption) (by first | exact Nat.le_refl _ | (simp; done) | omega | (simp; omega)) ?_))
  refine hK _ _ ⟨fun _ => hS1, ?_⟩
  clear hK K hS0
  refine S_one 14 (by kernel_rfl) rfl (fun K hK => ?_)
  go_simp
  gi_wp2_with (gi_at_call 24; refine (callsIn_wide.2 (sumA p s k hpl2 HS.out _ _ (HK.out.on (Below.on hS1 hB2)) (by exact strs2 w2 _ _))).mono ?_; rintro e w5 ⟨rfl, h5⟩)
  have hS0 : Below w2.heap.size w2 w5 := hS1.trans (h5.mono hS1.size)
  refine ⟨fun _ => hS0, ?_⟩
  clear hS1 h5
  refine S_take (fun _ => trivial) 16 (.bool true) (by kernel_rfl) rfl (by kernel_rfl) (by kernel_rfl) (by kernel_rfl) (by kernel_rfl) (onlyN_panic _ _) hS0 (by kernel_rfl) (fun w' h => by go_simp) ?_
  refine S_take (fun _ => trivial) 17 (.bool true) (by kernel_rfl) rfl (by kernel_rfl) (by kernel_rfl) (by kernel_rfl) (by kernel_rfl) (onlyN_panic _ _) hS0 (by kernel_rfl) (fun w' h => by go_simp) ?_
  refine S_take (fun _ => trivial) 18 (.bool true) (by kernel_rfl) rfl (by kernel_rfl) (by kernel_rfl) (by kernel_rfl) (by kernel_rfl) (onlyN_panic _ _) hS0 (by kernel_rfl) (fun w' h => by go_simp) ?_
  refine S_take (fun _ => trivial) 19 (.string (bs p)) (by kernel_rfl) rfl (by kernel_rfl) (by kernel_rfl) (by kernel_rfl) (by kernel_rfl) (onlyN_panic _ _) hS0 (by kernel_rfl) (fun w' h => by go_simp) ?_
  refine S_take (fun _ => trivial) 22 (.string (bs s)) (by kernel_rfl) rfl (by kernel_rfl) (by kernel_rfl) (by kernel_rfl) (by kernel_rfl) (onlyN_panic _ _) hS0 (by kernel_rfl) (fun w' h => by go_simp) ?_
  refine S_one 20 (by kernel_rfl) rfl (fun K hK => ?_)
  go_simp
  have hS1 : Below w2.heap.size w2 (w5.alloc (.cells #[.string { data := #[] }, .string (bs p), .string { data := #[] }] 9)) := hS0.alloc hS0.size _
  refine hK _ _ ⟨fun _ => hS1, ?_⟩
  clear hK K
  refine S_one 21 (by kernel_rfl) rfl (fun K hK => ?_)
  go_simp
  gi_wp2_with (gi_at_call 24; refine (callsIn_wide.2 (sumB p s hpl2 HS.out _ _ (HK.out.on (Below.on hS1 hB2)) (by exact strs3 w5 _ _ _))).mono ?_; rintro e w6 ⟨rfl, h6⟩)
  have hS2 : Below w2.heap.size w2 w6 := hS1.trans (h6.mono hS1.size)
  refine ⟨fun _ => hS2, ?_⟩
  clear hS1 h6 hS0
  have hS0 := hS2
  clear hS2
  refine S_take (fun _ => trivial) 23 (.bool true) (by kernel_rfl) rfl (by kernel_rfl) (by kernel_rfl) (by kernel_rfl) (by kernel_rfl) (onlyN_panic _ _) hS0 (by kernel_rfl) (fun w' h => by go_simp) ?_
  refine S_take (fun _ => trivial) 24 (.bool true) (by kernel_rfl) rfl (by kernel_rfl) (by kernel_rfl) (by kernel_rfl) (by kernel_rfl) (onlyN_panic _ _) hS0 (by kernel_rfl) (fun w' h => by go_simp) ?_
  refine S_take (fun _ => trivial) 25 (.bool true) (by kernel_rfl) rfl (by kernel_rfl) (by kernel_rfl) (by kernel_rfl) (by kernel_rfl) (onlyN_panic _ _) hS0 (by kernel_rfl) (fun w' h => by go_simp) ?_
  refine ⟨by kernel_rfl, rfl, ?_⟩
  go_wp2_with fail
  go_ret
  exact ⟨rfl, Below.on hS0 hB2⟩
open Go.ChangeShapes Go.WideShapes Go.ChangeAt Go.Joins

set_option maxRecDepth 100000 in
theorem contract (H : Type) (enc : TypeId × Value → H) (W : World) (base : Nat) (args : Array Value) (ds gs : List (DataW H)) (before : List MemPlace)
    (hval0 : ∀ (j : Nat) t v, Tryd.f4.params[j]? = some t → args[j]? = some v → Value.okWide Tryd.prog W .any base t v)
    (hW : DataW.Whole enc Tryd.prog Tryd.f4.params.toList Rows.shaPartsSpec.vars false W args.toList ds gs before) (hreach : (DataW.weightsEach Tryd.prog (Tryd.f4.params.toList ++ (OpenSpec.ofChange Rows.shaPartsSpec).bare.plain.varTypes Tryd.prog) (ds ++ gs)).all (· ≤ reachBytes) = true)
    (hL : laidMetH Tryd.prog Rows.shaPartsRow.laid W) :
    Calls Tryd.prog 4 args W fun e W' => ∃ v, e = .returned v ∧ Rows.shaPartsSpec.post enc Tryd.prog Tryd.f4 false true false false W args v W' := by
  have hval := hval0
  have hW' := hW
  obtain ⟨p, q, hA0, hV, rfl, hfz, hnd⟩ := hW
  have hA : DataW.TrodAll enc Tryd.prog W 0 (fun _ => true) true Tryd.f4.params.toList args.toList ds p := hA0
  rw [Tryd.params4] at hA hval
  have hAk := hA
  obtain ⟨v0, vs0, d0, ds0, p0, q0, hargs, hds0, hps0, h0, r0⟩ := trodAll_cons hA
  obtain ⟨v1, vs1, d1, ds1, p1, q1, hvs1, hds1, hps1, h1, r1⟩ := trodAll_cons r0
  subst hvs1
  obtain ⟨hv9, hds9, hps9⟩ := trodAll_nil r1
  subst hv9
  subst hds9
  subst hds1
  subst hds0
  obtain rfl : args = #[v0, v1] := by cases args; simp_all
  obtain ⟨rfl, rfl⟩ := trodVars_none hV
  obtain ⟨s0, rfl, hd0, hp0, ws0⟩ := openString (hval 0 9 v0 rfl rfl) h0
  obtain ⟨a1, rfl, hd1, hp1, wa1⟩ := openI64 (hval 1 3 v1 rfl rfl) h1
  have hK := hasK_of hL
  refine (walk s0.data.toList a1 (by have h : s0.size ≤ 9223372036854775807 := ws0; simpa using h) W hK).mono fun e W' ⟨he, hg⟩ => ?_
  subst he
  have hlt : ∀ x ∈ p, x.block < W.heap.size := fun x hx => hW'.lt x (by simp [hx])
  exact ⟨_, rfl, post_below (pa := p) (pv := []) hW' (fun _ _ _ => (trodAll_cons_mk (shut_bool Tryd.underlying4 _) trodAll_mk0)) (fun sp hsp => by have := stays_all laidOut hg (by kernel_rfl) hAk hlt sp (fun x hx => hsp x (by simp [hx])); rw [← Tryd.params4] at this; exact this) (fun _ _ => rfl) rfl hg (ok_one (by kernel_rfl) rfl (okWide_bool_mk Tryd.underlying4 _))⟩
theorem laid_met (os : Os) : laidMet Tryd.prog Rows.shaPartsRow.laid ((laidWorld os).forCall (fun _ _ => 0) ⟨#[], #[.string ByteArray.empty, .int .i64 0], []⟩).memory :=
  laidMet_of_run' 8 (by kernel_rfl) (by kernel_rfl)
theorem reads (os : Os) {H : Type} (enc : TypeId × Value → H) : ∃ places, DataW.whole enc Tryd.prog ((laidWorld os).forCall (fun _ _ => 0) ⟨#[], #[.string ByteArray.empty, .int .i64 0], []⟩).memory Tryd.f4.params.toList Rows.shaPartsSpec.vars false #[.string ByteArray.empty, .int .i64 0].toList 8 = some ([.lit (.string []), .lit (.int .i64 0)], [], places) :=
  ⟨[], by kernel_rfl⟩
set_option maxRecDepth 100000 in
theorem lifted (os : Os) (started : os.Started) (H : Type) (enc : TypeId × Value → H) (F : Stop.Interp) :
    ReturnsInHanded {} Tryd.checked os 4 .any ((OpenSpec.ofChange Rows.shaPartsSpec).preRow enc Tryd.prog Tryd.f4 Rows.shaPartsRow.domain false Rows.shaPartsRow.laid) (((OpenSpec.ofChange Rows.shaPartsSpec).at F).post enc Tryd.prog Tryd.f4 false true false false) := by
  obtain ⟨places, hx⟩ := reads os enc
  refine returnsInHanded_of_row (C := Tryd.checked) (s := OpenSpec.ofChange Rows.shaPartsSpec) own started (by kernel_rfl) Tryd.func4
    (witness_row_at (enc := enc) (C := Tryd.checked) false (laidWorld os) #[.string ByteArray.empty, .int .i64 0] rfl (by kernel_rfl) (by kernel_rfl) (by kernel_rfl)
      (OpenSpec.preRow_of_cond 8 hx (by kernel_rfl) (fun k hk => by cases hk) (by kernel_rfl) (laid_met os))) ?_
  intro W base args ds gs before hval hW _ hcond hreach hL _ _
  exact contract H enc W base args ds gs before hval hW hreach hL
theorem said : Rows.ShaPartsSaid :=
  OpenClaim.holds_of_cond 4 Tryd.f4 rfl rfl rfl rfl rfl rfl rfl ⟨rfl, rfl, rfl, rfl, rfl⟩ rfl rfl rfl rfl rfl (by kernel_rfl) Tryd.func4 (by kernel_rfl)
    (of_decide_eq_true (by kernel_rfl)) (by unfold Func.isWrapper; first | (rw [if_pos (by decide +kernel)]; kernel_rfl) | (rw [if_neg (by decide +kernel)]; exact ⟨rfl, rfl⟩))
    (fun os started H enc _ F => by rw [OpenClaim.pre_eq_preRow]; exact lifted os started H enc F)
theorem plain (f : FuncId) (fn : Func) (hf : Tryd.pinned.checked.prog.funcNamed "pharos/pharoslaw02.ShaParts" = some f) (hfn : Tryd.pinned.checked.prog.funcs[f]? = some fn) :
    false = Tryd.pinned.checked.prog.looks [] ∧ ∀ (j : Nat) t, fn.params[j]? = some t → Tryd.pinned.checked.prog.wantsStandIn t = false := by
  obtain rfl : f = 4 := Option.some.inj ((show Tryd.prog.funcNamed "pharos/pharoslaw02.ShaParts" = some 4 by kernel_rfl).symm.trans hf) |>.symm
  obtain rfl : fn = Tryd.f4 := (Option.some.inj (Tryd.func4.symm.trans hfn)).symm
  refine ⟨by kernel_rfl, fun j t ht => ?_⟩
  rw [Tryd.params4] at ht
  have hm : t ∈ [9, 3] := by simpa using Array.mem_of_getElem? ht
  have hall : ∀ t ∈ [9, 3], Tryd.prog.wantsStandIn t = false := by
    intro t h
    simp only [List.mem_cons, List.not_mem_nil, or_false] at h
    rcases h with rfl | rfl <;> kernel_rfl
  exact hall t hm

/-- THE STATEMENT'S CARD -/
theorem proved : Rows.ShaPartsCardSaid :=
  Claim7.holds_tied_plain_at .later [] _ _ _ _ said (fun _ h => by cases h) (by kernel_rfl) (fun _ h => by cases h) shaParts_row_tie rfl ⟨rfl, rfl⟩ (by kernel_rfl) rfl plain (by kernel_rfl)

end lawShaParts
end Go.Proofs.YtpmmjomejackkaaDoor
