/- Which depths there are, and how many chunks they hold: any depth, how many. -/
import Derived.Test.YtpmmjomejackkaaDoorSszX
import Derived.Test.YtpmmjomejackkaaDoorSszS
import Derived.Test.YtpmmjomejackkaaDoorSszU
import Derived.Test.YtpmmjomejackkaaDoorLaid
import Derived.WalkKit
import Derived.ProofKit
import Derived.OpenShut
set_option linter.unusedSimpArgs false
set_option linter.unusedVariables false
namespace Go.Proofs.YtpmmjomejackkaaDoor
open BigFrame Go.RowKit Go.Phx Go.Shelf
attribute [local go_sem] Oper.semAt_some
namespace lawSszDepths

set_option maxRecDepth 100000 in
set_option maxHeartbeats 4000000 in
theorem walk (d i : Int) (w : World) (hk : HasK w) : Calls Tryd.prog 9 #[.int .i64 d, .int .i64 i] w (Ret w (.bool true)) := by
  by_cases hi : i < 0
  · have e1 : decide (i < 0) = true := decide_eq_true hi
    go_enter Tryd.func9, Tryd.ntmps9
    go_wp2_with fail
    refine (shown8_calls _ hk).mono ?_
    rintro e w1 ⟨rfl, h1⟩
    go_wp2_with fail
    go_ret
    exact ⟨rfl, h1⟩
  have e1 : decide (i < 0) = false := decide_eq_false hi
  by_cases hi3 : 300 < i
  · have e2 : decide (300 < i) = true := decide_eq_true hi3
    go_enter Tryd.func9, Tryd.ntmps9
    go_wp2_with fail
    refine (shown8_calls _ hk).mono ?_
    rintro e w1 ⟨rfl, h1⟩
    go_wp2_with fail
    go_ret
    exact ⟨rfl, h1⟩
  have e2 : decide (300 < i) = false := decide_eq_false hi3
  obtain ⟨m, rfl⟩ : ∃ m : Nat, i = m := ⟨i.toNat, (Int.toNat_of_nonneg (by omega)).symm⟩
  have hm : m ≤ 300 := by omega
  obtain ⟨k, hkm⟩ : ∃ k, 32 * m = k := ⟨_, rfl⟩
  have hkm2 : (32 : Int) * (m : Int) = (k : Int) := by omega
  have hk9 : k ≤ 9600 := by omega
  obtain ⟨L, hL⟩ : ∃ L, List.replicate m zero32 = L := ⟨_, rfl⟩
  have hpk : packP (List.replicate k 0) = L := by rw [pack_zeros, ← hL]; congr 1; omega
  have hLm : L.length = m := by rw [← hL, List.length_replicate]
  have hall32 : ∀ x ∈ L, x.length = 32 := fun x hx => by rw [← hL] at hx; rw [List.eq_of_mem_replicate hx]; rfl
  have hall : ∀ x ∈ L, x.length ≤ 9223372036854775807 := fun x hx => by rw [hall32 x hx]; decide
  have hright : RightP L d ↔ 0 ≤ d ∧ d ≤ 10 ∧ m ≤ 256 ∧ m ≤ 2 ^ d.toNat := by
    unfold RightP
    rw [hLm]
    exact ⟨fun h => ⟨h.1, h.2.1, h.2.2.1, h.2.2.2.1⟩, fun h => ⟨h.1, h.2.1, h.2.2.1, h.2.2.2, hall32⟩⟩
  replace hL := Lib.hid hL
  replace hkm := Lib.hid hkm
  clear hi hi3 hall32
  by_cases hR : RightP L d
  · obtain ⟨d0, d1, m1, m2⟩ := hright.1 hR
    have hrv : rootV L d = .tuple #[.string (bs (rootP L d.toNat)), .int .i64 0] := by unfold rootV; rw [if_pos hR]
    generalize rootP L d.toNat = p at *
    obtain ⟨n, rfl⟩ : ∃ n : Nat, d = n := ⟨d.toNat, (Int.toNat_of_nonneg d0).symm⟩
    rw [Int.toNat_natCast] at m2
    have f1 : decide ((0 : Int) ≤ (n : Int)) = true := decide_eq_true d0
    have f2 : decide ((n : Int) ≤ 10) = true := decide_eq_true d1
    have f3 : decide ((m : Int) ≤ 256) = true := decide_eq_true (by omega)
    have f3' : m ≤ 256 := m1
    have f4' : n ≤ 10 := by omega
    clear hR hright
    by_cases h8 : 8 < n
    · have f4 : decide ((8 : Int) < (n : Int)) = true := decide_eq_true (by omega)
      have f5 : 8 < n := h8
      replace m2 := Lib.hid m2
      go_enter Tryd.func9, Tryd.ntmps9
      go_wp2_with fail
      refine (shown8_calls _ hk).mono ?_
      rintro e w1 ⟨rfl, h1⟩
      obtain ⟨wa, va, hmk, hcv, hBa⟩ := run_noughts k (by omega) w1
      go_wp2_with fail
      refine (pack_calls (List.replicate k 0) (by rw [List.length_replicate]; omega) _).mono ?_
      rintro e w2 ⟨v2, rfl, R2, h2⟩
      rw [hpk] at R2
      have h12 := Below.on h2 (Below.on hBa h1)
      have hk2 := hk.on h12
      obtain ⟨A2, c2, rfl, T2⟩ := R2.txts
      have hroot := root_calls A2 c2 L (n:Int) (by omega) hall _ hk2 T2
      rw [hrv] at hroot
      rw [hLm]
      rw [hLm] at hroot
      replace hroot := Lib.hid hroot
      clear R2 T2 h1 h2 hBa hmk hcv hk
      go_wp2_with fail
      refine hroot.out.mono ?_
      rintro e w3 ⟨rfl, h3⟩
      go_wp2_with fail
      go_ret
      exact ⟨by simp, Below.on h3 h12⟩
    · have f4 : decide ((8 : Int) < (n : Int)) = false := decide_eq_false (by omega)
      have hw2 := pow_wrap n (by omega)
      obtain ⟨N, hN⟩ : ∃ N, 2 ^ n = N := ⟨_, rfl⟩
      rw [hN] at hw2 m2
      have f6 : decide ((m : Int) ≤ (N : Int)) = true := decide_eq_true (by omega)
      have f7 : decide (m ≤ N) = true := decide_eq_true (by omega)
      replace hN := Lib.hid hN
      go_enter Tryd.func9, Tryd.ntmps9
      go_wp2_with fail
      refine (shown8_calls _ hk).mono ?_
      rintro e w1 ⟨rfl, h1⟩
      obtain ⟨wa, va, hmk, hcv, hBa⟩ := run_noughts k (by omega) w1
      go_wp2_with fail
      refine (pack_calls (List.replicate k 0) (by rw [List.length_replicate]; omega) _).mono ?_
      rintro e w2 ⟨v2, rfl, R2, h2⟩
      rw [hpk] at R2
      have h12 := Below.on h2 (Below.on hBa h1)
      have hk2 := hk.on h12
      obtain ⟨A2, c2, rfl, T2⟩ := R2.txts
      have hroot := root_calls A2 c2 L (n:Int) (by omega) hall _ hk2 T2
      rw [hrv] at hroot
      rw [hLm]
      rw [hLm] at hroot
      replace hroot := Lib.hid hroot
      clear R2 T2 h1 h2 hBa hmk hcv hk
      go_wp2_with fail
      refine hroot.out.mono ?_
      rintro e w3 ⟨rfl, h3⟩
      go_wp2_with fail
      go_ret
      exact ⟨by simp, Below.on h3 h12⟩
  · have hrv : rootV L d = .tuple #[.string { data := #[] }, .int .i64 80] := by unfold rootV; rw [if_neg hR]
    have hno : ¬ (0 ≤ d ∧ d ≤ 10 ∧ m ≤ 256 ∧ m ≤ 2 ^ d.toNat) := fun h => hR (hright.2 h)
    clear hR hright
    by_cases d0 : 0 ≤ d
    · have f1 : decide (0 ≤ d) = true := decide_eq_true d0
      by_cases d1 : d ≤ 10
      · have f2 : decide (d ≤ 10) = true := decide_eq_true d1
        by_cases m1 : m ≤ 256
        · have f3 : decide ((m : Int) ≤ 256) = true := decide_eq_true (by omega)
          have f3' : decide (m ≤ 256) = true := decide_eq_true m1
          have m2 : ¬ m ≤ 2 ^ d.toNat := fun h => hno ⟨d0, d1, m1, h⟩
          clear hno
          obtain ⟨n, rfl⟩ : ∃ n : Nat, d = n := ⟨d.toNat, (Int.toNat_of_nonneg d0).symm⟩
          rw [Int.toNat_natCast] at m2
          have h8 : ¬ 8 < n := fun h => m2 (Nat.le_trans m1 (Nat.le_trans (show 256 ≤ 2 ^ 8 by decide) (Nat.pow_le_pow_right (by omega) (by omega))))
          have f4 : decide ((8 : Int) < (n : Int)) = false := decide_eq_false (by omega)
          have hw2 := pow_wrap n (by omega)
          obtain ⟨N, hN⟩ : ∃ N, 2 ^ n = N := ⟨_, rfl⟩
          rw [hN] at hw2 m2
          have f6 : decide ((m : Int) ≤ (N : Int)) = false := decide_eq_false (by omega)
          have f7 : decide (m ≤ N) = false := decide_eq_false (by omega)
          have f8 : N < m := by omega
          replace hN := Lib.hid hN
          go_enter Tryd.func9, Tryd.ntmps9
          go_wp2_with fail
          refine (shown8_calls _ hk).mono ?_
          rintro e w1 ⟨rfl, h1⟩
          obtain ⟨wa, va, hmk, hcv, hBa⟩ := run_noughts k (by omega) w1
          go_wp2_with fail
          refine (pack_calls (List.replicate k 0) (by rw [List.length_replicate]; omega) _).mono ?_
          rintro e w2 ⟨v2, rfl, R2, h2⟩
          rw [hpk] at R2
          have h12 := Below.on h2 (Below.on hBa h1)
          have hk2 := hk.on h12
          obtain ⟨A2, c2, rfl, T2⟩ := R2.txts
          have hroot := root_calls A2 c2 L (n:Int) (by omega) hall _ hk2 T2
          rw [hrv] at hroot
          rw [hLm]
          rw [hLm] at hroot
          replace hroot := Lib.hid hroot
          clear R2 T2 h1 h2 hBa hmk hcv hk
          go_wp2_with fail
          refine hroot.out.mono ?_
          rintro e w3 ⟨rfl, h3⟩
          go_wp2_with fail
          go_ret
          exact ⟨by simp, Below.on h3 h12⟩
        · have f3 : decide ((m : Int) ≤ 256) = false := decide_eq_false (by omega)
          have f3' : decide (m ≤ 256) = false := decide_eq_false m1
          clear hno
          go_enter Tryd.func9, Tryd.ntmps9
          go_wp2_with fail
          refine (shown8_calls _ hk).mono ?_
          rintro e w1 ⟨rfl, h1⟩
          obtain ⟨wa, va, hmk, hcv, hBa⟩ := run_noughts k (by omega) w1
          go_wp2_with fail
          refine (pack_calls (List.replicate k 0) (by rw [List.length_replicate]; omega) _).mono ?_
          rintro e w2 ⟨v2, rfl, R2, h2⟩
          rw [hpk] at R2
          have h12 := Below.on h2 (Below.on hBa h1)
          have hk2 := hk.on h12
          obtain ⟨A2, c2, rfl, T2⟩ := R2.txts
          have hroot := root_calls A2 c2 L d (by omega) hall _ hk2 T2
          rw [hrv] at hroot
          rw [hLm]
          rw [hLm] at hroot
          replace hroot := Lib.hid hroot
          clear R2 T2 h1 h2 hBa hmk hcv hk
          go_wp2_with fail
          refine hroot.out.mono ?_
          rintro e w3 ⟨rfl, h3⟩
          go_wp2_with fail
          go_ret
          exact ⟨by simp, Below.on h3 h12⟩
      · have f2 : decide (d ≤ 10) = false := decide_eq_false d1
        clear hno
        go_enter Tryd.func9, Tryd.ntmps9
        go_wp2_with fail
        refine (shown8_calls _ hk).mono ?_
        rintro e w1 ⟨rfl, h1⟩
        obtain ⟨wa, va, hmk, hcv, hBa⟩ := run_noughts k (by omega) w1
        go_wp2_with fail
        refine (pack_calls (List.replicate k 0) (by rw [List.length_replicate]; omega) _).mono ?_
        rintro e w2 ⟨v2, rfl, R2, h2⟩
        rw [hpk] at R2
        have h12 := Below.on h2 (Below.on hBa h1)
        have hk2 := hk.on h12
        obtain ⟨A2, c2, rfl, T2⟩ := R2.txts
        have hroot := root_calls A2 c2 L d (by omega) hall _ hk2 T2
        rw [hrv] at hroot
        rw [hLm]
        rw [hLm] at hroot
        replace hroot := Lib.hid hroot
        clear R2 T2 h1 h2 hBa hmk hcv hk
        go_wp2_with fail
        refine hroot.out.mono ?_
        rintro e w3 ⟨rfl, h3⟩
        go_wp2_with fail
        go_ret
        exact ⟨by simp, Below.on h3 h12⟩
    · have f1 : decide (0 ≤ d) = false := decide_eq_false d0
      clear hno
      go_enter Tryd.func9, Tryd.ntmps9
      go_wp2_with fail
      refine (shown8_calls _ hk).mono ?_
      rintro e w1 ⟨rfl, h1⟩
      obtain ⟨wa, va, hmk, hcv, hBa⟩ := run_noughts k (by omega) w1
      go_wp2_with fail
      refine (pack_calls (List.replicate k 0) (by rw [List.length_replicate]; omega) _).mono ?_
      rintro e w2 ⟨v2, rfl, R2, h2⟩
      rw [hpk] at R2
      have h12 := Below.on h2 (Below.on hBa h1)
      have hk2 := hk.on h12
      obtain ⟨A2, c2, rfl, T2⟩ := R2.txts
      have hroot := root_calls A2 c2 L d (by omega) hall _ hk2 T2
      rw [hrv] at hroot
      rw [hLm]
      rw [hLm] at hroot
      replace hroot := Lib.hid hroot
      clear R2 T2 h1 h2 hBa hmk hcv hk
      go_wp2_with fail
      refine hroot.out.mono ?_
      rintro e w3 ⟨rfl, h3⟩
      go_wp2_with fail
      go_ret
      exact ⟨by simp, Below.on h3 h12⟩
open Go.ChangeShapes Go.WideShapes Go.ChangeAt Go.Joins

set_option maxRecDepth 100000 in
theorem contract (H : Type) (enc : TypeId × Value → H) (W : World) (base : Nat) (args : Array Value) (ds gs : List (DataW H)) (before : List MemPlace)
    (hval0 : ∀ (j : Nat) t v, Tryd.f9.params[j]? = some t → args[j]? = some v → Value.okWide Tryd.prog W .any base t v)
    (hW : DataW.Whole enc Tryd.prog Tryd.f9.params.toList Rows.sszDepthsSpec.vars false W args.toList ds gs before) (hsmall : Rows.uptoSmall H (ds ++ gs) = true)
    (hL : laidMetH Tryd.prog Rows.sszDepthsUptoRow.laid W) :
    Calls Tryd.prog 9 args W fun e W' => ∃ v, e = .returned v ∧ Rows.sszDepthsSpec.post enc Tryd.prog Tryd.f9 false true false false W args v W' := by
  have hval := hval0
  have hW' := hW
  obtain ⟨p, q, hA0, hV, rfl, hfz, hnd⟩ := hW
  have hA : DataW.TrodAll enc Tryd.prog W 0 (fun _ => true) true Tryd.f9.params.toList args.toList ds p := hA0
  rw [Tryd.params9] at hA hval
  have hAk := hA
  obtain ⟨v0, vs0, d0, ds0, p0, q0, hargs, hds0, hps0, h0, r0⟩ := trodAll_cons hA
  obtain ⟨v1, vs1, d1, ds1, p1, q1, hvs1, hds1, hps1, h1, r1⟩ := trodAll_cons r0
  subst hvs1
  obtain ⟨hv9, hds9, hps9⟩ := trodAll_nil r1
  subst hv9
  subst hds9
  subst hds1
  subst hds0
  obtain rfl : args = #[v0, v1] := by cases args; simp_all
  obtain ⟨rfl, rfl⟩ := trodVars_none hV
  obtain ⟨a0, rfl, hd0, hp0, wa0⟩ := openI64 (hval 0 3 v0 rfl rfl) h0
  obtain ⟨a1, rfl, hd1, hp1, wa1⟩ := openI64 (hval 1 3 v1 rfl rfl) h1
  have hK := hasK_of hL
  refine (walk a0 a1 W hK).mono fun e W' ⟨he, hg⟩ => ?_
  subst he
  have hlt : ∀ x ∈ p, x.block < W.heap.size := fun x hx => hW'.lt x (by simp [hx])
  exact ⟨_, rfl, post_below (pa := p) (pv := []) hW' (fun _ _ _ => (trodAll_cons_mk (shut_bool Tryd.underlying4 _) trodAll_mk0)) (fun sp hsp => by have := stays_all laidOut hg (by kernel_rfl) hAk hlt sp (fun x hx => hsp x (by simp [hx])); rw [← Tryd.params9] at this; exact this) (fun _ _ => rfl) rfl hg (ok_one (by kernel_rfl) rfl (okWide_bool_mk Tryd.underlying4 _))⟩
theorem laid_met (os : Os) : laidMet Tryd.prog Rows.sszDepthsUptoRow.laid ((laidWorld os).forCall (fun _ _ => 0) ⟨#[], #[.int .i64 0, .int .i64 0], []⟩).memory :=
  laidMet_of_run' 8 (by kernel_rfl) (by kernel_rfl)
theorem reads (os : Os) {H : Type} (enc : TypeId × Value → H) : ∃ places, DataW.whole enc Tryd.prog ((laidWorld os).forCall (fun _ _ => 0) ⟨#[], #[.int .i64 0, .int .i64 0], []⟩).memory Tryd.f9.params.toList Rows.sszDepthsSpec.vars false #[.int .i64 0, .int .i64 0].toList 8 = some ([.lit (.int .i64 0), .lit (.int .i64 0)], [], places) :=
  ⟨[], by kernel_rfl⟩
set_option maxRecDepth 100000 in
theorem lifted (os : Os) (started : os.Started) (H : Type) (enc : TypeId × Value → H) (F : Stop.Interp) :
    ReturnsInHanded {} Tryd.checked os 9 .any ((Rows.OpenSpec.upto Rows.sszDepthsSpec).preRow enc Tryd.prog Tryd.f9 Rows.sszDepthsUptoRow.domain false Rows.sszDepthsUptoRow.laid) (((Rows.OpenSpec.upto Rows.sszDepthsSpec).at F).post enc Tryd.prog Tryd.f9 false true false false) := by
  obtain ⟨places, hx⟩ := reads os enc
  refine returnsInHanded_of_row (C := Tryd.checked) (s := Rows.OpenSpec.upto Rows.sszDepthsSpec) own started (by kernel_rfl) Tryd.func9
    (witness_row_at (enc := enc) (C := Tryd.checked) false (laidWorld os) #[.int .i64 0, .int .i64 0] rfl (by kernel_rfl) (by kernel_rfl) (by kernel_rfl)
      (OpenSpec.preRow_of_cond 8 hx (by kernel_rfl) (fun k hk => by cases hk; kernel_rfl) (by kernel_rfl) (laid_met os))) ?_
  intro W base args ds gs before hval hW _ hcond hreach hL _ _
  exact contract H enc W base args ds gs before hval hW (hcond _ rfl) hL
theorem said : Rows.SszDepthsUptoSaid :=
  OpenClaim.holds_of_cond 9 Tryd.f9 rfl rfl rfl rfl rfl rfl rfl ⟨rfl, rfl, rfl, rfl, rfl⟩ rfl rfl rfl rfl rfl (by kernel_rfl) Tryd.func9 (by kernel_rfl)
    (of_decide_eq_true (by kernel_rfl)) (by unfold Func.isWrapper; first | (rw [if_pos (by decide +kernel)]; kernel_rfl) | (rw [if_neg (by decide +kernel)]; exact ⟨rfl, rfl⟩))
    (fun os started H enc _ F => by rw [OpenClaim.pre_eq_preRow]; exact lifted os started H enc F)
theorem plain (f : FuncId) (fn : Func) (hf : Tryd.pinned.checked.prog.funcNamed "pharos/pharoslaw08.SszDepths" = some f) (hfn : Tryd.pinned.checked.prog.funcs[f]? = some fn) :
    false = Tryd.pinned.checked.prog.looks [] ∧ ∀ (j : Nat) t, fn.params[j]? = some t → Tryd.pinned.checked.prog.wantsStandIn t = false := by
  obtain rfl : f = 9 := Option.some.inj ((show Tryd.prog.funcNamed "pharos/pharoslaw08.SszDepths" = some 9 by kernel_rfl).symm.trans hf) |>.symm
  obtain rfl : fn = Tryd.f9 := (Option.some.inj (Tryd.func9.symm.trans hfn)).symm
  refine ⟨by kernel_rfl, fun j t ht => ?_⟩
  rw [Tryd.params9] at ht
  have hm : t ∈ [3, 3] := by simpa using Array.mem_of_getElem? ht
  have hall : ∀ t ∈ [3, 3], Tryd.prog.wantsStandIn t = false := by
    intro t h
    simp only [List.mem_cons, List.not_mem_nil, or_false] at h
    rcases h with rfl | rfl <;> kernel_rfl
  exact hall t hm

/-- THE STATEMENT'S CARD -/
theorem proved : Rows.SszDepthsUptoCardSaid :=
  Claim7.holds_tied_plain_at .later [] _ _ _ _ said (fun _ h => by cases h) (by kernel_rfl) (fun _ h => by cases h) sszDepthsUpto_row_tie rfl ⟨rfl, rfl⟩ (by kernel_rfl) rfl plain (by kernel_rfl)

end lawSszDepths
end Go.Proofs.YtpmmjomejackkaaDoor
