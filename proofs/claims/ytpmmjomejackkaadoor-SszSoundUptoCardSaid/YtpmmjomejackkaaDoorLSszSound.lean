/- What checks under a tree's root, of its depth, is its leaf, or two texts that are summed up are unlike and have one sum: any chunks, depth, leaf, branch, place, their bulk bounded. -/
import Derived.Test.YtpmmjomejackkaaDoorSszX
import Derived.Test.YtpmmjomejackkaaDoorSszS
import Derived.Test.YtpmmjomejackkaaDoorSszU
import Derived.Test.YtpmmjomejackkaaDoorSszV
import Derived.Test.YtpmmjomejackkaaDoorClash
import Derived.Test.YtpmmjomejackkaaDoorLaid
import Derived.WalkKit
import Derived.ProofKit
import Derived.OpenShut
set_option linter.unusedSimpArgs false
set_option linter.unusedVariables false
namespace Go.Proofs.YtpmmjomejackkaaDoor
open BigFrame Go.RowKit Go.Phx Go.Shelf
attribute [local go_sem] Oper.semAt_some
namespace lawSszSound

set_option maxRecDepth 100000 in
set_option maxHeartbeats 8000000 in
theorem walk (A : Option Addr) (c : Nat) (xs : List ByteArray) (d : Int) (x : Bytes) (B : Option Addr) (cb : Nat) (ys : List ByteArray) (i : Int) (hi63 : i ≤ 9223372036854775807)
    (hb : xs.length + ((xs.map fun s => s.data.toList).flatten).length ≤ 1048576) (hx : x.length ≤ 1048576) (hbm : ys.length + ((ys.map fun s => s.data.toList).flatten).length ≤ 1048576) (w : World) (hs : Strs w A xs) (hsM : Strs w B ys) (hk : HasK w) :
    Calls Tryd.prog 12 #[.slice A xs.length c, .int .i64 d, .string (bs x), .slice B ys.length cb, .int .i64 i] w (Ret w (.bool true)) := by
  obtain ⟨L, hL1, hL2⟩ := as_lists xs
  rw [← hL2] at hb
  subst hL1
  clear hL2
  obtain ⟨M, hM1, hM2⟩ := as_lists ys
  rw [← hM2] at hbm
  subst hM1
  clear hM2
  rw [List.length_map] at hb hbm
  rw [List.length_map, List.length_map]
  obtain ⟨hl, hall⟩ := in_bulk hb
  obtain ⟨hMl, hMall⟩ := in_bulk hbm
  replace hs : Txts w A L := hs
  replace hsM : Txts w B M := hsM
  clear hb hbm
  have hall2 := Lib.hid (show ∀ x ∈ L, x.length ≤ 9223372036854775807 from fun x hx => by have := hall x hx; omega)
  clear hall
  replace hs := Lib.hid hs
  replace hsM := Lib.hid hsM
  replace hMall := Lib.hid hMall
  have hroot := fun W (h : Below w.heap.size w W) => rroot_calls A c L d hall2.out W (Txts.below hs.out h)
  by_cases hR : RightP L d
  · obtain ⟨k, rfl⟩ : ∃ k : Nat, d = k := ⟨d.toNat, (Int.toNat_of_nonneg hR.1).symm⟩
    have hrv : rootV L (k : Int) = .tuple #[.string (bs (rootP L k)), .int .i64 0] := by unfold rootV; rw [if_pos hR, Int.toNat_natCast]
    rw [hrv] at hroot
    replace hroot := Lib.hid hroot
    have hle := right_le hR
    have hall32 := hR.2.2.2.2
    clear hrv hR
    by_cases h6 : 6 < k
    · have e1 : decide ((6 : Int) < (k : Int)) = true := decide_eq_true (by omega)
      clear hall32 hle
      go_enter Tryd.func12, Tryd.ntmps12
      go_wp2_with fail
      refine (shown8_calls _ hk).mono ?_
      rintro e w1 ⟨rfl, h1⟩
      go_wp2_with fail
      refine (hroot.out _ h1).mono ?_
      rintro e w2 ⟨rfl, h2⟩
      have h12 := Below.on h2 h1
      clear h1 h2
      go_wp2_with fail
      go_ret
      exact ⟨rfl, h12⟩
    have e1 : decide ((6 : Int) < (k : Int)) = false := decide_eq_false (by omega)
    by_cases hi0 : i < 0
    · have e2 : decide (i < 0) = true := decide_eq_true hi0
      clear hall32 hle
      go_enter Tryd.func12, Tryd.ntmps12
      go_wp2_with fail
      refine (shown8_calls _ hk).mono ?_
      rintro e w1 ⟨rfl, h1⟩
      go_wp2_with fail
      refine (hroot.out _ h1).mono ?_
      rintro e w2 ⟨rfl, h2⟩
      have h12 := Below.on h2 h1
      clear h1 h2
      go_wp2_with fail
      go_ret
      exact ⟨rfl, h12⟩
    have e2 : decide (i < 0) = false := decide_eq_false hi0
    obtain ⟨n, rfl⟩ : ∃ n : Nat, i = n := ⟨i.toNat, (Int.toNat_of_nonneg (by omega)).symm⟩
    by_cases hlen : M.length = k
    · have e3 : ((M.length : Int) != (k : Int)) = false := by simp; omega
      have hrl : (rootP L k).length = 32 := node_len L hall32 k 0
      have hck := fun W (h : Below w.heap.size w W) => check_calls x B cb M n (rootP L k) (by omega) (by omega) (by omega) (by omega) (fun y hy => by have := hMall.out y hy; omega) W (hk.on h) (Txts.below hsM.out h)
      by_cases hC : CheckP x M n (rootP L k)
      · rw [decide_eq_true hC] at hck
        replace hck := Lib.hid hck
        have hsr := sound_root L k hall32 hle M x n hlen hC.2.1 hC.2.2.2.2.1 (by have := hC.2.2.2.1; rwa [hlen] at this) hC.2.2.2.2.2
        have hx32 := hC.2.1
        have hM32 := hC.2.2.2.2.1
        have hleaf : nodeP L 0 n = L.getD n zero32 := rfl
        have hsl := Nat.le_trans (sums_len L k hle k (Nat.le_refl _)) (show k * 2 ^ k ≤ 384 by
          have h1 : 2 ^ k ≤ 2 ^ 6 := Nat.pow_le_pow_right (by omega) (by omega)
          exact Nat.le_trans (Nat.mul_le_mul (show k ≤ 6 by omega) h1) (by decide))
        have hcin : ∀ t ∈ sumsP L k k ++ wayT x M n, t.length ≤ 1000000000 := fun t ht => by
          rcases List.mem_append.1 ht with h | h
          · rw [sums_in L k k hall32 t h]; decide
          · have := way_in M x n 32 (fun s hs => by rw [hM32 s hs]; exact Nat.le_refl _) (by omega) t h
            omega
        clear hC hM32
        replace hall32 := Lib.hid hall32
        replace hle := Lib.hid hle
        generalize rootP L k = r at *
        have hway := fun W (h : Below w.heap.size w W) => rway_calls x B cb M n hx (by omega) (by omega) hMall.out W (Txts.below hsM.out h)
        rw [hlen] at hck hway ⊢
        replace hway := Lib.hid hway
        have hT4l := wayT_len M x n
        rw [hlen] at hT4l
        replace hT4l := Lib.hid hT4l
        replace hlen := Lib.hid hlen
        replace hcin := Lib.hid hcin
        replace hsl := Lib.hid hsl
        clear e3
        have e3 : ((k : Int) != (k : Int)) = false := by simp
        go_enter Tryd.func12, Tryd.ntmps12
        go_wp2_with fail
        refine (shown8_calls _ hk).mono ?_
        rintro e w1 ⟨rfl, h1⟩
        go_wp2_with fail
        refine (hroot.out _ h1).mono ?_
        rintro e w2 ⟨rfl, h2⟩
        have h12 := Below.on h2 h1
        clear h1 h2
        go_wp2_with fail
        refine (hck.out _ h12).mono ?_
        rintro e w3 ⟨rfl, h3⟩
        have h13 := Below.on h3 h12
        clear h3 h12 hck
        obtain ⟨wz, vz, hmk, hcv, hBz⟩ := run_noughts 32 (by omega) w3
        simp only [show ((32 : Nat) : Int) = 32 from rfl] at hmk
        have h1z := Below.on hBz h13
        have hsz := Txts.below hs.out h1z
        have hsMz := Txts.below hsM.out h1z
        have hk6 : k ≤ 6 := by omega
        by_cases hlt : n < L.length
        · have hxe : nodeP L 0 n = L.getD n [] := by rw [hleaf, List.getD, List.getD, List.getElem?_eq_getElem hlt]; rfl
          obtain ⟨b, o, rfl, hbb, hcell⟩ := hsz.at n hlt
          rw [hxe] at hsr
          generalize L.getD n [] = want at *
          have hsound : x ≠ want → Clashes (sumsP L k k ++ wayT x M n) := fun h => hsr.resolve_left h
          replace hsound := Lib.hid hsound
          replace hxe := Lib.hid hxe
          replace hleaf := Lib.hid hleaf
          clear hsr hsz
          by_cases hxy : x = want
          · subst hxy
            go_wp2_with fail
            refine (hway.out _ h1z).mono ?_
            rintro e w4 ⟨v4, rfl, R4, h4⟩
            have h14 := Below.on h4 h1z
            obtain ⟨A4, c4, rfl, T4⟩ := R4.txts
            clear R4 h4
            go_wp2_with fail
            go_ret
            exact ⟨by simp, h14⟩
          · have hne : (x == want) = false := by simpa using hxy
            have hcl := hsound.out hxy
            go_wp2_with fail
            refine (hway.out _ h1z).mono ?_
            rintro e w4 ⟨v4, rfl, R4, h4⟩
            have h14 := Below.on h4 h1z
            obtain ⟨A4, c4, rfl, T4⟩ := R4.txts
            clear R4 h4
            go_wp2_with fail
            refine (sums_calls (some ⟨b, o, none⟩) c L k (by omega) hle.out hall32.out _ (Txts.below hs.out h14)).mono ?_
            rintro e w5 ⟨v5, rfl, R5, h5⟩
            obtain ⟨v6, w6, hap, R6, hg6⟩ := app_rows w5 w4.heap.size h5.size v5 (sumsP L k k) R5 A4 c4 (wayT x M n) (by have := hsl.out; omega) (by have := hT4l.out; omega) (Txts.below T4 h5)
            have hB6 : Below w4.heap.size w4 w6 := h5.grown hg6 h5.size fun q e => (R5.lt q e).1
            obtain ⟨A6, c6, rfl, T6⟩ := R6.txts
            have hl6 : (sumsP L k k ++ wayT x M n).length ≤ 100000 := by rw [List.length_append]; have := hsl.out; have := hT4l.out; omega
            have hcla := clash_calls A6 c6 (sumsP L k k ++ wayT x M n) hl6 hcin.out w6 T6
            obtain ⟨n6, hn6⟩ : ∃ n6, (sumsP L k k ++ wayT x M n).length = n6 := ⟨_, rfl⟩
            rw [hn6] at hap hcla
            obtain ⟨n5, hn5⟩ : ∃ n5, (wayT x M n).length = n5 := ⟨_, rfl⟩
            rw [hn5] at hap ⊢
            have h16 := Below.on hB6 h14
            replace hcla := Lib.hid hcla
            replace hn6 := Lib.hid hn6
            replace hn5 := Lib.hid hn5
            replace hcl := Lib.hid hcl
            clear R5 R6 T6 hg6 hB6 h5 hcin hsl hl6 hT4l T4
            go_wp2_with (at_builtin; refine wpList_append_run_g (by rfl) _ _ _ _ rfl _ _ (.slice A6 n6 c6) rfl rfl hap ?_)
            refine hcla.out.mono ?_
            rintro e w7 ⟨⟨r, rfl, hr⟩, h7⟩
            obtain rfl : r = true := hr.2 hcl.out
            clear hr
            go_wp2_with fail
            go_ret
            exact ⟨by simp, Below.on h7 h16⟩
        · have hxe : nodeP L 0 n = zero32 := by rw [hleaf, List.getD, List.getElem?_eq_none (by omega)]; rfl
          rw [hxe] at hsr
          have hzz : List.replicate 32 (0 : UInt8) = zero32 := rfl
          rw [hzz] at hcv
          have hsound : x ≠ zero32 → Clashes (sumsP L k k ++ wayT x M n) := fun h => hsr.resolve_left h
          clear hsr
          generalize zero32 = want at *
          replace hsound := Lib.hid hsound
          replace hxe := Lib.hid hxe
          replace hleaf := Lib.hid hleaf
          replace hzz := Lib.hid hzz
          clear hsz
          by_cases hxy : x = want
          · subst hxy
            go_wp2_with fail
            refine (hway.out _ h1z).mono ?_
            rintro e w4 ⟨v4, rfl, R4, h4⟩
            have h14 := Below.on h4 h1z
            obtain ⟨A4, c4, rfl, T4⟩ := R4.txts
            clear R4 h4
            go_wp2_with fail
            go_ret
            exact ⟨by simp, h14⟩
          · have hne : (x == want) = false := by simpa using hxy
            have hcl := hsound.out hxy
            go_wp2_with fail
            refine (hway.out _ h1z).mono ?_
            rintro e w4 ⟨v4, rfl, R4, h4⟩
            have h14 := Below.on h4 h1z
            obtain ⟨A4, c4, rfl, T4⟩ := R4.txts
            clear R4 h4
            go_wp2_with fail
            refine (sums_calls A c L k (by omega) hle.out hall32.out _ (Txts.below hs.out h14)).mono ?_
            rintro e w5 ⟨v5, rfl, R5, h5⟩
            obtain ⟨v6, w6, hap, R6, hg6⟩ := app_rows w5 w4.heap.size h5.size v5 (sumsP L k k) R5 A4 c4 (wayT x M n) (by have := hsl.out; omega) (by have := hT4l.out; omega) (Txts.below T4 h5)
            have hB6 : Below w4.heap.size w4 w6 := h5.grown hg6 h5.size fun q e => (R5.lt q e).1
            obtain ⟨A6, c6, rfl, T6⟩ := R6.txts
            have hl6 : (sumsP L k k ++ wayT x M n).length ≤ 100000 := by rw [List.length_append]; have := hsl.out; have := hT4l.out; omega
            have hcla := clash_calls A6 c6 (sumsP L k k ++ wayT x M n) hl6 hcin.out w6 T6
            obtain ⟨n6, hn6⟩ : ∃ n6, (sumsP L k k ++ wayT x M n).length = n6 := ⟨_, rfl⟩
            rw [hn6] at hap hcla
            obtain ⟨n5, hn5⟩ : ∃ n5, (wayT x M n).length = n5 := ⟨_, rfl⟩
            rw [hn5] at hap ⊢
            have h16 := Below.on hB6 h14
            replace hcla := Lib.hid hcla
            replace hn6 := Lib.hid hn6
            replace hn5 := Lib.hid hn5
            replace hcl := Lib.hid hcl
            clear R5 R6 T6 hg6 hB6 h5 hcin hsl hl6 hT4l T4
            go_wp2_with (at_builtin; refine wpList_append_run_g (by rfl) _ _ _ _ rfl _ _ (.slice A6 n6 c6) rfl rfl hap ?_)
            refine hcla.out.mono ?_
            rintro e w7 ⟨⟨r, rfl, hr⟩, h7⟩
            obtain rfl : r = true := hr.2 hcl.out
            clear hr
            go_wp2_with fail
            go_ret
            exact ⟨by simp, Below.on h7 h16⟩
      · rw [decide_eq_false hC] at hck
        replace hck := Lib.hid hck
        clear hC hall32 hle
        generalize rootP L k = r at *
        rw [hlen] at hck ⊢
        replace hlen := Lib.hid hlen
        clear e3
        have e3 : ((k : Int) != (k : Int)) = false := by simp
        go_enter Tryd.func12, Tryd.ntmps12
        go_wp2_with fail
        refine (shown8_calls _ hk).mono ?_
        rintro e w1 ⟨rfl, h1⟩
        go_wp2_with fail
        refine (hroot.out _ h1).mono ?_
        rintro e w2 ⟨rfl, h2⟩
        have h12 := Below.on h2 h1
        clear h1 h2
        go_wp2_with fail
        refine (hck.out _ h12).mono ?_
        rintro e w3 ⟨rfl, h3⟩
        go_wp2_with fail
        go_ret
        exact ⟨rfl, Below.on h3 h12⟩
    · have e3 : ((M.length : Int) != (k : Int)) = true := by simp; omega
      clear hall32 hle
      go_enter Tryd.func12, Tryd.ntmps12
      go_wp2_with fail
      refine (shown8_calls _ hk).mono ?_
      rintro e w1 ⟨rfl, h1⟩
      go_wp2_with fail
      refine (hroot.out _ h1).mono ?_
      rintro e w2 ⟨rfl, h2⟩
      have h12 := Below.on h2 h1
      clear h1 h2
      go_wp2_with fail
      go_ret
      exact ⟨rfl, h12⟩
  · have hrv : rootV L d = .tuple #[.string { data := #[] }, .int .i64 80] := by unfold rootV; rw [if_neg hR]
    rw [hrv] at hroot
    replace hroot := Lib.hid hroot
    clear hrv hR
    go_enter Tryd.func12, Tryd.ntmps12
    go_wp2_with fail
    refine (shown8_calls _ hk).mono ?_
    rintro e w1 ⟨rfl, h1⟩
    go_wp2_with fail
    refine (hroot.out _ h1).mono ?_
    rintro e w2 ⟨rfl, h2⟩
    have h12 := Below.on h2 h1
    clear h1 h2
    go_wp2_with fail
    go_ret
    exact ⟨rfl, h12⟩
open Go.ChangeShapes Go.WideShapes Go.ChangeAt Go.Joins

set_option maxRecDepth 100000 in
theorem contract (H : Type) (enc : TypeId × Value → H) (W : World) (base : Nat) (args : Array Value) (ds gs : List (DataW H)) (before : List MemPlace)
    (hval0 : ∀ (j : Nat) t v, Tryd.f12.params[j]? = some t → args[j]? = some v → Value.okWide Tryd.prog W .any base t v)
    (hW : DataW.Whole enc Tryd.prog Tryd.f12.params.toList Rows.sszSoundSpec.vars false W args.toList ds gs before) (hsmall : Rows.uptoSmall H (ds ++ gs) = true)
    (hL : laidMetH Tryd.prog Rows.sszSoundUptoRow.laid W) :
    Calls Tryd.prog 12 args W fun e W' => ∃ v, e = .returned v ∧ Rows.sszSoundSpec.post enc Tryd.prog Tryd.f12 false true false false W args v W' := by
  have hval := hval0
  have hW' := hW
  obtain ⟨p, q, hA0, hV, rfl, hfz, hnd⟩ := hW
  have hA : DataW.TrodAll enc Tryd.prog W 0 (fun _ => true) true Tryd.f12.params.toList args.toList ds p := hA0
  rw [Tryd.params12] at hA hval
  have hAk := hA
  obtain ⟨v0, vs0, d0, ds0, p0, q0, hargs, hds0, hps0, h0, r0⟩ := trodAll_cons hA
  obtain ⟨v1, vs1, d1, ds1, p1, q1, hvs1, hds1, hps1, h1, r1⟩ := trodAll_cons r0
  subst hvs1
  obtain ⟨v2, vs2, d2, ds2, p2, q2, hvs2, hds2, hps2, h2, r2⟩ := trodAll_cons r1
  subst hvs2
  obtain ⟨v3, vs3, d3, ds3, p3, q3, hvs3, hds3, hps3, h3, r3⟩ := trodAll_cons r2
  subst hvs3
  obtain ⟨v4, vs4, d4, ds4, p4, q4, hvs4, hds4, hps4, h4, r4⟩ := trodAll_cons r3
  subst hvs4
  obtain ⟨hv9, hds9, hps9⟩ := trodAll_nil r4
  subst hv9
  subst hds9
  subst hds4
  subst hds3
  subst hds2
  subst hds1
  subst hds0
  obtain rfl : args = #[v0, v1, v2, v3, v4] := by cases args; simp_all
  obtain ⟨rfl, rfl⟩ := trodVars_none hV
  obtain ⟨A0, c0, xs0, rfl, hc0, hm0, hs0, hz0, hd0⟩ := openStrs (hval 0 22 v0 rfl rfl) h0
  obtain ⟨a1, rfl, hd1, hp1, wa1⟩ := openI64 (hval 1 3 v1 rfl rfl) h1
  obtain ⟨s2, rfl, hd2, hp2, ws2⟩ := openString (hval 2 9 v2 rfl rfl) h2
  obtain ⟨A3, c3, xs3, rfl, hc3, hm3, hs3, hz3, hd3⟩ := openStrs (hval 3 22 v3 rfl rfl) h3
  obtain ⟨a4, rfl, hd4, hp4, wa4⟩ := openI64 (hval 4 3 v4 rfl rfl) h4
  have hb0 := bulk_slice hd0 (bulk_of hsmall (d := d0) (by simp))
  have hb2 := bulk_string (hd2 ▸ bulk_of hsmall (d := d2) (by simp))
  have hb3 := bulk_slice hd3 (bulk_of hsmall (d := d3) (by simp))
  have hK := hasK_of hL
  refine (walk A0 c0 xs0 a1 s2.data.toList A3 c3 xs3 a4 (bounds_i64 wa4).2 hb0 (by have := hb2; simpa using this) hb3 W hs0 hs3 hK).mono fun e W' ⟨he, hg⟩ => ?_
  subst he
  have hlt : ∀ x ∈ p, x.block < W.heap.size := fun x hx => hW'.lt x (by simp [hx])
  exact ⟨_, rfl, post_below (pa := p) (pv := []) hW' (fun _ _ _ => (trodAll_cons_mk (shut_bool Tryd.underlying4 _) trodAll_mk0)) (fun sp hsp => by have := stays_all laidOut hg (by kernel_rfl) hAk hlt sp (fun x hx => hsp x (by simp [hx])); rw [← Tryd.params12] at this; exact this) (fun _ _ => rfl) rfl hg (ok_one (by kernel_rfl) rfl (okWide_bool_mk Tryd.underlying4 _))⟩
theorem laid_met (os : Os) : laidMet Tryd.prog Rows.sszSoundUptoRow.laid ((laidWorld os).forCall (fun _ _ => 0) ⟨#[], #[.slice none 0 0, .int .i64 0, .string ByteArray.empty, .slice none 0 0, .int .i64 0], []⟩).memory :=
  laidMet_of_run' 8 (by kernel_rfl) (by kernel_rfl)
theorem reads (os : Os) {H : Type} (enc : TypeId × Value → H) : ∃ places, DataW.whole enc Tryd.prog ((laidWorld os).forCall (fun _ _ => 0) ⟨#[], #[.slice none 0 0, .int .i64 0, .string ByteArray.empty, .slice none 0 0, .int .i64 0], []⟩).memory Tryd.f12.params.toList Rows.sszSoundSpec.vars false #[.slice none 0 0, .int .i64 0, .string ByteArray.empty, .slice none 0 0, .int .i64 0].toList 8 = some ([.nil, .lit (.int .i64 0), .lit (.string []), .nil, .lit (.int .i64 0)], [], places) :=
  ⟨[], by kernel_rfl⟩
set_option maxRecDepth 100000 in
theorem lifted (os : Os) (started : os.Started) (H : Type) (enc : TypeId × Value → H) (F : Stop.Interp) :
    ReturnsInHanded {} Tryd.checked os 12 .any ((Rows.OpenSpec.upto Rows.sszSoundSpec).preRow enc Tryd.prog Tryd.f12 Rows.sszSoundUptoRow.domain false Rows.sszSoundUptoRow.laid) (((Rows.OpenSpec.upto Rows.sszSoundSpec).at F).post enc Tryd.prog Tryd.f12 false true false false) := by
  obtain ⟨places, hx⟩ := reads os enc
  refine returnsInHanded_of_row (C := Tryd.checked) (s := Rows.OpenSpec.upto Rows.sszSoundSpec) own started (by kernel_rfl) Tryd.func12
    (witness_row_at (enc := enc) (C := Tryd.checked) false (laidWorld os) #[.slice none 0 0, .int .i64 0, .string ByteArray.empty, .slice none 0 0, .int .i64 0] rfl (by kernel_rfl) (by kernel_rfl) (by kernel_rfl)
      (OpenSpec.preRow_of_cond 8 hx (by kernel_rfl) (fun k hk => by cases hk; kernel_rfl) (by kernel_rfl) (laid_met os))) ?_
  intro W base args ds gs before hval hW _ hcond hreach hL _ _
  exact contract H enc W base args ds gs before hval hW (hcond _ rfl) hL
theorem said : Rows.SszSoundUptoSaid :=
  OpenClaim.holds_of_cond 12 Tryd.f12 rfl rfl rfl rfl rfl rfl rfl ⟨rfl, rfl, rfl, rfl, rfl⟩ rfl rfl rfl rfl rfl (by kernel_rfl) Tryd.func12 (by kernel_rfl)
    (of_decide_eq_true (by kernel_rfl)) (by unfold Func.isWrapper; first | (rw [if_pos (by decide +kernel)]; kernel_rfl) | (rw [if_neg (by decide +kernel)]; exact ⟨rfl, rfl⟩))
    (fun os started H enc _ F => by rw [OpenClaim.pre_eq_preRow]; exact lifted os started H enc F)
theorem plain (f : FuncId) (fn : Func) (hf : Tryd.pinned.checked.prog.funcNamed "pharos/pharoslaw08.SszSound" = some f) (hfn : Tryd.pinned.checked.prog.funcs[f]? = some fn) :
    false = Tryd.pinned.checked.prog.looks [] ∧ ∀ (j : Nat) t, fn.params[j]? = some t → Tryd.pinned.checked.prog.wantsStandIn t = false := by
  obtain rfl : f = 12 := Option.some.inj ((show Tryd.prog.funcNamed "pharos/pharoslaw08.SszSound" = some 12 by kernel_rfl).symm.trans hf) |>.symm
  obtain rfl : fn = Tryd.f12 := (Option.some.inj (Tryd.func12.symm.trans hfn)).symm
  refine ⟨by kernel_rfl, fun j t ht => ?_⟩
  rw [Tryd.params12] at ht
  have hm : t ∈ [22, 3, 9, 22, 3] := by simpa using Array.mem_of_getElem? ht
  have hall : ∀ t ∈ [22, 3, 9, 22, 3], Tryd.prog.wantsStandIn t = false := by
    intro t h
    simp only [List.mem_cons, List.not_mem_nil, or_false] at h
    rcases h with rfl | rfl | rfl | rfl | rfl <;> kernel_rfl
  exact hall t hm

/-- THE STATEMENT'S CARD -/
theorem proved : Rows.SszSoundUptoCardSaid :=
  Claim7.holds_tied_plain_at .later [] _ _ _ _ said (fun _ h => by cases h) (by kernel_rfl) (fun _ h => by cases h) sszSoundUpto_row_tie rfl ⟨rfl, rfl⟩ (by kernel_rfl) rfl plain (by kernel_rfl)

end lawSszSound
end Go.Proofs.YtpmmjomejackkaaDoor
