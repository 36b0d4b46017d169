/- Bytes as chunks, by the program and by the reference. -/
import Derived.Test.YtpmmjomejackkaaDoorTxt
import Derived.Test.YtpmmjomejackkaaDoorSszR
import Derived.Lib.AppendStr
set_option linter.unusedSimpArgs false
set_option linter.unusedVariables false
namespace Go.Proofs.YtpmmjomejackkaaDoor
open BigFrame Go.RowKit Go.Phx Go.Shelf
attribute [local go_sem] Oper.semAt_some

/-- a part of a text's bytes, cut at its end, and noughts behind it -/
theorem pack_append (w : World) (g o n : Nat) (p z : Bytes) (hp : p.length = n) (hn : n ≤ 32) (hz : z.length = 32 - n) (hc : ∀ j, j < n → w.cell? ⟨g, o + j, none⟩ = some (bv (p.getD j 0))) :
    ∃ v' w', (Builtin.append_ #[39, 9] 39 #[.slice (some ⟨g, o, none⟩) n n, .string (bs z)]).run Tryd.prog w = .ok v' w' ∧ Below w.heap.size w w' ∧
      ∀ W, Below w'.heap.size w' W → (convert 39 9 v').run Tryd.prog W = .ok (.string (bs (p ++ z))) W := by
  have hu8 : Tryd.prog.underlying 39 = some (.slice 5) := by kernel_rfl
  have hst : Tryd.prog.underlying 9 = some .string := by kernel_rfl
  have he8 : Tryd.prog.underlying 5 = some (.int .u8) := by kernel_rfl
  obtain ⟨i0, hi, hz0, hz1, hz2⟩ := info_parts infoU8
  by_cases h : n = 32
  · obtain rfl : z = [] := List.eq_nil_of_length_eq_zero (by omega)
    subst h
    refine ⟨.slice (some ⟨g, o, none⟩) 32 32, w, ?_, Below.refl _ _, fun W hW => ?_⟩
    · have h0 : (bs []).size = 0 := rfl
      have hf := Lib.run_firstCells_string (P := Tryd.prog) w 1 (bs [])
      rw [h0] at hf
      have hsc : Lib.strCells (bs []) = [] := rfl
      rw [hsc] at hf
      simp [Builtin.append_, run_underlying hu8, run_underlying hst, sizeOf, typeInfo, hi, hz1, Builtin.lenOf, h0, hf, storeCells]
    · have := run_convert_bytes_arg (P := Tryd.prog) W _ _ hu8 he8 g o 32 32 (p.map fun c : UInt8 => (c.toNat : Int)) (by simpa using hp) (fun j hj => by
        have hlt : g < w.heap.size := World.block_lt_of_cell? _ _ (hc 0 (by omega))
        rw [hW.cell (p := ⟨g, o + j, none⟩) hlt, hc j hj]
        unfold bv
        simp [List.getD, List.getElem?_eq_getElem (show j < p.length by omega)]) _ hst
      rw [this, strOfNums_map, List.append_nil]
  · have hsz : (bs z).size = 32 - n := by rw [bs_size, hz]
    have hcap : n < n + (bs z).size := by omega
    have hr := Lib.run_append_grow_string (P := Tryd.prog) w 39 9 39 5 i0 (.int .u8 0) hu8 hst hi hz0 ⟨g, o, none⟩ n n (p.map bv) (by rw [List.length_map, hp, hz1, Nat.mul_one]) (fun j v hv => by
      have hj : j < n := by have := (List.getElem?_eq_some_iff.1 hv).1; simpa [hp] using this
      rw [Addr.add_mid, hc j hj]
      rw [List.getElem?_map, List.getElem?_eq_getElem (by omega)] at hv
      simp only [Option.map_some, Option.some.injEq] at hv
      rw [← hv, List.getD, List.getElem?_eq_getElem (by omega)]
      rfl) (bs z) hcap (by omega) (growslice_fits (by omega) (by rw [hz2]; omega))
    have e32 : n + (bs z).size = 32 := by omega
    rw [e32] at hr
    have hge := grownCap_ge w 32 n 5
    refine ⟨_, _, hr, ((Below.refl _ _).drew).alloc (Nat.le_refl _) _, fun W hW => ?_⟩
    refine conv_cells W w.heap.size (p ++ z) 32 _ (by rw [List.length_append]; omega) fun j u hu => ?_
    have hj : j < 32 := by have := (List.getElem?_eq_some_iff.1 hu).1; simp at this; omega
    rw [hW.cell (p := ⟨w.heap.size, j, none⟩) (by simp)]
    rw [cell_of_row _ w.heap.size j _ 5 (0, 0) (heap_alloc_new w.drew _)]
    have e : (p.map bv).toArray ++ (Lib.strCells (bs z)).toArray = ((p ++ z).map bv).toArray := by
      rw [List.map_append]
      simp [Lib.strCells, bs_list]
      exact fun _ _ => rfl
    rw [e, Array.getElem?_append_left (by simp; omega)]
    simpa using hu
set_option maxRecDepth 100000 in
set_option maxHeartbeats 2000000 in
theorem rpack_calls (s : Bytes) (hs : s.length ≤ 100000) (w : World) : Calls Tryd.prog 44 #[.string (bs s)] w (fun e w' => ∃ v, e = .returned v ∧ LRow w.heap.size w' v (packP s) ∧ Below w.heap.size w w') := by
  go_enter Tryd.func44, Tryd.ntmps44
  go_wp2_with fail
  go_loopw [3, 4] (fun v i wr => ∃ (u : Value) (k : Nat), u = v ∧ k ≤ (s.length + 31) / 32 ∧ i = .int .i64 ((32 * k : Nat) : Int) ∧ LRow w.heap.size wr u (packN s k) ∧ Below w.heap.size w wr) (fun _ i _ => (s.length + 32 - intOf i).toNat)
  case atStart => exact ⟨_, 0, rfl, by omega, rfl, World.ownsRow_nil _ _ _ _, Below.refl _ _⟩
  case round =>
    obtain ⟨v, k, rfl, hk, rfl, OWN, HB⟩ := hrel
    obtain ⟨a, ha⟩ : ∃ a, 32 * k = a := ⟨_, rfl⟩
    rw [ha]
    by_cases hlt : a < s.length
    · obtain ⟨n, hn⟩ : ∃ n, min 32 (s.length - a) = n := ⟨_, rfl⟩
      have hmin : min ((a : Int) + 32) (s.length : Int) = ((a + n : Nat) : Int) := by omega
      have hchunk := Lib.hid (chunk_prog s k n (by rw [ha]; exact hn.symm))
      have hnext := Lib.hid (packN_succ s k)
      have hext := bs_ext s a (a + n)
      have hpl : ((s.drop a).take n).length = n := by rw [List.length_take, List.length_drop]; omega
      rw [show a + n - a = n by omega] at hext
      rw [ha] at hchunk
      have hzn : zero32.drop n = List.replicate (32 - n) 0 := by unfold zero32; rw [List.drop_replicate]
      rw [hzn] at hchunk
      have hql := packN_len s k
      generalize (s.drop a).take n = p at *
      generalize packN s k = q at *
      have hn1 : n ≤ 32 := by omega
      have hn2 : a + n ≤ s.length := by omega
      have ha2 : a ≤ 100000 := by omega
      have hsub : (32 : Int) - (p.length : Int) = ((32 - n : Nat) : Int) := by omega
      have hq1 : q.length ≤ 100000 := by omega
      have hpl2 : p.length ≤ 32 := by omega
      have hzl : (List.replicate (32 - n) (0 : UInt8)).length ≤ 32 := by simp
      have hnou := noughts_calls (32 - n) (by omega)
      replace hnou := Lib.hid hnou
      generalize List.replicate (32 - n) (0 : UInt8) = z0 at *
      replace hn := Lib.hid hn
      replace ha := Lib.hid ha
      replace hpl := Lib.hid hpl
      replace hzn := Lib.hid hzn
      replace OWN := Lib.hid OWN
      replace hql := Lib.hid hql
      go_wp2_with fail
      simp only [hext]
      refine (hnou.out _).mono ?_
      rintro e w1 ⟨rfl, h1⟩
      have OWN1 := Lib.hid (LRow.below OWN.out h1)
      have HB1 := Below.on h1 HB
      clear h1 OWN
      go_wp2_with (at_builtin; refine wpList_append_txt rfl _ _ rfl w.heap.size v q rfl (OWN1.out.on _) (p ++ z0) ⟨w1.heap.size, 0, none⟩ rfl (new_cell _ _ _) (by omega) (by have := HB1.size; simp; omega) ?_)
      intro v' w' hown hgrow _
      have hown3 := Lib.hid (show LRow w.heap.size w' v' (packN s (k + 1)) from by
        rw [hnext.out, ← hchunk.out]
        exact hown)
      have HB3 := below_app (HB1.alloc HB1.size _) (OWN1.out.on _) hgrow
      clear hown hgrow OWN1
      have ha3 : IntKind.i64.wrap ((a : Int) + 32) = (a : Int) + 32 := IntWalk.i64_in _ (by omega)
      go_wp2_with fail
      go_roundw
      case rel => exact ⟨_, k + 1, rfl, by have := ha.out; omega, by have := ha.out; rw [← this]; go_num, hown3.out, HB3⟩
      case measure => simp [intOf]; omega
    · have hend := pack_end s k hk (by omega)
      rw [hend] at OWN
      replace hend := Lib.hid hend
      replace OWN := Lib.hid OWN
      go_wp2_with fail
      go_ret
      exact ⟨_, rfl, OWN.out, HB⟩
set_option maxRecDepth 100000 in
set_option maxHeartbeats 4000000 in
theorem pack_calls (s : Bytes) (hs : s.length ≤ 100000) (w : World) : Calls Tryd.prog 36 #[.string (bs s)] w (fun e w' => ∃ v, e = .returned v ∧ LRow w.heap.size w' v (packP s) ∧ Below w.heap.size w w') := by
  have TX := Lib.hid (txt_own w s w.heap.size (Nat.le_refl _) (by omega))
  have TB := txt_below w (bs s)
  have TS := txt_size w (bs s)
  obtain ⟨W1, hW1⟩ : ∃ W1, txtCells w (bs s) = W1 := ⟨_, rfl⟩
  obtain ⟨cp, hcp⟩ : ∃ cp, grownCap w s.length 0 5 = cp := ⟨_, rfl⟩
  have hcl : s.length ≤ cp := by rw [← hcp]; exact grownCap_ge w _ 0 _
  rw [hcp] at TX
  rw [hW1] at TX TB TS
  obtain ⟨g, hg⟩ : ∃ g, w.heap.size = g := ⟨_, rfl⟩
  have hcell : ∀ j, j < s.length → W1.cell? ⟨g, j, none⟩ = some (bv (s.getD j 0)) := fun j hj => by
    obtain ⟨g', c', hv, _, _, _, _, h⟩ := TX.out.form
    simp only [Value.slice.injEq, Option.some.injEq, Addr.mk.injEq, true_and, and_true] at hv
    rw [← hg, hv.1]
    exact h j _ (by rw [List.getElem?_map, List.getElem?_eq_getElem hj, List.getD, List.getElem?_eq_getElem hj]; rfl)
  replace hcell := Lib.hid hcell
  have hg1 : g < W1.heap.size := by rw [TS, hg]; omega
  have TB1 := TB
  rw [hg] at TS
  clear TX
  go_enter Tryd.func36, Tryd.ntmps36
  go_wp2_with fail
  replace hcp := Lib.hid hcp
  replace hg := Lib.hid hg
  replace hW1 := Lib.hid hW1
  replace TS := Lib.hid TS
  go_loopw [3, 4] (fun v b wr => ∃ (u : Value) (k o c : Nat), u = v ∧ k ≤ (s.length + 31) / 32 ∧ b = .slice (some ⟨g, o, none⟩) (s.length - 32 * k) c ∧ (32 * k < s.length → o = 32 * k) ∧ s.length - 32 * k ≤ c ∧ LRow W1.heap.size wr u (packN s k) ∧ Below W1.heap.size W1 wr) (fun _ b _ => match b with | .slice _ n _ => n | _ => 0)
  case atStart => exact ⟨_, 0, 0, cp, rfl, by omega, rfl, fun _ => rfl, by omega, World.ownsRow_nil _ _ _ _, Below.refl _ _⟩
  case round =>
    obtain ⟨v, k, o, c, rfl, hk, rfl, ho, hc, OWN, HB⟩ := hrel
    have hmeas : ∀ j, s.length - 32 * (k + 1) < s.length - 32 * k ∨ s.length ≤ 32 * k := fun _ => by omega
    by_cases hlt : 32 * k < s.length
    · obtain rfl := ho hlt
      obtain ⟨a, ha⟩ : ∃ a, 32 * k = a := ⟨_, rfl⟩
      rw [ha] at hlt hc ⊢
      obtain ⟨r, hr⟩ : ∃ r, s.length - a = r := ⟨_, rfl⟩
      rw [hr] at hc ⊢
      obtain ⟨n, hn⟩ : ∃ n, min 32 r = n := ⟨_, rfl⟩
      have hr0 : 0 < r := by omega
      have hmin : min (32 : Int) (r : Int) = (n : Int) := by omega
      have hn0 : 0 < n := by omega
      have hnr : n ≤ r := by omega
      have hn32 : n ≤ 32 := by omega
      have hchunk := Lib.hid (chunk_prog s k n (by rw [ha, hr]; exact hn.symm))
      have hnext := Lib.hid (packN_succ s k)
      have hpl : ((s.drop a).take n).length = n := by rw [List.length_take, List.length_drop]; omega
      have hat : ∀ j, j < n → ((s.drop a).take n).getD j 0 = s.getD (a + j) 0 := fun j hj => by
        rw [List.getD, List.getD, List.getElem?_take_of_lt hj, List.getElem?_drop]
      rw [ha] at hchunk
      have hzl : (zero32.drop n).length = 32 - n := by rw [List.length_drop]; rfl
      have hpc : ∀ j, j < n → wr.cell? ⟨g, a + j, none⟩ = some (bv (((s.drop a).take n).getD j 0)) := fun j hj => by
        rw [HB.cell (p := ⟨g, a + j, none⟩) hg1, hcell.out _ (by omega), hat j hj]
      have hdz : (bs zero32).extract n 32 = bs (zero32.drop n) := bs_drop zero32 n
      have hql := packN_len s k
      generalize (s.drop a).take n = p at *
      generalize packN s k = q at *
      have hq1 : q.length ≤ 100000 := by omega
      replace hpc := Lib.hid hpc
      replace hpl := Lib.hid hpl
      replace hn := Lib.hid hn
      replace ha := Lib.hid ha
      replace hr := Lib.hid hr
      replace hql := Lib.hid hql
      replace OWN := Lib.hid OWN
      replace hdz := Lib.hid hdz
      replace hzl := Lib.hid hzl
      clear hat hmeas
      have hr1 : r ≤ 100000 := by have := hr.out; omega
      go_wp2_with fail
      refine (nought_calls _).mono ?_
      rintro e w1 ⟨rfl, h1⟩
      have hgr : g < wr.heap.size := Nat.lt_of_lt_of_le hg1 HB.size
      have OWN1 := Lib.hid (LRow.below OWN.out h1)
      have HB1 := HB.trans (h1.mono HB.size)
      obtain ⟨v1, w2, hr1, h2, hcv1⟩ := pack_append w1 g a n p (zero32.drop n) hpl.out hn32 hzl.out (fun j hj => by rw [h1.cell (p := ⟨g, a + j, none⟩) hgr]; exact hpc.out j hj)
      have OWN2 := Lib.hid (LRow.below OWN1.out h2)
      have HB2 := HB1.trans (h2.mono HB1.size)
      have hcv2 := hcv1 w2 (Below.refl _ _)
      rw [hchunk.out] at hcv2
      clear hcv1 OWN OWN1 HB1 hpc hcell h1 h2
      have hb2 := HB2.size
      have hq2 : q.length ≤ 1000000000 := by omega
      go_wp2_with (first | (at_builtin; refine wpList_append_run rfl _ _ _ _ rfl _ _ v1 rfl rfl hr1 ?_) | (at_builtin; refine wpList_append_txt rfl _ _ rfl W1.heap.size v q rfl (OWN2.out.on _) (chunkP s k) ⟨w2.heap.size, 0, none⟩ rfl (new_cell _ _ _) hq2 (Nat.le_trans hb2 (by simp)) ?_))
      intro v' w' hown hgrow _
      have hown3 := Lib.hid (show LRow W1.heap.size w' v' (packN s (k + 1)) from by
        rw [hnext.out]
        exact hown)
      have HB3 := below_app (HB2.alloc HB2.size _) (OWN2.out.on _) hgrow
      clear hown hgrow OWN2 hcv2 hr1
      have e1 : s.length - 32 * (k + 1) = r - n := by have := ha.out; have := hr.out; have := hn.out; omega
      have e2 : k + 1 ≤ (s.length + 31) / 32 := by have := ha.out; omega
      have e3 : 32 * (k + 1) < s.length → a + n = 32 * (k + 1) := fun _ => by have := ha.out; have := hr.out; have := hn.out; omega
      have e4 : ¬ 32 * (k + 1) < s.length ∨ n < c := by have := ha.out; have := hr.out; have := hn.out; omega
      replace e1 := Lib.hid e1
      replace e3 := Lib.hid e3
      by_cases hnc : n = c
      · have hcc : c - n = 0 := by omega
        subst hnc
        go_wp2_with fail
        exact ⟨⟨_, k + 1, a, 0, rfl, e2, by rw [e1.out]; congr 1; omega, fun h => by omega, by have := e1.out; omega, hown3.out, HB3⟩, hr0⟩
      · have hnc2 : n < c := by omega
        go_wp2_with fail
        exact ⟨⟨_, k + 1, a + n, c - n, rfl, e2, by rw [e1.out], e3.out, by have := e1.out; omega, hown3.out, HB3⟩, by show r - n < r; omega⟩
    · have hend := pack_end s k hk (by omega)
      have hz : s.length - 32 * k = 0 := by omega
      rw [hend] at OWN
      rw [hz]
      have hbw := Below.on HB TB1
      have hb1 : w.heap.size ≤ W1.heap.size := TB1.size
      replace hend := Lib.hid hend
      replace OWN := Lib.hid (LRow.mono OWN hb1)
      clear hmeas ho hz
      go_wp2_with fail
      go_ret
      exact ⟨_, rfl, OWN.out, hbw⟩
end Go.Proofs.YtpmmjomejackkaaDoor
