/- All texts that are summed up in a tree, by the reference. -/
import Derived.Test.YtpmmjomejackkaaDoorSszT
set_option linter.unusedSimpArgs false
set_option linter.unusedVariables false
namespace Go.Proofs.YtpmmjomejackkaaDoor
open BigFrame Go.RowKit Go.Phx Go.Shelf
attribute [local go_sem] Oper.semAt_some

theorem LRow.same {base g n c : Nat} {w w' : World} {L : List Bytes} (h : LRow base w (.slice (some ⟨g, 0, none⟩) n c) L) (hb : w'.heap[g]? = w.heap[g]?) : LRow base w' (.slice (some ⟨g, 0, none⟩) n c) L := by
  refine ⟨h.1, ?_⟩
  rcases h.2 with ⟨h1, _⟩ | ⟨g', cap, cur, h1, hb', hg, r⟩
  · simp at h1
  · refine .inr ⟨g', cap, cur, h1, hb', ?_, r⟩
    simp only [Value.slice.injEq, Option.some.injEq, Addr.mk.injEq, and_true, true_and] at h1
    rw [← h1.1, hb, h1.1]
    exact hg
set_option maxRecDepth 100000 in
set_option maxHeartbeats 8000000 in
theorem sums_calls (A : Option Addr) (c : Nat) (L : List Bytes) (d : Nat) (hd : d ≤ 10) (hL : L.length ≤ 2 ^ d) (hall : ∀ x ∈ L, x.length = 32) (w : World) (hs : Txts w A L) :
    Calls Tryd.prog 41 #[.slice A L.length c, .int .i64 d] w (fun e w' => ∃ v, e = .returned v ∧ LRow w.heap.size w' v (sumsP L d d) ∧ Below w.heap.size w w') := by
  have hfull := fun k => fullL_len L d hL k
  have hfa := full_all L d hall
  have hN10 : 2 ^ d ≤ 1024 := Nat.le_trans (Nat.pow_le_pow_right (by omega) hd) (by decide)
  have hNle : ∀ k, 2 ^ (d - k) ≤ 1024 := fun k => Nat.le_trans (Nat.pow_le_pow_right (by omega) (by omega)) hN10
  have hpw : ∀ k, k < d → 2 ^ (d - k) = 2 * 2 ^ (d - (k + 1)) := even_two d
  have hss := sumsP_succ L d
  have hsl := sums_len L d hL
  have hdN : ∀ n, n ≤ d → n * 2 ^ d ≤ 10240 := fun n hn => by
    have := Nat.mul_le_mul (show n ≤ 10 by omega) hN10
    omega
  have hlc := fun k (hk : k ≤ d) W (h : Below w.heap.size w W) => level_calls A c L d k hd hL hk hall W (Txts.below hs h)
  replace hfull := Lib.hid hfull
  replace hfa := Lib.hid hfa
  replace hpw := Lib.hid hpw
  replace hNle := Lib.hid hNle
  replace hss := Lib.hid hss
  replace hsl := Lib.hid hsl
  replace hdN := Lib.hid hdN
  replace hlc := Lib.hid hlc
  clear hN10 hL
  go_enter Tryd.func41, Tryd.ntmps41
  go_wp2_with fail
  go_loopw [5, 6] (fun v i wr => ∃ (u : Value) (k : Nat), u = v ∧ k ≤ d ∧ i = .int .i64 k ∧ LRow w.heap.size wr u (sumsP L d k) ∧ Below w.heap.size w wr) (fun _ i _ => (d - intOf i).toNat)
  case atStart => exact ⟨_, 0, rfl, by omega, rfl, World.ownsRow_nil _ _ _ _, Below.refl _ _⟩
  case round =>
    obtain ⟨v, k, rfl, hk, rfl, OWN, HB⟩ := hrel
    obtain ⟨wq, rfl⟩ : ∃ wq : World, wq = wr := ⟨_, rfl⟩
    by_cases hlt : k < d
    · have hF := Lib.hid (hss.out k)
      have hFl := hfull.out k (by omega)
      have hpos : 0 < 2 ^ (d - k) := Nat.two_pow_pos _
      have hnle := hNle.out k
      have h2M := hpw.out k hlt
      have hFa := hfa.out k
      have hql := Nat.le_trans (hsl.out k hk) (hdN.out k hk)
      have hlv := Lib.hid (hlc.out k hk wq HB)
      generalize sumsP L d k = q at *
      generalize fullL L d k = F at *
      obtain ⟨M, hM⟩ : ∃ M, 2 ^ (d - (k + 1)) = M := ⟨_, rfl⟩
      rw [hM] at h2M
      rw [h2M] at hFl hpos hnle
      replace hM := Lib.hid hM
      replace h2M := Lib.hid h2M
      have hvb : ∀ j, v.ownBlock = some j → j < wq.heap.size := fun j hj => (OWN.lt j hj).2
      replace hvb := Lib.hid hvb
      replace OWN := Lib.hid OWN
      go_wp2_with fail
      refine hlv.out.mono ?_
      rintro e w3 ⟨v3, rfl, R, h3⟩
      have OWN1 := Lib.hid (LRow.below OWN.out h3)
      have HB1 := Below.on h3 HB
      clear OWN hlv
      obtain ⟨g, c3, rfl, hgb, hgc⟩ := R.form1 (by intro h; rw [h] at hFl; simp at hFl; omega)
      obtain ⟨n, hn⟩ : ∃ n, F.length = n := ⟨_, rfl⟩
      rw [hn] at hFl R hgc ⊢
      have hpl : (pairT F).length = M := by rw [pairT_len, hn]; omega
      have hstep := fun m (h : 2 * m + 1 < F.length) => pairT_step F m h
      rw [hn] at hstep
      replace hstep := Lib.hid hstep
      replace hpl := Lib.hid hpl
      replace hFl := Lib.hid hFl
      replace hn := Lib.hid hn
      have hn1 : n ≤ 1024 := by have := hFl.out; omega
      have hg0 : wq.heap.size ≤ g := hgb
      have hgw : g < w3.heap.size := (R.lt g rfl).2
      have hz3 := h3.size
      have hzr := HB.size
      obtain ⟨wo, rfl⟩ : ∃ wo : World, wo = w3 := ⟨_, rfl⟩
      replace R := Lib.hid R
      go_wp2_with fail
      go_loopw [5, 8] (fun x i wi => ∃ (u : Value) (m : Nat), u = x ∧ m ≤ M ∧ i = .int .i64 ((2 * m : Nat) : Int) ∧ LRow w.heap.size wi u (q ++ (pairT F).take m) ∧ Below w.heap.size w wi ∧ wi.heap[g]? = wo.heap[g]? ∧ u.ownBlock ≠ some g) (fun _ i _ => (n + 2 - intOf i).toNat)
      case atStart => exact ⟨_, 0, rfl, by omega, rfl, by simpa using OWN1.out, HB1, rfl, fun e => by have := hvb.out g e; omega⟩
      case round =>
        clear HB HB1 OWN1 hvb
        obtain ⟨u, m, rfl, hm, rfl, ROW, HBi, hgk, hug⟩ := hrel
        obtain ⟨wi, rfl⟩ : ∃ wi : World, wi = wr := ⟨_, rfl⟩
        by_cases hmM : m < M
        · have ha2 : 2 * m + 1 < n := by have := hFl.out; omega
          have hst := Lib.hid (hstep.out m ha2)
          have Ri := R.out.same hgk
          have c1 := LRow.at Ri (2 * m) (by rw [hn.out]; omega)
          have c2 := LRow.at Ri (2 * m + 1) (by rw [hn.out]; omega)
          have hx := hFa _ (getD_mem (l := F) (k := 2 * m) (by rw [hn.out]; omega))
          have hy := hFa _ (getD_mem (l := F) (k := 2 * m + 1) (by rw [hn.out]; omega))
          generalize F.getD (2 * m) [] = x at *
          generalize F.getD (2 * m + 1) [] = y at *
          obtain ⟨t, ht⟩ : ∃ t, q ++ (pairT F).take m = t := ⟨_, rfl⟩
          have hnx : q ++ (pairT F).take (m + 1) = t ++ [x ++ y] := by rw [hst.out, ← List.append_assoc, ht]
          rw [ht] at ROW
          have htl : t.length ≤ 20000 := by rw [← ht, List.length_append, List.length_take, hpl.out]; omega
          obtain ⟨a, ha⟩ : ∃ a, 2 * m = a := ⟨_, rfl⟩
          rw [ha] at c1 c2 ha2 ⊢
          have hi1 := fun W => index_txt g n c3 (a : Int) a rfl (by omega) W
          have hi2 := fun W => index_txt g n c3 ((a : Int) + 1) (a + 1) (by omega) ha2 W
          have p2 : IntKind.i64.wrap ((a : Int) + 1) = (a : Int) + 1 := IntWalk.i64_in _ (by omega)
          have p3 : IntKind.i64.wrap ((a : Int) + 2) = (a : Int) + 2 := IntWalk.i64_in _ (by omega)
          have hgr : g < wi.heap.size := (Ri.lt g rfl).2
          have hltn : (a : Int) < (n : Int) := by omega
          have hb1 := HBi.size
          replace ht := Lib.hid ht
          replace ha := Lib.hid ha
          replace ROW := Lib.hid ROW
          replace hnx := Lib.hid hnx
          replace hgk := Lib.hid hgk
          replace hug := Lib.hid hug
          clear hFa Ri
          go_wp2_with fail
          have hwf : ∀ f, Fence.wide.fn f := fun _ => trivial
          refine (wpIn_wide (n := 9)).1 ?_
          refine wpIn_round_held (fun w' => w'.cell? ⟨g, a, none⟩ = some (.string (bs x)) ∧ w'.cell? ⟨g, a + 1, none⟩ = some (.string (bs y))) (fun j => decide (j < 13)) (by kernel_rfl) ?_
          have hS0 : wi.drew.cell? ⟨g, a, none⟩ = some (.string (bs x)) ∧ wi.drew.cell? ⟨g, a + 1, none⟩ = some (.string (bs y)) := ⟨c1, c2⟩
          refine S_take (fun _ => trivial) 0 (u) (by kernel_rfl) rfl (by kernel_rfl) (by kernel_rfl) (by kernel_rfl) (by kernel_rfl) (onlyN_panic _ _) hS0 (by rfl) (fun w' h => by obtain ⟨h1, h2⟩ := h; go_simp) ?_
          refine S_take (fun _ => trivial) 1 (.slice (some ⟨g, 0, none⟩) n c3) (by kernel_rfl) rfl (by kernel_rfl) (by kernel_rfl) (by kernel_rfl) (by kernel_rfl) (onlyN_panic _ _) hS0 (by rfl) (fun w' h => by obtain ⟨h1, h2⟩ := h; go_simp) ?_
          refine S_take (fun _ => trivial) 2 (.int .i64 a) (by kernel_rfl) rfl (by kernel_rfl) (by kernel_rfl) (by kernel_rfl) (by kernel_rfl) (onlyN_panic _ _) hS0 (by rfl) (fun w' h => by obtain ⟨h1, h2⟩ := h; go_simp) ?_
          refine S_take (fun _ => trivial) 3 (.pointer (some ⟨g, a, none⟩)) (by kernel_rfl) rfl (by kernel_rfl) (by kernel_rfl) (by kernel_rfl) (by kernel_rfl) (onlyN_panic _ _) hS0 (by rfl) (fun w' h => by obtain ⟨h1, h2⟩ := h; go_simp) ?_
          refine S_take (fun _ => trivial) 4 (.string (bs x)) (by kernel_rfl) rfl (by kernel_rfl) (by kernel_rfl) (by kernel_rfl) (by kernel_rfl) (onlyN_panic _ _) hS0 (by rfl) (fun w' h => by obtain ⟨h1, h2⟩ := h; go_simp) ?_
          refine S_take (fun _ => trivial) 5 (.slice (some ⟨g, 0, none⟩) n c3) (by kernel_rfl) rfl (by kernel_rfl) (by kernel_rfl) (by kernel_rfl) (by kernel_rfl) (onlyN_panic _ _) hS0 (by rfl) (fun w' h => by obtain ⟨h1, h2⟩ := h; go_simp) ?_
          refine S_take (fun _ => trivial) 6 (.int .i64 a) (by kernel_rfl) rfl (by kernel_rfl) (by kernel_rfl) (by kernel_rfl) (by kernel_rfl) (onlyN_panic _ _) hS0 (by rfl) (fun w' h => by obtain ⟨h1, h2⟩ := h; go_simp) ?_
          refine S_take (fun _ => trivial) 7 (.int .i64 ((a : Int) + 1)) (by kernel_rfl) rfl (by kernel_rfl) (by kernel_rfl) (by kernel_rfl) (by kernel_rfl) (onlyN_panic _ _) hS0 (by rfl) (fun w' h => by obtain ⟨h1, h2⟩ := h; go_simp) ?_
          refine S_take (fun _ => trivial) 8 (.pointer (some ⟨g, a + 1, none⟩)) (by kernel_rfl) rfl (by kernel_rfl) (by kernel_rfl) (by kernel_rfl) (by kernel_rfl) (onlyN_panic _ _) hS0 (by rfl) (fun w' h => by obtain ⟨h1, h2⟩ := h; go_simp) ?_
          refine S_take (fun _ => trivial) 9 (.string (bs y)) (by kernel_rfl) rfl (by kernel_rfl) (by kernel_rfl) (by kernel_rfl) (by kernel_rfl) (onlyN_panic _ _) hS0 (by rfl) (fun w' h => by obtain ⟨h1, h2⟩ := h; go_simp) ?_
          refine S_take (fun _ => trivial) 10 (.string (bs (x ++ y))) (by kernel_rfl) rfl (by kernel_rfl) (by kernel_rfl) (by kernel_rfl) (by kernel_rfl) (onlyN_panic _ _) hS0 (by rfl) (fun w' h => by obtain ⟨h1, h2⟩ := h; go_simp) ?_
          refine S_one 11 (by kernel_rfl) rfl (fun K hK => ?_)
          go_simp
          have ca : (wi.alloc (.cells #[.string (bs (x ++ y))] 9)).cell? ⟨g, a, none⟩ = some (.string (bs x)) := (((Below.refl _ wi).alloc (Nat.le_refl _) _).cell (p := ⟨g, a, none⟩) hgr).trans c1
          have cb : (wi.alloc (.cells #[.string (bs (x ++ y))] 9)).cell? ⟨g, a + 1, none⟩ = some (.string (bs y)) := (((Below.refl _ wi).alloc (Nat.le_refl _) _).cell (p := ⟨g, a + 1, none⟩) hgr).trans c2
          refine hK _ _ ⟨fun _ => ⟨ca, cb⟩, ?_⟩
          clear hK K
          refine S_oneL 12 (by kernel_rfl) rfl ?_
          refine wpListIn_append_txt rfl _ _ rfl w.heap.size u t (by rfl) (LRow.drew (ROW.out.on _)) (x ++ y) ⟨wi.heap.size, 0, none⟩ (by rfl) (new_cell _ _ _) (by omega) (by simp; omega) ?_
          intro v' w' hown hgrow hat
          have cg : w'.heap[g]? = wi.heap[g]? := (hgrow.block g (by simp; omega) (fun e => hug.out e.symm)).trans (Below.heap_alloc _ _ g hgr)
          have hug' : v'.ownBlock ≠ some g := fun e => by
            rcases hat with h | h
            · exact hug.out (h.symm.trans e)
            · rw [h] at e
              injection e with e
              simp at e
              omega
          have cw : ∀ j, w'.cell? ⟨g, j, none⟩ = wi.cell? ⟨g, j, none⟩ := fun j => World.cell?_of_block (a := ⟨g, j, none⟩) cg
          refine ⟨fun _ => ⟨(cw a).trans c1, (cw (a + 1)).trans c2⟩, ?_⟩
          have ROW2 := Lib.hid (show LRow w.heap.size w' v' (q ++ (pairT F).take (m + 1)) from by rw [hnx.out]; exact hown)
          have HB2 := below_app (HBi.alloc HBi.size _).drew (LRow.drew (ROW.out.on _)) hgrow
          have hgk2 := Lib.hid (cg.trans hgk.out)
          replace hug' := Lib.hid hug'
          clear hown hgrow ROW cw ca cb cg hat
          refine S_end 13 (ls := [_]) rfl (fun j hj => by simp; omega) (by kernel_rfl) ?_
          gi_wp2_with fail
          refine ⟨rfl, ?_⟩
          go_wp2_with fail
          go_roundw
          case rel => exact ⟨_, m + 1, rfl, by omega, by have := ha.out; rw [show 2 * (m + 1) = a + 2 by omega]; go_num, ROW2.out, HB2, hgk2.out, hug'.out⟩
          case measure => simp [intOf]; omega
        · obtain rfl : m = M := by omega
          rw [List.take_of_length_le (by rw [hpl.out]; exact Nat.le_refl _), ← hF.out] at ROW
          have hnm : 2 * m = n := by have := hFl.out; omega
          rw [hnm]
          replace ROW := Lib.hid ROW
          replace hnm := Lib.hid hnm
          clear hFa hgk hug
          go_wp2_with fail
          go_roundw
          case rel => exact ⟨_, k + 1, rfl, by omega, by go_num, ROW.out, HBi⟩
          case measure => simp [intOf]; omega
    · obtain rfl : k = d := by omega
      replace OWN := Lib.hid OWN
      go_wp2_with fail
      go_ret
      exact ⟨_, rfl, OWN.out, HB⟩
end Go.Proofs.YtpmmjomejackkaaDoor
