/- A tree's level, by the reference. -/
import Derived.Test.YtpmmjomejackkaaDoorTxt
import Derived.Test.YtpmmjomejackkaaDoorSszR
import Derived.Test.YtpmmjomejackkaaDoorSszM
import Derived.Test.YtpmmjomejackkaaDoorHeldIn
set_option linter.unusedSimpArgs false
set_option linter.unusedVariables false
namespace Go.Proofs.YtpmmjomejackkaaDoor
open BigFrame Go.RowKit Go.Phx Go.Shelf
attribute [local go_sem] Oper.semAt_some

/-- a row of texts of the call's own, made with room, and texts that came in behind none of its own -/
theorem start_append (w : World) (base : Nat) (hb : base ≤ w.heap.size) (n : Nat) (hn : n ≤ 1048576) (A : Option Addr) (c : Nat) (L : List Bytes) (hL : L.length ≤ 1048576) (hs : Txts w A L) :
    ∃ v w1, (Instr.makeSlice 22 (.int .i64 0) (.int .i64 n)).run Tryd.prog w = .ok v w1 ∧ Below w.heap.size w w1 ∧
      ∃ v' w', (Builtin.append_ #[22, 22] 22 #[v, .slice A L.length c]).run Tryd.prog w1 = .ok v' w' ∧ LRow base w' v' L ∧ Below w.heap.size w w' := by
  obtain ⟨i0, hi, hz0, hz1, hz2⟩ := info_parts infoStr
  obtain ⟨w1, hmk, hown, hgr⟩ := run_make_own (P := Tryd.prog) w base 22 9 i0 (.string ByteArray.empty) 1 Tryd.underlying22 hi hz0 hz1 .i64 .i64 n (by rw [hz2]; omega) (by unfold maxLen; omega) hb
  have hB1 : Below w.heap.size w w1 := (Below.refl w.heap.size w).grown hgr (Nat.le_refl _) (fun k e => by cases e)
  refine ⟨_, w1, hmk, hB1, ?_⟩
  by_cases h0 : L = []
  · subst h0
    refine ⟨.slice (some ⟨w.heap.size, 0, none⟩) 0 n, w1, ?_, hown, hB1⟩
    have hsc : Builtin.firstCells 1 0 (.slice A 0 c) = pure #[] := by
      cases A <;> simp [Builtin.firstCells, loadCells, loadCellsFrom]
    simp [Builtin.append_, run_underlying Tryd.underlying22, sizeOf, typeInfo, hi, hz1, Builtin.lenOf, hsc, storeCells]
  · have hpos : 0 < L.length := by cases L with | nil => exact absurd rfl h0 | cons => simp
    obtain ⟨b, o, rfl, hb2, _⟩ := hs.at 0 hpos
    have hcs : ∀ (j : Nat) u, (L.map tv)[j]? = some u → w1.cell? ((⟨b, o, none⟩ : Addr).add j) = some u := fun j u hu => by
      have hj : j < L.length := by have := (List.getElem?_eq_some_iff.1 hu).1; simpa using this
      obtain ⟨b', o', he, hlt, hc⟩ := hs.at j hj
      simp only [Option.some.injEq, Addr.mk.injEq, and_true] at he
      obtain ⟨rfl, rfl⟩ := he
      rw [Addr.add_mid, hB1.cell (p := ⟨b, o + j, none⟩) hlt, hc]
      rw [List.getElem?_map, List.getElem?_eq_getElem hj] at hu
      simp only [Option.map_some, Option.some.injEq] at hu
      rw [← hu, List.getD, List.getElem?_eq_getElem hj]
      rfl
    obtain ⟨v', w', hr, h2, h3, _, _⟩ := run_append_own_at (P := Tryd.prog) w1 base 22 22 9 i0 (.string ByteArray.empty) 1 16 Tryd.underlying22 hi hz0 hz1 hz2 rfl (by decide) _ 0 [] hown ⟨b, o, none⟩ L.length c (L.map tv) (by simp) hcs (fun u hu => by
      simp only [List.mem_map] at hu
      obtain ⟨x, _, rfl⟩ := hu
      rfl) (by unfold maxLen; omega) (by omega) (Nat.le_trans hb hB1.size)
    refine ⟨v', w', hr, ?_, hB1.grown h3 hB1.size fun j e => (?_ : w.heap.size ≤ j)⟩
    · have := h2
      simp only [Nat.zero_add, List.nil_append] at this
      exact this
    · simp [Value.ownBlock] at e
      omega
theorem pow_wrap (d : Nat) (hd : d ≤ 10) : wrap64 ((2 : Int) ^ d) = ((2 ^ d : Nat) : Int) := by
  have hp10 : 2 ^ d ≤ 1024 := Nat.le_trans (Nat.pow_le_pow_right (by omega) hd) (by decide)
  have : ((2 : Int) ^ d) = ((2 ^ d : Nat) : Int) := by simp
  rw [this]
  generalize 2 ^ d = N at *
  exact IntWalk.wrap64_in (N : Int) (by omega)
set_option maxRecDepth 100000 in
set_option maxHeartbeats 8000000 in
theorem level_calls (A : Option Addr) (c : Nat) (L : List Bytes) (d up : Nat) (hd : d ≤ 10) (hL : L.length ≤ 2 ^ d) (hup : up ≤ d) (hall : ∀ x ∈ L, x.length = 32) (w : World) (hs : Txts w A L) :
    Calls Tryd.prog 72 #[.slice A L.length c, .int .i64 d, .int .i64 up] w (fun e w' => ∃ v, e = .returned v ∧ LRow w.heap.size w' v (fullL L d up) ∧ Below w.heap.size w w') := by
  have hw2 := pow_wrap d hd
  have hN10 : 2 ^ d ≤ 1024 := Nat.le_trans (Nat.pow_le_pow_right (by omega) hd) (by decide)
  have hfull := fun k => fullL_len L d hL k
  have hfa := full_all L d hall
  have hf0 : fullL L d 0 = L ++ List.replicate (2 ^ d - L.length) zero32 := rfl
  have hfs : ∀ k, fullL L d (k + 1) = Phx.pairUp (fullL L d k) := fun _ => rfl
  have hpw : ∀ k, k < d → 2 ^ (d - k) = 2 * 2 ^ (d - (k + 1)) := even_two d
  obtain ⟨N, hN⟩ : ∃ N, 2 ^ d = N := ⟨_, rfl⟩
  rw [hN] at hw2 hL hN10 hf0
  obtain ⟨v1, w1, hmk, hB1, v2, w2, hap, R2, hB2⟩ := start_append w w.heap.size (Nat.le_refl _) N (by omega) A c L (by omega) hs
  have hNle : ∀ k, 2 ^ (d - k) ≤ 1024 := fun k => by rw [← hN] at hN10; exact Nat.le_trans (Nat.pow_le_pow_right (by omega) (by omega)) hN10
  replace hN := Lib.hid hN
  replace hfull := Lib.hid hfull
  replace hfa := Lib.hid hfa
  replace hf0 := Lib.hid hf0
  replace hfs := Lib.hid hfs
  replace hpw := Lib.hid hpw
  replace hNle := Lib.hid hNle
  go_enter Tryd.func72, Tryd.ntmps72
  go_wp2_with (at_builtin; refine wpList_append_run rfl _ _ _ _ rfl v1 _ v2 rfl rfl hap ?_)
  clear hap hmk hB1 hs
  go_loopw [7] (fun v wr => ∃ (u : Value) (j : Nat), u = v ∧ L.length + j ≤ N ∧ LRow w.heap.size wr u (L ++ List.replicate j zero32) ∧ Below w.heap.size w wr) (fun v _ => match v with | .slice _ n _ => N - n | _ => 0)
  case atStart => exact ⟨_, 0, rfl, by omega, by simpa using R2, hB2⟩
  case round =>
    clear R2 hB2
    obtain ⟨v, j, rfl, hj, OWN, HB⟩ := hrel
    obtain ⟨A1, c1, hv, T⟩ := OWN.txts
    clear T
    have hpad := Lib.hid (pad_step L j)
    have hll : (L ++ List.replicate j zero32).length = L.length + j := by simp
    rw [hll] at hv
    subst hv
    by_cases hlt : L.length + j < N
    · obtain ⟨q, hq⟩ : ∃ q, L ++ List.replicate j zero32 = q := ⟨_, rfl⟩
      rw [hq] at OWN hll hpad
      obtain ⟨n, hn⟩ : ∃ n, L.length + j = n := ⟨_, rfl⟩
      rw [hn] at hll OWN hlt ⊢
      have hl1 : q.length ≤ 1048576 := by omega
      replace hq := Lib.hid hq
      replace hll := Lib.hid hll
      replace hn := Lib.hid hn
      replace OWN := Lib.hid OWN
      have hz32 : List.replicate 32 (0 : UInt8) = zero32 := rfl
      have hnou := noughts_calls 32 (by omega)
      rw [hz32] at hnou
      replace hnou := Lib.hid hnou
      clear hz32
      go_wp2_with fail
      refine (hnou.out _).mono ?_
      rintro e w3 ⟨rfl, h3⟩
      have OWN1 := Lib.hid (LRow.below OWN.out h3)
      have HB1 := Below.on h3 HB
      have hb1 := HB1.size
      clear h3 OWN
      go_wp2_with (at_builtin; refine wpList_append_txt rfl _ _ rfl w.heap.size (.slice A1 n c1) q rfl (OWN1.out.on _) zero32 ⟨w3.heap.size, 0, none⟩ rfl (new_cell _ _ _) (by omega) (by simp; omega) ?_)
      intro v' w' hown hgrow _
      obtain ⟨A4, c4, hv4, _⟩ := LRow.txts hown
      rw [List.length_append, List.length_singleton, hll.out] at hv4
      subst hv4
      have hown3 := Lib.hid (show LRow w.heap.size w' (.slice A4 (n + 1) c4) (L ++ List.replicate (j + 1) zero32) from by
        rw [hpad.out]
        exact hown)
      have HB3 := below_app (HB1.alloc HB1.size _) (OWN1.out.on _) hgrow
      clear hown hgrow OWN1
      go_wp2_with fail
      refine ⟨⟨_, j + 1, rfl, by have := hn.out; omega, hown3.out, HB3⟩, ?_⟩
      show N - (n + 1) < N - n
      omega
    · have hNj : L.length + j = N := by omega
      have hfz : fullL L d 0 = L ++ List.replicate j zero32 := by rw [hf0.out]; congr 2; omega
      rw [← hfz] at OWN
      rw [hNj] at OWN ⊢
      replace hNj := Lib.hid hNj
      replace OWN := Lib.hid OWN
      replace hfz := Lib.hid hfz
      clear hll hpad hlt hj
      go_wp2_with fail
      try simp only [hw2]
      replace hw2 := Lib.hid hw2
      go_loopw [7, 8] (fun v i wr => ∃ (u : Value) (k : Nat), u = v ∧ k ≤ up ∧ i = .int .i64 k ∧ LRow w.heap.size wr u (fullL L d k) ∧ Below w.heap.size w wr) (fun _ i _ => (up - intOf i).toNat)
      case atStart => exact ⟨_, 0, rfl, by omega, rfl, OWN.out, HB⟩
      case round =>
        clear OWN HB hfz
        obtain ⟨v, k, rfl, hk, rfl, OWN, HB⟩ := hrel
        obtain ⟨wo, rfl⟩ : ∃ wo : World, wo = wr := ⟨_, rfl⟩
        by_cases hlt : k < up
        · have hF := Lib.hid (hfs.out k)
          have hFl := hfull.out k (by omega)
          have hpos : 0 < 2 ^ (d - k) := Nat.two_pow_pos _
          have hnle := hNle.out k
          have h2M := hpw.out k (by omega)
          have hFa := hfa.out k
          generalize fullL L d k = F at *
          obtain ⟨M, hM⟩ : ∃ M, 2 ^ (d - (k + 1)) = M := ⟨_, rfl⟩
          rw [hM] at h2M
          rw [h2M] at hFl hpos hnle
          obtain ⟨g, c3, rfl, hgb, hgc⟩ := OWN.form1 (by intro h; rw [h] at hFl; simp at hFl; omega)
          obtain ⟨n, hn⟩ : ∃ n, F.length = n := ⟨_, rfl⟩
          rw [hn] at hFl OWN hgc ⊢
          replace hM := Lib.hid hM
          replace h2M := Lib.hid h2M
          have hpl : (Phx.pairUp F).length = M := by rw [pairUp_len, hn]; omega
          have hstep := fun m (h : 2 * m + 1 < F.length) => pairUp_step F m h
          rw [hn] at hstep
          replace hstep := Lib.hid hstep
          replace hpl := Lib.hid hpl
          replace hFl := Lib.hid hFl
          replace hn := Lib.hid hn
          replace OWN := Lib.hid OWN
          have hn1 : n ≤ 1024 := by have := hFl.out; omega
          have hgw : g < wo.heap.size := (OWN.out.lt g rfl).2
          go_wp2_with fail
          go_loopw [9, 10] (fun x i wr => ∃ (u : Value) (m : Nat), u = x ∧ m ≤ M ∧ i = .int .i64 ((2 * m : Nat) : Int) ∧ LRow wo.heap.size wr u ((Phx.pairUp F).take m) ∧ Below wo.heap.size wo wr) (fun _ i _ => (n + 2 - intOf i).toNat)
          case atStart => exact ⟨_, 0, rfl, by omega, rfl, World.ownsRow_nil _ _ _ _, Below.refl _ _⟩
          case round =>
            obtain ⟨u, m, rfl, hm, rfl, ROW, HBi⟩ := hrel
            by_cases hmM : m < M
            · have ha2 : 2 * m + 1 < n := by have := hFl.out; omega
              have hst := Lib.hid (hstep.out m ha2)
              have OWNr := LRow.below OWN.out HBi
              have c1 := LRow.at OWNr (2 * m) (by rw [hn.out]; omega)
              have c2 := LRow.at OWNr (2 * m + 1) (by rw [hn.out]; omega)
              have hx := hFa _ (getD_mem (l := F) (k := 2 * m) (by rw [hn.out]; omega))
              have hy := hFa _ (getD_mem (l := F) (k := 2 * m + 1) (by rw [hn.out]; omega))
              generalize F.getD (2 * m) [] = x at *
              generalize F.getD (2 * m + 1) [] = y at *
              obtain ⟨t, ht⟩ : ∃ t, (Phx.pairUp F).take m = t := ⟨_, rfl⟩
              rw [ht] at ROW hst
              have htl : t.length ≤ 1024 := by rw [← ht, List.length_take, hpl.out]; omega
              obtain ⟨a, ha⟩ : ∃ a, 2 * m = a := ⟨_, rfl⟩
              rw [ha] at c1 c2 ha2 ⊢
              have hi1 := fun W => index_txt g n c3 (a : Int) a rfl (by omega) W
              have hi2 := fun W => index_txt g n c3 ((a : Int) + 1) (a + 1) (by omega) ha2 W
              have p2 : IntKind.i64.wrap ((a : Int) + 1) = (a : Int) + 1 := IntWalk.i64_in _ (by omega)
              have p3 : IntKind.i64.wrap ((a : Int) + 2) = (a : Int) + 2 := IntWalk.i64_in _ (by omega)
              have hgr : g < wr.heap.size := Nat.lt_of_lt_of_le hgw HBi.size
              have hb1 := HBi.size
              have hltn : (a : Int) < (n : Int) := by omega
              replace ht := Lib.hid ht
              replace ha := Lib.hid ha
              replace ROW := Lib.hid ROW
              replace OWNr := Lib.hid OWNr
              clear hFa
              go_wp2_with fail
              have hwf : ∀ f, Fence.wide.fn f := fun _ => trivial
              refine (wpIn_wide (n := 9)).1 ?_
              refine wpIn_round_held (fun w' => w'.cell? ⟨g, a, none⟩ = some (.string (bs x)) ∧ w'.cell? ⟨g, a + 1, none⟩ = some (.string (bs y))) (fun j => decide (j < 14)) (by kernel_rfl) ?_
              have hS0 : wr.drew.cell? ⟨g, a, none⟩ = some (.string (bs x)) ∧ wr.drew.cell? ⟨g, a + 1, none⟩ = some (.string (bs y)) := ⟨c1, c2⟩
              refine S_take (fun _ => trivial) 0 (u) (by kernel_rfl) rfl (by kernel_rfl) (by kernel_rfl) (by kernel_rfl) (by kernel_rfl) (onlyN_panic _ _) hS0 (by rfl) (fun w' h => by obtain ⟨h1, h2⟩ := h; go_simp) ?_
              refine S_take (fun _ => trivial) 1 (.slice (some ⟨g, 0, none⟩) n c3) (by kernel_rfl) rfl (by kernel_rfl) (by kernel_rfl) (by kernel_rfl) (by kernel_rfl) (onlyN_panic _ _) hS0 (by rfl) (fun w' h => by obtain ⟨h1, h2⟩ := h; go_simp) ?_
              refine S_take (fun _ => trivial) 2 (.int .i64 a) (by kernel_rfl) rfl (by kernel_rfl) (by kernel_rfl) (by kernel_rfl) (by kernel_rfl) (onlyN_panic _ _) hS0 (by rfl) (fun w' h => by obtain ⟨h1, h2⟩ := h; go_simp) ?_
              refine S_take (fun _ => trivial) 3 (.pointer (some ⟨g, a, none⟩)) (by kernel_rfl) rfl (by kernel_rfl) (by kernel_rfl) (by kernel_rfl) (by kernel_rfl) (onlyN_panic _ _) hS0 (by rfl) (fun w' h => by obtain ⟨h1, h2⟩ := h; go_simp) ?_
              refine S_take (fun _ => trivial) 4 (.string (bs x)) (by kernel_rfl) rfl (by kernel_rfl) (by kernel_rfl) (by kernel_rfl) (by kernel_rfl) (onlyN_panic _ _) hS0 (by rfl) (fun w' h => by obtain ⟨h1, h2⟩ := h; go_simp) ?_
              refine S_take (fun _ => trivial) 5 (.slice (some ⟨g, 0, none⟩) n c3) (by kernel_rfl) rfl (by kernel_rfl) (by kernel_rfl) (by kernel_rfl) (by kernel_rfl) (onlyN_panic _ _) hS0 (by rfl) (fun w' h => by obtain ⟨h1, h2⟩ := h; go_simp) ?_
              refine S_take (fun _ => trivial) 6 (.int .i64 a) (by kernel_rfl) rfl (by kernel_rfl) (by kernel_rfl) (by kernel_rfl) (by kernel_rfl) (onlyN_panic _ _) hS0 (by rfl) (fun w' h => by obtain ⟨h1, h2⟩ := h; go_simp) ?_
              refine S_take (fun _ => trivial) 7 (.int .i64 ((a : Int) + 1)) (by kernel_rfl) rfl (by kernel_rfl) (by kernel_rfl) (by kernel_rfl) (by kernel_rfl) (onlyN_panic _ _) hS0 (by rfl) (fun w' h => by obtain ⟨h1, h2⟩ := h; go_simp) ?_
              refine S_take (fun _ => trivial) 8 (.pointer (some ⟨g, a + 1, none⟩)) (by kernel_rfl) rfl (by kernel_rfl) (by kernel_rfl) (by kernel_rfl) (by kernel_rfl) (onlyN_panic _ _) hS0 (by rfl) (fun w' h => by obtain ⟨h1, h2⟩ := h; go_simp) ?_
              refine S_take (fun _ => trivial) 9 (.string (bs y)) (by kernel_rfl) rfl (by kernel_rfl) (by kernel_rfl) (by kernel_rfl) (by kernel_rfl) (onlyN_panic _ _) hS0 (by rfl) (fun w' h => by obtain ⟨h1, h2⟩ := h; go_simp) ?_
              refine S_take (fun _ => trivial) 10 (.string (bs (x ++ y))) (by kernel_rfl) rfl (by kernel_rfl) (by kernel_rfl) (by kernel_rfl) (by kernel_rfl) (onlyN_panic _ _) hS0 (by rfl) (fun w' h => by obtain ⟨h1, h2⟩ := h; go_simp) ?_
              refine S_one 11 (by kernel_rfl) rfl (fun K hK => ?_)
              go_simp
              gi_wp2_with (gi_at_call 25; refine (callsIn_wide.2 (rsum_calls (x ++ y) (by rw [List.length_append]; omega) _)).mono ?_; rintro e w3 ⟨rfl, h3⟩)
              have c1' : w3.cell? ⟨g, a, none⟩ = some (.string (bs x)) := by rw [h3.cell (p := ⟨g, a, none⟩) hgr]; exact c1
              have c2' : w3.cell? ⟨g, a + 1, none⟩ = some (.string (bs y)) := by rw [h3.cell (p := ⟨g, a + 1, none⟩) hgr]; exact c2
              refine ⟨fun _ => ⟨c1', c2'⟩, ?_⟩
              have ROW1 := Lib.hid (LRow.below (LRow.drew ROW.out) h3)
              have HB1 : Below wo.heap.size wo w3 := Below.on h3 HBi.drew
              clear hS0 ROW h3
              have hz1 := HB1.size
              refine S_one 12 (by kernel_rfl) rfl (fun K hK => ?_)
              go_simp
              have hg3 : g < w3.heap.size := by omega
              have ca : (w3.alloc (.cells #[.string (bs (sha (x ++ y)))] 9)).cell? ⟨g, a, none⟩ = some (.string (bs x)) := (((Below.refl _ w3).alloc (Nat.le_refl _) _).cell (p := ⟨g, a, none⟩) hg3).trans c1'
              have cb : (w3.alloc (.cells #[.string (bs (sha (x ++ y)))] 9)).cell? ⟨g, a + 1, none⟩ = some (.string (bs y)) := (((Below.refl _ w3).alloc (Nat.le_refl _) _).cell (p := ⟨g, a + 1, none⟩) hg3).trans c2'
              refine hK _ _ ⟨fun _ => ⟨ca, cb⟩, ?_⟩
              clear hK K
              refine S_oneL 13 (by kernel_rfl) rfl ?_
              refine wpListIn_append_txt rfl _ _ rfl wo.heap.size u t (by rfl) (ROW1.out.on _) (sha (x ++ y)) ⟨w3.heap.size, 0, none⟩ (by rfl) (new_cell _ _ _) (by omega) (by simp; omega) ?_
              intro v' w' hown hgrow _
              have hub : some g ≠ u.ownBlock := fun e => by have := (ROW1.out.lt g e.symm).1; omega
              have cw : ∀ j, w'.cell? ⟨g, j, none⟩ = (w3.alloc (.cells #[.string (bs (sha (x ++ y)))] 9)).cell? ⟨g, j, none⟩ := fun j => World.cell?_of_block (a := ⟨g, j, none⟩) (hgrow.block g (by simp; omega) hub)
              refine ⟨fun _ => ⟨(cw a).trans ca, (cw (a + 1)).trans cb⟩, ?_⟩
              have ROW2 := Lib.hid (show LRow wo.heap.size w' v' ((Phx.pairUp F).take (m + 1)) from by rw [hst.out]; exact hown)
              have HB2 := below_app (HB1.alloc HB1.size _) (ROW1.out.on _) hgrow
              clear hown hgrow ROW1 cw ca cb c1' c2' hub
              refine S_end 14 (ls := [_]) rfl (fun j hj => by simp; omega) (by kernel_rfl) ?_
              gi_wp2_with fail
              refine ⟨rfl, ?_⟩
              go_wp2_with fail
              go_roundw
              case rel => exact ⟨_, m + 1, rfl, by omega, by have := ha.out; rw [show 2 * (m + 1) = a + 2 by omega]; go_num, ROW2.out, HB2⟩
              case measure => simp [intOf]; omega
            · obtain rfl : m = M := by omega
              rw [List.take_of_length_le (by rw [hpl.out]; exact Nat.le_refl _), ← hF.out] at ROW
              have hnm : 2 * m = n := by have := hFl.out; omega
              rw [hnm]
              have HBo := HB.trans (HBi.mono HB.size)
              have ROW2 := Lib.hid (LRow.mono ROW HB.size)
              replace hnm := Lib.hid hnm
              clear ROW hFa
              go_wp2_with fail
              go_roundw
              case rel => exact ⟨_, k + 1, rfl, by omega, by go_num, ROW2.out, HBo⟩
              case measure => simp [intOf]; omega
        · obtain rfl : k = up := by omega
          replace OWN := Lib.hid OWN
          go_wp2_with fail
          go_ret
          exact ⟨_, rfl, OWN.out, HB⟩
end Go.Proofs.YtpmmjomejackkaaDoor
