/- The sum of a text, by the reference. -/
import Derived.Test.YtpmmjomejackkaaDoorSha9
import Derived.Deep.AppendLies
import Derived.Deep.RegionLaw
set_option linter.unusedSimpArgs false
set_option linter.unusedVariables false
namespace Go.Proofs.YtpmmjomejackkaaDoor
open BigFrame Go.RowKit Go.Phx Go.Shelf
attribute [local go_sem] Oper.semAt_some

theorem rtake_lit (v : St) (g o c : Nat) (l : List UInt8) (hl : l.length = 64) (w : World) (hb : BytesAt w g o l) (ho : o + 64 ≤ 9223372036854775807) (hc : 64 ≤ c) :
    Calls Tryd.prog 63 #[.agg #[.int .u32 (vw v.a), .int .u32 (vw v.b), .int .u32 (vw v.c), .int .u32 (vw v.d), .int .u32 (vw v.e), .int .u32 (vw v.f), .int .u32 (vw v.g), .int .u32 (vw v.h)], .slice (some ⟨g, o, none⟩) 64 c] w
      (Ret w (.agg #[.int .u32 (vw (takeB v l).a), .int .u32 (vw (takeB v l).b), .int .u32 (vw (takeB v l).c), .int .u32 (vw (takeB v l).d), .int .u32 (vw (takeB v l).e), .int .u32 (vw (takeB v l).f), .int .u32 (vw (takeB v l).g), .int .u32 (vw (takeB v l).h)])) :=
  rtake_calls v g o c l hl w hb ho hc
theorem ownX_bytes {w : World} {base : Nat} {g cap : Nat} {p : List UInt8} (h : OwnX w base 5 (.slice (some ⟨g, 0, none⟩) p.length cap) p.length (p.map bv)) (o : Nat) (n : Nat) (hn : o + n ≤ p.length) : BytesAt w g o ((p.drop o).take n) := by
  obtain ⟨g', cap', hv, _, hlt, _, _, hc⟩ := h.form
  injection hv with hv
  injection hv with hv
  injection hv with hv
  subst hv
  refine ⟨hlt, fun j hj => ?_⟩
  have hj' : j < n := by simp at hj; omega
  rw [hc (o + j) (bv (p.getD (o + j) 0)) (by rw [List.getElem?_map, List.getElem?_eq_getElem (by omega), List.getD, List.getElem?_eq_getElem (by omega)]; rfl), vw_bw]
  unfold bv
  congr 4
  rw [List.getD, List.getD, List.getElem?_take_of_lt hj', List.getElem?_drop]

theorem grown_put8 (w : World) (b : Nat) (x0 x1 x2 x3 x4 x5 x6 x7 : Value) : w.grownBy ((((((((w.setCell ⟨b, 0, none⟩ x0).setCell ⟨b, 1, none⟩ x1).setCell ⟨b, 2, none⟩ x2).setCell ⟨b, 3, none⟩ x3).setCell ⟨b, 4, none⟩ x4).setCell ⟨b, 5, none⟩ x5).setCell ⟨b, 6, none⟩ x6).setCell ⟨b, 7, none⟩ x7) (some b) :=
  grown_set (grown_set (grown_set (grown_set (grown_set (grown_set (grown_set (grown_set (World.grownBy.refl w _))))))))
theorem news4 (W : World) (t : TypeId) (a b c d : Value) : ∀ j u, [a, b, c, d][j]? = some u → (W.alloc (.cells #[a, b, c, d] t)).drew.cell? ((⟨W.heap.size, 0, none⟩ : Addr).add j) = some u := by
  intro j u hu
  have hK := (Blk.new0 W t #[a, b, c, d]).drew
  rw [Addr.add_mid, hK.cell, Nat.zero_add]
  simpa using hu
theorem bytesW_bv (x : Wd) : (bytesW x).map bv = [.int .u8 (IntKind.u8.wrap (vw x / 16777216)), .int .u8 (IntKind.u8.wrap (vw x / 65536)), .int .u8 (IntKind.u8.wrap (vw x / 256)), .int .u8 (IntKind.u8.wrap (vw x))] := by
  have e : ∀ m : Nat, ((UInt8.ofNat m).toNat : Int) = IntKind.u8.wrap (m : Int) := fun m => by
    rw [IntKind.wrap_u8']
    simp
  unfold bytesW bv vw
  simp only [List.map_cons, List.map_nil, e]
  rfl
theorem words_all (v : St) : ((wS v).take 8).flatMap bytesW = v.bytes := rfl
theorem cS_lit (v : St) : #[.int .u32 (vw v.a), .int .u32 (vw v.b), .int .u32 (vw v.c), .int .u32 (vw v.d), .int .u32 (vw v.e), .int .u32 (vw v.f), .int .u32 (vw v.g), .int .u32 (vw v.h)] = cS v := rfl
set_option maxRecDepth 100000 in
set_option maxHeartbeats 4000000 in
theorem rsum_calls (l : List UInt8) (hl : l.length ≤ 100000000000000) (w : World) : Calls Tryd.prog 25 #[.string (bs l)] w (Ret w (.string (bs (sha l)))) := by
  obtain ⟨i0, hi, hz0, hz1, hz2⟩ := info_parts infoU8
  go_enter Tryd.func25, Tryd.ntmps25
  go_wp2_with fail
  refine (padded_calls l hl _).mono ?_
  rintro e w1 ⟨g, cap, rfl, hown, hB⟩
  have hgb : w.heap.size + 1 ≤ g := by
    obtain ⟨g', cap', hv, hb, _⟩ := hown.form
    injection hv with hv
    injection hv with hv
    injection hv with hv
    subst hv
    simpa using hb
  have hnc : (padS l).length ≤ cap := by
    obtain ⟨g', cap', hv, _, _, hn, _⟩ := hown.form
    injection hv with _ _ hv
    omega
  have hpl := padS_len l
  have hpm : (padS l).length ≤ 100000000000200 := by unfold padS tail64; simp; omega
  have TA := Lib.hid (takes_all l)
  obtain ⟨p, hp⟩ : ∃ p, padS l = p := ⟨_, rfl⟩
  rw [hp] at hown hnc hpl hpm TA ⊢
  clear hp
  have hown1 : OwnX w1 (w.heap.size + 1) 5 (.slice (some ⟨g, 0, none⟩) p.length cap) p.length (p.map bv) := by simpa using hown
  have OW := Lib.hid hown1
  clear hown hown1
  (have HBn : Below w.heap.size w w1 := Below.on hB (by repeat (first | assumption | exact Below.refl _ _ | refine Below.setCell ?_ (by first | exact Nat.le_refl _ | (simp; done) | omega | (simp; omega)) _ | refine Below.alloc ?_ (by first | exact Nat.le_refl _ | (simp; done) | omega | (simp; omega)) _ | refine below_drewN ?_ _ | refine Below.drew ?_ | refine Below.on (by assumption) ?_ | refine Below.via (by assumption) (by first | exact Nat.le_refl _ | (simp; done) | omega | (simp; omega)) ?_)); have N0 := Lib.hid (Blk.below (g := w.heap.size) (by repeat (first | with_reducible exact Blk.new0 _ _ _ | with_reducible exact Blk.new1 _ _ _ _ | with_reducible exact Blk.new2 _ _ _ _ _ | with_reducible exact Blk.new3 _ _ _ _ _ _ | with_reducible exact Blk.new4 _ _ _ _ _ _ _ | with_reducible exact Blk.newS1 _ _ _ _ _ | with_reducible exact Blk.newS2 _ _ _ _ _ _ _ | with_reducible exact Blk.newS3 _ _ _ _ _ _ _ _ _ | with_reducible apply Blk.set_ | with_reducible apply Blk.alloc | with_reducible apply Blk.drewN | with_reducible apply Blk.drew | (with_reducible apply Blk.over2; first | assumption | omega))) hB); (try simp only [List.setIfInBounds_toArray, List.set_cons_succ, List.set_cons_zero] at N0); (try clear HB); clear hB; have HB := HBn; clear HBn; have HZw1 := HB.size; have K0 := N0; clear N0; have k0 := Blk.cell K0.out; have f0 := Blk.free K0.out; have l0 := Blk.lt K0.out; have m0 := Nat.le_of_lt l0)
  go_wp2_with fail
  go_loopw [5] (fun i wr => ∃ m : Nat, 64 * m ≤ p.length ∧ i = .int .i64 ((64 * m : Nat) : Int) ∧ Blk wr w.heap.size 63 (cS (takes (chunks m p))) ∧ OwnX wr (w.heap.size + 1) 5 (.slice (some ⟨g, 0, none⟩) p.length cap) p.length (p.map bv) ∧ Below w.heap.size w wr)
    (fun i _ => (p.length - intOf i).toNat)
  case atStart => exact ⟨0, by omega, rfl, K0.out, OW.out, HB⟩
  case round =>
    clear K0 k0 f0 l0 m0 OW HB HZw1
    obtain ⟨m, hm, rfl, K0, OW, HB⟩ := hrel
    have HBY := fun h => ownX_bytes OW (64 * m) 64 h
    have HS := Lib.hid (takes_snoc (chunks m p) ((p.drop (64 * m)).take 64))
    rw [← chunks_succ] at HS
    obtain ⟨k, hk⟩ : ∃ k, 64 * m = k := ⟨_, rfl⟩
    rw [hk] at HBY hm HS ⊢
    have HK := Lib.hid hk
    by_cases hlt : k < p.length
    · have hk64 : k + 64 ≤ p.length := by omega
      have hby := Lib.hid (HBY hk64)
      have hyl : ((p.drop k).take 64).length = 64 := by simp; omega
      clear hk HBY
      generalize takes (chunks m p) = V at *
      generalize (p.drop k).take 64 = y at *
      unfold cS at K0
      replace K0 := Lib.hid K0
      replace OW := Lib.hid OW
      have HYL := Lib.hid hyl
      clear hyl
      (have k0 := Blk.cell K0.out; have f0 := Blk.free K0.out; have l0 := Blk.lt K0.out; have m0 := Nat.le_of_lt l0)
      have e1 : IntKind.i64.wrap ((k : Int) + 64) = (k : Int) + 64 := IntWalk.i64_in _ (by omega)
      go_wp2_with fail
      (refine wp_region_later_tail 7 (by kernel_rfl) (by kernel_rfl) ?_; simp only [List.take_succ_cons, List.take_zero, List.drop_succ_cons, List.drop_zero]; (repeat (go_big_quiet_step ((go_at_call 63; exact lq (rtake_lit V g k _ y HYL.out _ (hby.out.from (Later.below _) hby.out.1 (Later.below _).size) (by omega) (by omega)))))); refine wpQuiet_nil ?_; intro w' hB)
      clear k0 f0 l0 m0
      replace K0 := Lib.hid (K0.out.below hB)
      replace OW := Lib.hid (OW.out.below hB)
      replace HB := Below.on hB HB
      clear hB e1
      (have k0 := Blk.cell K0.out; have f0 := Blk.free K0.out; have l0 := Blk.lt K0.out; have m0 := Nat.le_of_lt l0)
      go_wp2_with fail
      have hK := HK.out
      go_roundw
      case rel => exact ⟨m + 1, by omega, by congr 1; omega, by rw [HS.out, ← cS_lit]; exact blk_put8 _ _ _ _ _ _ _ _ K0.out, OW.out.kept (grown_put8 w' w.heap.size _ _ _ _ _ _ _ _) (by simp [Value.ownBlock]; omega), below_put8 (Nat.le_refl _) _ _ _ _ _ _ _ _ HB⟩
      case measure => simp [intOf]; omega
    · have hmT : m = p.length / 64 := by omega
      rw [hmT] at K0
      obtain ⟨V, hV⟩ : ∃ V, takes (chunks (p.length / 64) p) = V := ⟨_, rfl⟩
      rw [hV] at K0 TA
      clear hV HS HBY OW hk HK hmT
      rw [cS_words] at K0
      replace K0 := Lib.hid K0
      go_wp2_with fail
      go_loopw [6, 7] (fun v i wr => ∃ k : Nat, k ≤ 8 ∧ i = .int .i64 k ∧ wr.ownsRow (w.heap.size + 1) 5 1 v (4 * k) ((((wS V).take k).flatMap bytesW).map bv) ∧ Blk wr w.heap.size 63 (cw (wS V)) ∧ Below w.heap.size w wr) (fun _ i _ => (8 - intOf i).toNat)
      case atStart => exact ⟨0, by omega, rfl, World.ownsRow_nil _ _ _ _, K0.out, HB⟩
      case round =>
        clear K0 HB
        obtain ⟨k, hk, rfl, OWN, K0, HB⟩ := hrel
        by_cases hlt : k < 8
        · have g0 := cw_get (L := wS V) (i := k) (by simp [wS]; omega)
          have hq : ((wS V).take (k + 1)).flatMap bytesW = ((wS V).take k).flatMap bytesW ++ bytesW ((wS V).getD k 0) := by
            rw [List.take_add_one, List.getElem?_eq_getElem (show k < (wS V).length by simp [wS]; omega), List.flatMap_append, List.getD, List.getElem?_eq_getElem (show k < (wS V).length by simp [wS]; omega)]
            simp
          have HQ := Lib.hid hq
          clear hq
          generalize ((wS V).take k).flatMap bytesW = q at *
          generalize (wS V).getD k 0 = x at *
          have v1 := vw_nonneg x
          replace OWN := Lib.hid OWN
          replace K0 := Lib.hid K0
          (have k0 := Blk.cell K0.out; have f0 := Blk.free K0.out; have l0 := Blk.lt K0.out; have m0 := Nat.le_of_lt l0)
          go_wp2_with fail
          have hc0 := (k0 k).trans g0
          have hne : some w.heap.size ≠ u6.ownBlock := (fun e => by have := (OWN.out.lt _ e.symm).1; omega)
          go_region_held3 (fun w' => w'.cell? ⟨w.heap.size, k, none⟩ = some (.int .u32 (vw x))) (first | go_keep | exact (World.cell?_of_block (a := ⟨w.heap.size, k, none⟩) (hgrow2.block _ (by simp; omega) hne)).trans (by simp (maxDischargeDepth := 9) [go_sem, *])) ((refine step_append_lies _ (by rfl) _ _ _ (by rfl) (w.heap.size + 1) 5 i0 (.int .u8 0) 1 1 Tryd.underlying39 hi hz0 hz1 hz2 (by rfl) (by omega) _ (4 * k) (q.map bv) (by rfl) (OWN.out.alloc _).drew ⟨_, 0, none⟩ 4 4 _ (by rfl) (by rfl) (news4 _ _ _ _ _ _) (by simp [Value.oneCell']) (by omega) (by unfold maxLen; omega) (by omega) (by have := HB.size; simp; omega) (wr.heap.size + 1) (by simp) ?_; intro g2 cap2 w2 hown2 hgrow2 hat2 hlt2))
          have hown3 := hown2
          rw [← bytesW_bv, ← List.map_append, ← HQ.out] at hown3
          have K1 := ((K0.out.alloc (.cells #[.int .u8 (IntKind.u8.wrap (vw x / 16777216)), .int .u8 (IntKind.u8.wrap (vw x / 65536)), .int .u8 (IntKind.u8.wrap (vw x / 256)), .int .u8 (IntKind.u8.wrap (vw x))] 5)).drew).grown hgrow2 hne
          have HB2 := ((HB.alloc HB.size (.cells #[.int .u8 (IntKind.u8.wrap (vw x / 16777216)), .int .u8 (IntKind.u8.wrap (vw x / 65536)), .int .u8 (IntKind.u8.wrap (vw x / 256)), .int .u8 (IntKind.u8.wrap (vw x))] 5)).drew).grown hgrow2 (by have := HB.size; simp; omega) (fun j e => by have := (OWN.out.lt _ e).1; omega)
          clear hown2 hgrow2 hat2 hc0
          replace hown3 := Lib.hid hown3
          go_wp2_with fail
          go_roundw
          case rel => exact ⟨k + 1, by omega, by go_num, hown3.out, K1, HB2⟩
          case measure => simp [intOf]; omega
        · obtain rfl : k = 8 := by omega
          rw [words_all, TA.out] at OWN
          obtain ⟨g3, cap3, rfl⟩ := ownsRow_succ (k := 31) OWN
          have hcv := conv_cells wr g3 (sha l) 32 cap3 (sha_len _) (own_cells OWN)
          clear OWN K0
          simp only [show ((8 : Nat) : Int) = 8 from rfl]
          go_wp2_with fail
          go_ret
          exact ⟨rfl, HB⟩
end Go.Proofs.YtpmmjomejackkaaDoor
