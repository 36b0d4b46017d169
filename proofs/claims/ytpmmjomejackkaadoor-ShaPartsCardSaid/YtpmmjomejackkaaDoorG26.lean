/- What the later texts stand on (Sha10, Laid, Lrow, Bld, Hex, ShaL): plain laws and walks, each by its own conditions. -/
import Derived.Test.YtpmmjomejackkaaDoorG25
import Derived.Deep.AppendLies
import Derived.Deep.RegionLaw
import Derived.Test.YtpmmjomejackkaaDoorRows
import Derived.Test.YtpmmjomejackkaaDoorCards
import Derived.Test.YtpmmjomejackkaaDoorTie
import Derived.Test.YtpmmjomejackkaaDoorG12
import Derived.Deep.DeepHandedRow
import Derived.Lib.LaidTab
import Derived.SevenTiedAt
import Derived.Test.YtpmmjomejackkaaDoorG28
import Derived.Maps.OwnIn
import Derived.Test.YtpmmjomejackkaaDoorShelf
import Derived.Lib.Builder
set_option linter.unusedSimpArgs false
set_option linter.unusedVariables false
section
set_option linter.unusedSimpArgs false
set_option linter.unusedVariables false
namespace Go.Proofs.YtpmmjomejackkaaDoor
open BigFrame Go.RowKit Go.Phx Go.Shelf
attribute [local go_sem] Oper.semAt_some

theorem rtake_lit (v : St) (g o c : Nat) (l : List UInt8) (hl : l.length = 64) (w : World) (hb : BytesAt w g o l) (ho : o + 64 ≤ 9223372036854775807) (hc : 64 ≤ c) :
    Calls Tryd.prog 63 #[.agg #[.int .u32 (vw v.a), .int .u32 (vw v.b), .int .u32 (vw v.c), .int .u32 (vw v.d), .int .u32 (vw v.e), .int .u32 (vw v.f), .int .u32 (vw v.g), .int .u32 (vw v.h)], .slice (some ⟨g, o, none⟩) 64 c] w
      (Ret w (.agg #[.int .u32 (vw (takeB v l).a), .int .u32 (vw (takeB v l).b), .int .u32 (vw (takeB v l).c), .int .u32 (vw (takeB v l).d), .int .u32 (vw (takeB v l).e), .int .u32 (vw (takeB v l).f), .int .u32 (vw (takeB v l).g), .int .u32 (vw (takeB v l).h)])) :=
  rtake_calls v g o c l hl w hb ho hc
theorem ownX_bytes {w : World} {base : Nat} {g cap : Nat} {p : List UInt8} (h : OwnX w base 5 (.slice (some ⟨g, 0, none⟩) p.length cap) p.length (p.map bv)) (o : Nat) (n : Nat) (hn : o + n ≤ p.length) : BytesAt w g o ((p.drop o).take n) := by
  obtain ⟨g', cap', hv, _, hlt, _, _, hc⟩ := h.form
  injection hv with hv
  injection hv with hv
  injection hv with hv
  subst hv
  refine ⟨hlt, fun j hj => ?_⟩
  have hj' : j < n := by simp at hj; omega
  rw [hc (o + j) (bv (p.getD (o + j) 0)) (by rw [List.getElem?_map, List.getElem?_eq_getElem (by omega), List.getD, List.getElem?_eq_getElem (by omega)]; rfl), vw_bw]
  unfold bv
  congr 4
  rw [List.getD, List.getD, List.getElem?_take_of_lt hj', List.getElem?_drop]

theorem grown_put8 (w : World) (b : Nat) (x0 x1 x2 x3 x4 x5 x6 x7 : Value) : w.grownBy ((((((((w.setCell ⟨b, 0, none⟩ x0).setCell ⟨b, 1, none⟩ x1).setCell ⟨b, 2, none⟩ x2).setCell ⟨b, 3, none⟩ x3).setCell ⟨b, 4, none⟩ x4).setCell ⟨b, 5, none⟩ x5).setCell ⟨b, 6, none⟩ x6).setCell ⟨b, 7, none⟩ x7) (some b) :=
  grown_set (grown_set (grown_set (grown_set (grown_set (grown_set (grown_set (grown_set (World.grownBy.refl w _))))))))
theorem news4 (W : World) (t : TypeId) (a b c d : Value) : ∀ j u, [a, b, c, d][j]? = some u → (W.alloc (.cells #[a, b, c, d] t)).drew.cell? ((⟨W.heap.size, 0, none⟩ : Addr).add j) = some u := by
  intro j u hu
  have hK := (Blk.new0 W t #[a, b, c, d]).drew
  rw [Addr.add_mid, hK.cell, Nat.zero_add]
  simpa using hu
theorem bytesW_bv (x : Wd) : (bytesW x).map bv = [.int .u8 (IntKind.u8.wrap (vw x / 16777216)), .int .u8 (IntKind.u8.wrap (vw x / 65536)), .int .u8 (IntKind.u8.wrap (vw x / 256)), .int .u8 (IntKind.u8.wrap (vw x))] := by
  have e : ∀ m : Nat, ((UInt8.ofNat m).toNat : Int) = IntKind.u8.wrap (m : Int) := fun m => by
    rw [IntKind.wrap_u8']
    simp
  unfold bytesW bv vw
  simp only [List.map_cons, List.map_nil, e]
  rfl
theorem words_all (v : St) : ((wS v).take 8).flatMap bytesW = v.bytes := rfl
theorem cS_lit (v : St) : #[.int .u32 (vw v.a), .int .u32 (vw v.b), .int .u32 (vw v.c), .int .u32 (vw v.d), .int .u32 (vw v.e), .int .u32 (vw v.f), .int .u32 (vw v.g), .int .u32 (vw v.h)] = cS v := rfl
set_option maxRecDepth 100000 in
set_option maxHeartbeats 4000000 in
theorem rsum_calls (l : List UInt8) (hl : l.length ≤ 100000000000000) (w : World) : Calls Tryd.prog 25 #[.string (bs l)] w (Ret w (.string (bs (sha l)))) := by
  obtain ⟨i0, hi, hz0, hz1, hz2⟩ := info_parts infoU8
  go_enter Tryd.func25, Tryd.ntmps25
  go_wp2_with fail
  refine (padded_calls l hl _).mono ?_
  rintro e w1 ⟨g, cap, rfl, hown, hB⟩
  have hgb : w.heap.size + 1 ≤ g := by
    obtain ⟨g', cap', hv, hb, _⟩ := hown.form
    injection hv with hv
    injection hv with hv
    injection hv with hv
    subst hv
    simpa using hb
  have hnc : (padS l).length ≤ cap := by
    obtain ⟨g', cap', hv, _, _, hn, _⟩ := hown.form
    injection hv with _ _ hv
    omega
  have hpl := padS_len l
  have hpm : (padS l).length ≤ 100000000000200 := by unfold padS tail64; simp; omega
  have TA := Lib.hid (takes_all l)
  obtain ⟨p, hp⟩ : ∃ p, padS l = p := ⟨_, rfl⟩
  rw [hp] at hown hnc hpl hpm TA ⊢
  clear hp
  have hown1 : OwnX w1 (w.heap.size + 1) 5 (.slice (some ⟨g, 0, none⟩) p.length cap) p.length (p.map bv) := by simpa using hown
  have OW := Lib.hid hown1
  clear hown hown1
  (have HBn : Below w.heap.size w w1 := Below.on hB (by repeat (first | assumption | exact Below.refl _ _ | refine Below.setCell ?_ (by first | exact Nat.le_refl _ | (simp; done) | omega | (simp; omega)) _ | refine Below.alloc ?_ (by first | exact Nat.le_refl _ | (simp; done) | omega | (simp; omega)) _ | refine below_drewN ?_ _ | refine Below.drew ?_ | refine Below.on (by assumption) ?_ | refine Below.via (by assumption) (by first | exact Nat.le_refl _ | (simp; done) | omega | (simp; omega)) ?_)); have N0 := Lib.hid (Blk.below (g := w.heap.size) (by repeat (first | with_reducible exact Blk.new0 _ _ _ | with_reducible exact Blk.new1 _ _ _ _ | with_reducible exact Blk.new2 _ _ _ _ _ | with_reducible exact Blk.new3 _ _ _ _ _ _ | with_reducible exact Blk.new4 _ _ _ _ _ _ _ | with_reducible exact Blk.newS1 _ _ _ _ _ | with_reducible exact Blk.newS2 _ _ _ _ _ _ _ | with_reducible exact Blk.newS3 _ _ _ _ _ _ _ _ _ | with_reducible apply Blk.set_ | with_reducible apply Blk.alloc | with_reducible apply Blk.drewN | with_reducible apply Blk.drew | (with_reducible apply Blk.over2; first | assumption | omega))) hB); (try simp only [List.setIfInBounds_toArray, List.set_cons_succ, List.set_cons_zero] at N0); (try clear HB); clear hB; have HB := HBn; clear HBn; have HZw1 := HB.size; have K0 := N0; clear N0; have k0 := Blk.cell K0.out; have f0 := Blk.free K0.out; have l0 := Blk.lt K0.out; have m0 := Nat.le_of_lt l0)
  go_wp2_with fail
  go_loopw [5] (fun i wr => ∃ m : Nat, 64 * m ≤ p.length ∧ i = .int .i64 ((64 * m : Nat) : Int) ∧ Blk wr w.heap.size 63 (cS (takes (chunks m p))) ∧ OwnX wr (w.heap.size + 1) 5 (.slice (some ⟨g, 0, none⟩) p.length cap) p.length (p.map bv) ∧ Below w.heap.size w wr)
    (fun i _ => (p.length - intOf i).toNat)
  case atStart => exact ⟨0, by omega, rfl, K0.out, OW.out, HB⟩
  case round =>
    clear K0 k0 f0 l0 m0 OW HB HZw1
    obtain ⟨m, hm, rfl, K0, OW, HB⟩ := hrel
    have HBY := fun h => ownX_bytes OW (64 * m) 64 h
    have HS := Lib.hid (takes_snoc (chunks m p) ((p.drop (64 * m)).take 64))
    rw [← chunks_succ] at HS
    obtain ⟨k, hk⟩ : ∃ k, 64 * m = k := ⟨_, rfl⟩
    rw [hk] at HBY hm HS ⊢
    have HK := Lib.hid hk
    by_cases hlt : k < p.length
    · have hk64 : k + 64 ≤ p.length := by omega
      have hby := Lib.hid (HBY hk64)
      have hyl : ((p.drop k).take 64).length = 64 := by simp; omega
      clear hk HBY
      generalize takes (chunks m p) = V at *
      generalize (p.drop k).take 64 = y at *
      unfold cS at K0
      replace K0 := Lib.hid K0
      replace OW := Lib.hid OW
      have HYL := Lib.hid hyl
      clear hyl
      (have k0 := Blk.cell K0.out; have f0 := Blk.free K0.out; have l0 := Blk.lt K0.out; have m0 := Nat.le_of_lt l0)
      have e1 : IntKind.i64.wrap ((k : Int) + 64) = (k : Int) + 64 := IntWalk.i64_in _ (by omega)
      go_wp2_with fail
      (refine wp_region_later_tail 7 (by kernel_rfl) (by kernel_rfl) ?_; simp only [List.take_succ_cons, List.take_zero, List.drop_succ_cons, List.drop_zero]; (repeat (go_big_quiet_step ((go_at_call 63; exact lq (rtake_lit V g k _ y HYL.out _ (hby.out.from (Later.below _) hby.out.1 (Later.below _).size) (by omega) (by omega)))))); refine wpQuiet_nil ?_; intro w' hB)
      clear k0 f0 l0 m0
      replace K0 := Lib.hid (K0.out.below hB)
      replace OW := Lib.hid (OW.out.below hB)
      replace HB := Below.on hB HB
      clear hB e1
      (have k0 := Blk.cell K0.out; have f0 := Blk.free K0.out; have l0 := Blk.lt K0.out; have m0 := Nat.le_of_lt l0)
      go_wp2_with fail
      have hK := HK.out
      go_roundw
      case rel => exact ⟨m + 1, by omega, by congr 1; omega, by rw [HS.out, ← cS_lit]; exact blk_put8 _ _ _ _ _ _ _ _ K0.out, OW.out.kept (grown_put8 w' w.heap.size _ _ _ _ _ _ _ _) (by simp [Value.ownBlock]; omega), below_put8 (Nat.le_refl _) _ _ _ _ _ _ _ _ HB⟩
      case measure => simp [intOf]; omega
    · have hmT : m = p.length / 64 := by omega
      rw [hmT] at K0
      obtain ⟨V, hV⟩ : ∃ V, takes (chunks (p.length / 64) p) = V := ⟨_, rfl⟩
      rw [hV] at K0 TA
      clear hV HS HBY OW hk HK hmT
      rw [cS_words] at K0
      replace K0 := Lib.hid K0
      go_wp2_with fail
      go_loopw [6, 7] (fun v i wr => ∃ k : Nat, k ≤ 8 ∧ i = .int .i64 k ∧ wr.ownsRow (w.heap.size + 1) 5 1 v (4 * k) ((((wS V).take k).flatMap bytesW).map bv) ∧ Blk wr w.heap.size 63 (cw (wS V)) ∧ Below w.heap.size w wr) (fun _ i _ => (8 - intOf i).toNat)
      case atStart => exact ⟨0, by omega, rfl, World.ownsRow_nil _ _ _ _, K0.out, HB⟩
      case round =>
        clear K0 HB
        obtain ⟨k, hk, rfl, OWN, K0, HB⟩ := hrel
        by_cases hlt : k < 8
        · have g0 := cw_get (L := wS V) (i := k) (by simp [wS]; omega)
          have hq : ((wS V).take (k + 1)).flatMap bytesW = ((wS V).take k).flatMap bytesW ++ bytesW ((wS V).getD k 0) := by
            rw [List.take_add_one, List.getElem?_eq_getElem (show k < (wS V).length by simp [wS]; omega), List.flatMap_append, List.getD, List.getElem?_eq_getElem (show k < (wS V).length by simp [wS]; omega)]
            simp
          have HQ := Lib.hid hq
          clear hq
          generalize ((wS V).take k).flatMap bytesW = q at *
          generalize (wS V).getD k 0 = x at *
          have v1 := vw_nonneg x
          replace OWN := Lib.hid OWN
          replace K0 := Lib.hid K0
          (have k0 := Blk.cell K0.out; have f0 := Blk.free K0.out; have l0 := Blk.lt K0.out; have m0 := Nat.le_of_lt l0)
          go_wp2_with fail
          have hc0 := (k0 k).trans g0
          have hne : some w.heap.size ≠ u6.ownBlock := (fun e => by have := (OWN.out.lt _ e.symm).1; omega)
          go_region_held3 (fun w' => w'.cell? ⟨w.heap.size, k, none⟩ = some (.int .u32 (vw x))) (first | go_keep | exact (World.cell?_of_block (a := ⟨w.heap.size, k, none⟩) (hgrow2.block _ (by simp; omega) hne)).trans (by simp (maxDischargeDepth := 9) [go_sem, *])) ((refine step_append_lies _ (by rfl) _ _ _ (by rfl) (w.heap.size + 1) 5 i0 (.int .u8 0) 1 1 Tryd.underlying39 hi hz0 hz1 hz2 (by rfl) (by omega) _ (4 * k) (q.map bv) (by rfl) (OWN.out.alloc _).drew ⟨_, 0, none⟩ 4 4 _ (by rfl) (by rfl) (news4 _ _ _ _ _ _) (by simp [Value.oneCell']) (by omega) (by unfold maxLen; omega) (by omega) (by have := HB.size; simp; omega) (wr.heap.size + 1) (by simp) ?_; intro g2 cap2 w2 hown2 hgrow2 hat2 hlt2))
          have hown3 := hown2
          rw [← bytesW_bv, ← List.map_append, ← HQ.out] at hown3
          have K1 := ((K0.out.alloc (.cells #[.int .u8 (IntKind.u8.wrap (vw x / 16777216)), .int .u8 (IntKind.u8.wrap (vw x / 65536)), .int .u8 (IntKind.u8.wrap (vw x / 256)), .int .u8 (IntKind.u8.wrap (vw x))] 5)).drew).grown hgrow2 hne
          have HB2 := ((HB.alloc HB.size (.cells #[.int .u8 (IntKind.u8.wrap (vw x / 16777216)), .int .u8 (IntKind.u8.wrap (vw x / 65536)), .int .u8 (IntKind.u8.wrap (vw x / 256)), .int .u8 (IntKind.u8.wrap (vw x))] 5)).drew).grown hgrow2 (by have := HB.size; simp; omega) (fun j e => by have := (OWN.out.lt _ e).1; omega)
          clear hown2 hgrow2 hat2 hc0
          replace hown3 := Lib.hid hown3
          go_wp2_with fail
          go_roundw
          case rel => exact ⟨k + 1, by omega, by go_num, hown3.out, K1, HB2⟩
          case measure => simp [intOf]; omega
        · obtain rfl : k = 8 := by omega
          rw [words_all, TA.out] at OWN
          obtain ⟨g3, cap3, rfl⟩ := ownsRow_succ (k := 31) OWN
          have hcv := conv_cells wr g3 (sha l) 32 cap3 (sha_len _) (own_cells OWN)
          clear OWN K0
          simp only [show ((8 : Nat) : Int) = 8 from rfl]
          go_wp2_with fail
          go_ret
          exact ⟨rfl, HB⟩
end Go.Proofs.YtpmmjomejackkaaDoor
end
section
namespace Go.Proofs.YtpmmjomejackkaaDoor
open Go.ChangeShapes Go.WideShapes Go.ChangeAt Go.RowKit Go.Joins Go.Phx
set_option maxRecDepth 100000

theorem gK : Tryd.prog.globalNamed "pharos/sha.k" = some 0 := by kernel_rfl
theorem gKType : (Tryd.prog.globals[0]?).map (·.type) = some 114 := by kernel_rfl
theorem cellsK : Tryd.prog.cellsOf 114 = 64 := by kernel_rfl
theorem cellsU32 : Tryd.prog.cellsOf 62 = 1 := by kernel_rfl
theorem table {W : World} (h : laidMetH Tryd.prog [("pharos/sha.k", Rows.laid_pharos_sha_k)] W) : Lib.TabIs Tryd.prog W "pharos/sha.k" .u32 (kTab.map vw) :=
  Lib.tabIs_of_head (rest := []) gK gKType Tryd.underlying114 Tryd.underlying62 cellsU32 cellsK h
theorem hasK_of {W : World} (h : laidMetH Tryd.prog [("pharos/sha.k", Rows.laid_pharos_sha_k)] W) : HasK W := by
  have hc : ∀ i, i < 64 → W.cell? ⟨0, i, none⟩ = some (.int .u32 (vw (kTab.getD i 0))) := fun i hi => by
    rw [(table h).cell gK i (by rw [List.length_map]; exact hi)]
    simp [List.getD, List.getElem?_eq_getElem (show i < kTab.length from hi)]
  exact ⟨hc, World.block_lt_of_cell? _ _ (hc 0 (by decide))⟩
noncomputable def laidWorld (os : Os) : World :=
  { World.holding Tryd.prog os ⟨#[], #[], []⟩ with heap := (World.holding Tryd.prog os ⟨#[], #[], []⟩).heap.modify 0 fun
      | .cells _ t frozen => .cells (cw kTab) t frozen
      | o => o }

section
variable {H : Type}
theorem bulk_part {d : DataW H} {l : List (DataW H)} (h : d ∈ l) : Rows.uptoBulk d ≤ Rows.uptoBulkAll l := by
  induction l with
  | nil => cases h
  | cons x r ih =>
    simp only [Rows.uptoBulkAll]
    rcases List.mem_cons.1 h with rfl | e
    · omega
    · have := ih e
      omega
theorem bulk_of {ds gs : List (DataW H)} (h : Rows.uptoSmall H (ds ++ gs) = true) {d : DataW H} (hd : d ∈ ds) : Rows.uptoBulk d ≤ 1048576 :=
  Nat.le_trans (bulk_part (List.mem_append_left gs hd)) (of_decide_eq_true h)
theorem bulk_string {l : List UInt8} (h : Rows.uptoBulk (DataW.lit (H := H) (.string l)) ≤ 1048576) : l.length ≤ 1048576 := by
  simp only [Rows.uptoBulk] at h
  omega
theorem bulk_strs (xs : List ByteArray) : Rows.uptoBulkAll (H := H) (strs xs) = xs.length + ((xs.map fun s => s.data.toList).flatten).length := by
  unfold strs
  induction xs with
  | nil => rfl
  | cons x xs ih =>
    simp only [List.map_cons, Rows.uptoBulkAll, Rows.uptoBulk, ih, List.length_cons, List.flatten_cons, List.length_append]
    omega
theorem bulk_slice {xs : List ByteArray} {d : DataW H} (hd : d = .nil ∧ xs = [] ∨ ∃ rest, d = .slice (strs xs) rest) (h : Rows.uptoBulk d ≤ 1048576) : xs.length + ((xs.map fun s => s.data.toList).flatten).length ≤ 1048576 := by
  rcases hd with ⟨rfl, rfl⟩ | ⟨rest, rfl⟩
  · simp
  · simp only [Rows.uptoBulk] at h
    rw [bulk_strs] at h
    omega
end
end Go.Proofs.YtpmmjomejackkaaDoor
end
section
set_option linter.unusedSimpArgs false
set_option linter.unusedVariables false
namespace Go.Proofs.YtpmmjomejackkaaDoor
open BigFrame Go.RowKit Go.Phx Go.Shelf
attribute [local go_sem] Oper.semAt_some

/-- a slice's address leads to these texts -/
def Txts (w : World) (A : Option Addr) (L : List Bytes) : Prop := Strs w A (L.map bs)
theorem Txts.at {w : World} {A : Option Addr} {L : List Bytes} (h : Txts w A L) (i : Nat) (hi : i < L.length) : ∃ b o, A = some ⟨b, o, none⟩ ∧ b < w.heap.size ∧ w.cell? ⟨b, o + i, none⟩ = some (.string (bs (L.getD i []))) := by
  obtain ⟨b, o, ha, hb, hc⟩ := h (by simp; omega)
  exact ⟨b, o, ha, hb, hc i _ (by rw [List.getElem?_map, List.getElem?_eq_getElem hi, List.getD, List.getElem?_eq_getElem hi]; rfl)⟩
def tv (b : Bytes) : Value := .string (bs b)
/-- a row of texts of the call's own -/
def LRow (base : Nat) (w : World) (v : Value) (L : List Bytes) : Prop := w.ownsRow base 9 1 v L.length (L.map tv)
theorem LRow.txts {base : Nat} {w : World} {v : Value} {L : List Bytes} (h : LRow base w v L) : ∃ A c, v = .slice A L.length c ∧ Txts w A L := by
  rcases h.2 with ⟨rfl, h0⟩ | ⟨g, cap, cur, rfl, _⟩
  · obtain rfl := List.eq_nil_of_length_eq_zero h0
    exact ⟨none, 0, rfl, Strs.nil _ _⟩
  · refine ⟨_, _, rfl, Strs.mk (h.lt g rfl).2 fun i x hx => ?_⟩
    have hi : i < L.length := by have := (List.getElem?_eq_some_iff.1 hx).1; simpa using this
    rw [Nat.zero_add, World.ownsRow.cellAt h i (by omega)]
    rw [List.getElem?_map] at hx ⊢
    cases hl : L[i]? with
    | none => rw [hl] at hx; cases hx
    | some y => rw [hl] at hx; simp only [Option.map_some, Option.some.injEq] at hx ⊢; rw [← hx]; rfl
theorem LRow.cells {base : Nat} {w : World} {v : Value} {L : List Bytes} (h : LRow base w v L) : ∀ j, v.ownBlock = some j → base ≤ j ∧ ∃ cs t fz, w.heap[j]? = some (.cells cs t fz) := fun j hj => by
  rcases h.2 with ⟨rfl, h0⟩ | ⟨g, cap, cur, rfl, hb, hg, _⟩
  · cases hj
  · cases hj
    exact ⟨hb, cur, _, _, hg⟩
theorem LRow.mono {base base' : Nat} {w : World} {v : Value} {L : List Bytes} (h : LRow base w v L) (hb : base' ≤ base) : LRow base' w v L :=
  ⟨h.1, h.2.imp id fun ⟨g, cap, cur, a, b, r⟩ => ⟨g, cap, cur, a, Nat.le_trans hb b, r⟩⟩
theorem LRow.at {base : Nat} {w : World} {g cap : Nat} {L : List Bytes} {n : Nat} (h : LRow base w (.slice (some ⟨g, 0, none⟩) n cap) L) (i : Nat) (hi : i < L.length) : w.cell? ⟨g, i, none⟩ = some (.string (bs (L.getD i []))) := by
  have hn : L.length = n := by
    rcases h.2 with ⟨h', _⟩ | ⟨g', cap', cur, h', _⟩
    · simp at h'
    · simp only [Value.slice.injEq] at h'
      exact h'.2.1.symm
  subst hn
  rw [World.ownsRow.cellAt h i (by omega), List.getElem?_map, List.getElem?_eq_getElem hi, List.getD, List.getElem?_eq_getElem hi]
  rfl
theorem infoStr : (Tryd.prog.info? 9).map (fun i => (i.zero, i.size, i.bytes)) = some (some (.string ByteArray.empty), 1, 16) := by kernel_rfl
theorem LRow.keep {base : Nat} {w w' : World} {v : Value} {L : List Bytes} {r : Option Nat} (h : LRow base w v L) (hg : w.grownBy w' r) (hn : ∀ j, v.ownBlock = some j → r ≠ some j) : LRow base w' v L :=
  h.kept hg (by
    cases hv : v.ownBlock with
    | none => exact .inl rfl
    | some g => exact .inr fun e => hn g hv e.symm)
theorem LRow.on {base : Nat} {w : World} {v : Value} {L : List Bytes} (h : LRow base w v L) (o : Obj) : LRow base (w.alloc o) v L :=
  h.keep (World.grownBy_alloc w o none) fun _ _ e => by cases e
theorem wpList_append_txt {ops : Array Oper} {rest : List Oper} {o : Oper} {a : Act} {w : World} {Q : Exit → Act → World → Prop} (hgd : o.guard = none) (s x : Operand)
    (ho : o.op = .call { callee := .builtin .append, args := #[s, x], argTypes := #[22, 22] }) (base : Nat) (v : Value) (L : List Bytes) (hs : a.eval s = v) (R : LRow base w v L)
    (u : Bytes) (ad : Addr) (hx : a.eval x = .slice (some ad) 1 1) (hc : w.cell? (ad.add 0) = some (tv u)) (hl : L.length ≤ 1000000000) (hb : base ≤ w.heap.size)
    (h : ∀ v' w', LRow base w' v' (L ++ [u]) → w.grownBy w' v.ownBlock → (v'.ownBlock = v.ownBlock ∨ v'.ownBlock = some w.heap.size) → wpList Tryd.prog ops Q rest (a.put o.dst v') w') : wpList Tryd.prog ops Q (o :: rest) a w := by
  refine wpList_plain hgd fun K hK => ?_
  obtain ⟨i0, hi, hz0, hz1, hz2⟩ := info_parts infoStr
  obtain ⟨v', w', hr, h2, h3, _, h5⟩ := run_append_own_at (P := Tryd.prog) w base 22 o.type 9 i0 (.string ByteArray.empty) 1 16 Tryd.underlying22 hi hz0 hz1 hz2 rfl (by decide) v L.length (L.map tv) R ad 1 1 [tv u] rfl (fun j y hy => by
    match j, hy with
    | 0, hy => simp at hy; subst hy; exact hc) (by simp [Value.oneCell', tv]) (by unfold maxLen; omega) (by omega) hb
  unfold Oper.wp execOp
  simp only [ho, resolve, invoke, builtin, Sem.run_bind, Sem.run_pure, Result.andThen_ok, List.map_toArray, List.map_cons, List.map_nil, hs, hx, hr]
  refine hK _ _ (h v' w' ?_ h3 h5)
  unfold LRow
  rw [List.length_append, List.map_append]
  exact h2
/-- .. of one text in a block that was just made -/
theorem new_cell (w : World) (t : TypeId) (v : Value) : (w.alloc (.cells #[v] t)).cell? ((⟨w.heap.size, 0, none⟩ : Addr).add 0) = some v := news1 w t v 0 v rfl
/-- what a row of texts of its own, grown by one, leaves -/
theorem below_app {w W w' : World} {v : Value} {L : List Bytes} (hB : Below w.heap.size w W) (R : LRow w.heap.size W v L) (hg : W.grownBy w' v.ownBlock) : Below w.heap.size w w' :=
  hB.grown hg hB.size fun j e => (R.lt j e).1
/-- a row of texts of the call's own, made with room, and texts that came in behind none of its own -/
theorem start_append (w : World) (base : Nat) (hb : base ≤ w.heap.size) (n : Nat) (hn : n ≤ 1048576) (A : Option Addr) (c : Nat) (L : List Bytes) (hL : L.length ≤ 1048576) (hs : Txts w A L) :
    ∃ v w1, (Instr.makeSlice 22 (.int .i64 0) (.int .i64 n)).run Tryd.prog w = .ok v w1 ∧ Below w.heap.size w w1 ∧
      ∃ v' w', (Builtin.append_ #[22, 22] 22 #[v, .slice A L.length c]).run Tryd.prog w1 = .ok v' w' ∧ LRow base w' v' L ∧ Below w.heap.size w w' := by
  obtain ⟨i0, hi, hz0, hz1, hz2⟩ := info_parts infoStr
  obtain ⟨w1, hmk, hown, hgr⟩ := run_make_own (P := Tryd.prog) w base 22 9 i0 (.string ByteArray.empty) 1 Tryd.underlying22 hi hz0 hz1 .i64 .i64 n (by rw [hz2]; omega) (by unfold maxLen; omega) hb
  have hB1 : Below w.heap.size w w1 := (Below.refl w.heap.size w).grown hgr (Nat.le_refl _) (fun k e => by cases e)
  refine ⟨_, w1, hmk, hB1, ?_⟩
  by_cases h0 : L = []
  · subst h0
    refine ⟨.slice (some ⟨w.heap.size, 0, none⟩) 0 n, w1, ?_, hown, hB1⟩
    have hsc : Builtin.firstCells 1 0 (.slice A 0 c) = pure #[] := by
      cases A <;> simp [Builtin.firstCells, loadCells, loadCellsFrom]
    simp [Builtin.append_, run_underlying Tryd.underlying22, sizeOf, typeInfo, hi, hz1, Builtin.lenOf, hsc, storeCells]
  · have hpos : 0 < L.length := by cases L with | nil => exact absurd rfl h0 | cons => simp
    obtain ⟨b, o, rfl, hb2, _⟩ := hs.at 0 hpos
    have hcs : ∀ (j : Nat) u, (L.map tv)[j]? = some u → w1.cell? ((⟨b, o, none⟩ : Addr).add j) = some u := fun j u hu => by
      have hj : j < L.length := by have := (List.getElem?_eq_some_iff.1 hu).1; simpa using this
      obtain ⟨b', o', he, hlt, hc⟩ := hs.at j hj
      simp only [Option.some.injEq, Addr.mk.injEq, and_true] at he
      obtain ⟨rfl, rfl⟩ := he
      rw [Addr.add_mid, hB1.cell (p := ⟨b, o + j, none⟩) hlt, hc]
      rw [List.getElem?_map, List.getElem?_eq_getElem hj] at hu
      simp only [Option.map_some, Option.some.injEq] at hu
      rw [← hu, List.getD, List.getElem?_eq_getElem hj]
      rfl
    obtain ⟨v', w', hr, h2, h3, _, _⟩ := run_append_own_at (P := Tryd.prog) w1 base 22 22 9 i0 (.string ByteArray.empty) 1 16 Tryd.underlying22 hi hz0 hz1 hz2 rfl (by decide) _ 0 [] hown ⟨b, o, none⟩ L.length c (L.map tv) (by simp) hcs (fun u hu => by
      simp only [List.mem_map] at hu
      obtain ⟨x, _, rfl⟩ := hu
      rfl) (by unfold maxLen; omega) (by omega) (Nat.le_trans hb hB1.size)
    refine ⟨v', w', hr, ?_, hB1.grown h3 hB1.size fun j e => (?_ : w.heap.size ≤ j)⟩
    · have := h2
      simp only [Nat.zero_add, List.nil_append] at this
      exact this
    · simp [Value.ownBlock] at e
      omega
/-- append, by its run -/
theorem wpList_append_run {P : Program} {ops : Array Oper} {rest : List Oper} {o : Oper} {a : Act} {w w' : World} {Q : Exit → Act → World → Prop} (hgd : o.guard = none) (s x : Operand) (t u : TypeId)
    (ho : o.op = .call { callee := .builtin .append, args := #[s, x], argTypes := #[t, u] }) (v y v' : Value) (hs : a.eval s = v) (hx : a.eval x = y)
    (hr : (Builtin.append_ #[t, u] o.type #[v, y]).run P w = .ok v' w') (h : wpList P ops Q rest (a.put o.dst v') w') : wpList P ops Q (o :: rest) a w := by
  refine wpList_plain hgd fun K hK => ?_
  unfold Oper.wp execOp
  simp only [ho, resolve, invoke, builtin, Sem.run_bind, Sem.run_pure, Result.andThen_ok, List.map_toArray, List.map_cons, List.map_nil, hs, hx, hr]
  exact hK _ _ h
end Go.Proofs.YtpmmjomejackkaaDoor
end
section
set_option linter.unusedSimpArgs false
set_option linter.unusedVariables false
namespace Go.Proofs.YtpmmjomejackkaaDoor
open BigFrame Go.RowKit Go.Phx Go.Shelf
attribute [local go_sem] Oper.semAt_some

theorem bldSize : (Tryd.prog.info? 76).map (·.size) = some 2 := by kernel_rfl
theorem bldLies : liesAt Tryd.prog Tryd.prog.depth 76 (2 / Tryd.prog.cellsOf 76) 0 76 1 = true := by kernel_rfl
theorem bldPtr : Tryd.prog.underlying 74 = some (.pointer 76) := by kernel_rfl
theorem bldUns : Tryd.prog.underlying 136 = some .unsafePointer := by kernel_rfl
set_option maxRecDepth 100000 in
set_option maxHeartbeats 1000000 in
theorem check_used (b : Nat) (w : World) (h0 : w.cell? ⟨b, 0, none⟩ = some (.pointer (some ⟨b, 0, none⟩))) :
    Calls Tryd.prog 105 #[.pointer (some ⟨b, 0, none⟩)] w fun e w' => e = .returned (.tuple #[]) ∧ w' = w := by
  obtain ⟨j, hj, _⟩ := Option.map_eq_some_iff.1 bldSize
  go_enter Tryd.func105, Tryd.ntmps105
  go_wp2_with fail
  rw [Lib.run_neq_ptr_same w _ bldPtr hj]
  go_wp2_with fail
  go_end0
  exact ⟨rfl, rfl⟩
set_option maxRecDepth 100000 in
set_option maxHeartbeats 1000000 in
theorem check_fresh (b : Nat) (w : World) (h0 : w.cell? ⟨b, 0, none⟩ = some (.pointer none)) (hsh : w.shape? b = some (76, 2)) (hfz : w.frozen? ⟨b, 0, none⟩ = false) :
    Calls Tryd.prog 105 #[.pointer (some ⟨b, 0, none⟩)] w fun e w' => e = .returned (.tuple #[]) ∧ w' = w.setCell ⟨b, 0, none⟩ (.pointer (some ⟨b, 0, none⟩)) := by
  obtain ⟨j, hj, hjs⟩ := Option.map_eq_some_iff.1 bldSize
  go_enter Tryd.func105, Tryd.ntmps105
  go_wp2_with fail
  rw [Lib.run_to_unsafe w ⟨b, 0, none⟩ bldPtr bldUns hj (by rw [hjs]; decide) hsh (Nat.zero_lt_succ 1)]
  simp only [Result.andThen]
  rw [Oper.upon_value]
  go_wp2_with fail
  rw [run_callFunc_extern Tryd.func136 (by kernel_rfl) (by kernel_rfl) (by kernel_rfl) (e := Extern.AbiNoEscape.same) (by kernel_rfl)]
  rw [Lib.run_noEscape]
  simp only [Result.andThen]
  rw [Oper.upon_value]
  go_wp2_with fail
  rw [Lib.run_from_unsafe w ⟨b, 0, none⟩ bldUns bldPtr hj hsh bldLies]
  simp only [Result.andThen]
  rw [Oper.upon_value]
  go_wp2_with fail
  go_end0
  exact ⟨rfl, rfl⟩
/-- a builder at block b holds these bytes -/
def BldAt (B b : Nat) (l : List UInt8) (w : World) : Prop := Lib.IsBuilder 76 5 B b (Lib.byteCells l) w
theorem check_any (B b : Nat) (bs : List Value) (w : World) (h : Lib.IsBuilder 76 5 B b bs w) :
    Calls Tryd.prog 105 #[.pointer (some ⟨b, 0, none⟩)] w fun e w' => e = .returned (.tuple #[]) ∧ (Lib.BuilderAt 76 5 B b (.pointer (some ⟨b, 0, none⟩)) bs w' ∧ Below B w w') := by
  rcases h with h | h
  · refine (check_fresh b w h.cell0 h.shape h.frozen0).mono ?_
    rintro e w' ⟨rfl, rfl⟩
    exact ⟨rfl, h.used _, (Below.refl B w).setCell (p := ⟨b, 0, none⟩) h.1 _⟩
  · refine (check_used b w h.cell0).mono ?_
    rintro e w' ⟨rfl, rfl⟩
    exact ⟨rfl, h, Below.refl B _⟩
theorem infoU8b : (Tryd.prog.info? 5).map (fun i => (i.zero, i.size, i.bytes)) = some (some (.int .u8 0), 1, 1) := by kernel_rfl
set_option maxRecDepth 100000 in
set_option maxHeartbeats 1000000 in
theorem write_byte (B b : Nat) (l : List UInt8) (c : UInt8) (w : World) (h : BldAt B b l w) (hlen : l.length + 1 ≤ 140737488355328) (hBw : B ≤ w.heap.size) :
    Calls Tryd.prog 65 #[.pointer (some ⟨b, 0, none⟩), .int .u8 (c.toNat : Int)] w fun e w' => e = .returned .nilIface ∧ BldAt B b (l ++ [c]) w' ∧ Below B w w' := by
  obtain ⟨i0, hi, hz0, hz1, hz2⟩ := info_parts infoU8b
  have hl : (Lib.byteCells l).length = l.length := by simp [Lib.byteCells]
  obtain ⟨bs, hbs⟩ : ∃ bs, Lib.byteCells l = bs := ⟨_, rfl⟩
  have hbs2 : Lib.byteCells (l ++ [c]) = bs ++ [.int .u8 (c.toNat : Int)] := by rw [← hbs]; simp [Lib.byteCells]
  have HBS := Lib.hid hbs2
  unfold BldAt at h
  rw [hbs] at h hl
  have hlen2 : bs.length + 1 ≤ 140737488355328 := by omega
  clear hbs hbs2 hl hlen
  go_enter Tryd.func65, Tryd.ntmps65
  go_wp2_with (go_at_call 105; refine (check_any B b bs _ h).mono ?_)
  rintro e w1 ⟨rfl, h1, hb1⟩
  obtain ⟨hB, v, hbk, hown, hne⟩ := h1
  have c0 : w1.cell? ⟨b, 0, none⟩ = some (.pointer (some ⟨b, 0, none⟩)) := by rw [Lib.cell_of_heap hbk]; rfl
  have c1 : w1.cell? ⟨b, 1, none⟩ = some v := by rw [Lib.cell_of_heap hbk]; rfl
  go_wp2_with (at_builtin; refine wpList_append_own _ rfl _ _ 39 rfl B 5 i0 (.int .u8 0) 1 1 Tryd.underlying39 hi hz0 hz1 hz2 rfl (by decide) _ _ _ rfl (hown.alloc _) ⟨w1.heap.size, 0, none⟩ 1 1 [.int .u8 (c.toNat : Int)] rfl rfl (news1 _ _ _) (by simp [Value.oneCell']) (by unfold maxLen; omega) (by omega) (by have := hb1.size; simp; omega) ?_)
  intro v' w2 hown' hgrow _
  have hlt : b < w1.heap.size := (Array.getElem?_eq_some_iff.1 hbk).1
  have hb2 : w2.heap[b]? = some (.cells #[.pointer (some ⟨b, 0, none⟩), v] 76 (0, 0)) := by
    rw [hgrow.block b (by simp; omega) (fun e => hne e.symm), Lib.alloc_old w1 _ b hlt]
    exact hbk
  have d0 : w2.cell? ⟨b, 0, none⟩ = some (.pointer (some ⟨b, 0, none⟩)) := by rw [Lib.cell_of_heap hb2]; rfl
  have d1 : w2.cell? ⟨b, 1, none⟩ = some v := by rw [Lib.cell_of_heap hb2]; rfl
  have f1 : w2.frozen? ⟨b, 1, none⟩ = false := Lib.frozen_of_heap hb2 1
  obtain ⟨g, cap, rfl⟩ := ownsRow_succ hown'
  go_wp2_with fail
  go_ret
  refine ⟨rfl, ?_, ((hb1.alloc (by have := hb1.size; omega) _).grown hgrow (by have := hb1.size; simp; omega) (fun k hk => (hown.lt k hk).1)).setCell (p := ⟨b, 1, none⟩) hB _⟩
  unfold BldAt
  rw [HBS.out]
  exact .inr (Lib.BuilderAt.put hB hb2 (bs' := bs ++ [.int .u8 (c.toNat : Int)]) (by simpa using hown') (by decide))
theorem bld_new (w : World) (t : Value) : BldAt w.heap.size w.heap.size [] (w.alloc (.cells #[.pointer none, .slice none 0 0] 76)) := Lib.fresh_isBuilder _ _ _
theorem bld_string (B b : Nat) (l : List UInt8) (w : World) (h : BldAt B b l w) (hBw : B ≤ w.heap.size) :
    Calls Tryd.prog 66 #[.pointer (some ⟨b, 0, none⟩)] w fun e w' => e = .returned (.string (bs l)) ∧ Below B w w' := Tryd.Builder_String_any B b l w h hBw
end Go.Proofs.YtpmmjomejackkaaDoor
end
section
set_option linter.unusedSimpArgs false
set_option linter.unusedVariables false
namespace Go.Proofs.YtpmmjomejackkaaDoor
open BigFrame Go.RowKit Go.Phx Go.Shelf
attribute [local go_sem] Oper.semAt_some

def digs : List UInt8 := [48, 49, 50, 51, 52, 53, 54, 55, 56, 57, 97, 98, 99, 100, 101, 102]
def dig (d : Nat) : UInt8 := digs.getD d 0
/-- bytes as digits -/
def hexL (l : List UInt8) : List UInt8 := l.flatMap fun c => [dig (c.toNat / 16), dig (c.toNat % 16)]
theorem hexL_len (l : List UInt8) : (hexL l).length = 2 * l.length := by
  induction l with
  | nil => rfl
  | cons c l ih => simp [hexL] at ih ⊢; omega
theorem hexL_app (a b : List UInt8) : hexL (a ++ b) = hexL a ++ hexL b := by simp [hexL]
theorem hexL_take (l : List UInt8) (k : Nat) (h : k < l.length) : hexL (l.take (k + 1)) = hexL (l.take k) ++ [dig ((l.getD k 0).toNat / 16), dig ((l.getD k 0).toNat % 16)] := by
  rw [List.take_add_one, List.getElem?_eq_getElem h, hexL_app, List.getD, List.getElem?_eq_getElem h]
  rfl
theorem and15' : ∀ n : Nat, n < 256 → bits .and .u8 (n : Int) 15 = ((n % 16 : Nat) : Int) := by decide +kernel
theorem and15 (c : UInt8) : bits .and .u8 (c.toNat : Int) 15 = ((c.toNat % 16 : Nat) : Int) := and15' _ c.toNat_lt
theorem index_bs (l : List UInt8) (k : Nat) (hk : k < l.length) (h63 : l.length ≤ 9223372036854775807) (w : World) : (Instr.index 9 (.string (bs l)) (.int .i64 (k : Int))).run Tryd.prog w = .ok (.int .u8 ((l.getD k 0).toNat : Int)) w := by
  have := index_at (bs l) k (by rw [bs_size]; exact hk) (by rw [bs_size]; exact h63) w
  rw [vw_bw] at this
  exact this
@[go_sem] theorem dig_get : ∀ (d : Nat) (h : d < (ByteArray.mk #[48, 49, 50, 51, 52, 53, 54, 55, 56, 57, 97, 98, 99, 100, 101, 102]).size), (ByteArray.mk #[48, 49, 50, 51, 52, 53, 54, 55, 56, 57, 97, 98, 99, 100, 101, 102])[d]'h = dig d
  | 0, _ => rfl
  | 1, _ => rfl
  | 2, _ => rfl
  | 3, _ => rfl
  | 4, _ => rfl
  | 5, _ => rfl
  | 6, _ => rfl
  | 7, _ => rfl
  | 8, _ => rfl
  | 9, _ => rfl
  | 10, _ => rfl
  | 11, _ => rfl
  | 12, _ => rfl
  | 13, _ => rfl
  | 14, _ => rfl
  | 15, _ => rfl
  | d + 16, h => absurd h (by simp [ByteArray.size])
set_option maxRecDepth 100000 in
set_option maxHeartbeats 2000000 in
theorem hex_calls (l : List UInt8) (hl : l.length ≤ 70000000000000) (w : World) : Calls Tryd.prog 28 #[.string (bs l)] w (Ret w (.string (bs (hexL l)))) := by
  go_enter Tryd.func28, Tryd.ntmps28
  go_wp2_with fail
  go_loopw [7] (fun i wr => ∃ k : Nat, k ≤ l.length ∧ i = .int .i64 k ∧ BldAt w.heap.size w.heap.size (hexL (l.take k)) wr ∧ Below w.heap.size w wr) (fun i _ => (l.length - intOf i).toNat)
  case atStart => exact ⟨0, by omega, rfl, bld_new _ (.bool true), (by repeat (first | assumption | exact Below.refl _ _ | refine Below.setCell ?_ (by first | exact Nat.le_refl _ | (simp; done) | omega | (simp; omega)) _ | refine Below.alloc ?_ (by first | exact Nat.le_refl _ | (simp; done) | omega | (simp; omega)) _ | refine below_drewN ?_ _ | refine Below.drew ?_ | refine Below.on (by assumption) ?_ | refine Below.via (by assumption) (by first | exact Nat.le_refl _ | (simp; done) | omega | (simp; omega)) ?_))⟩
  case round =>
    obtain ⟨k, hk, rfl, HB0, HB⟩ := hrel
    by_cases hlt : k < l.length
    · have hix := fun W => index_bs l k hlt (by omega) W
      have HT := Lib.hid (hexL_take l k hlt)
      have hql : (hexL (l.take k)).length ≤ 140000000000000 := by rw [hexL_len]; simp; omega
      generalize l.getD k 0 = c at *
      generalize hexL (l.take k) = q at *
      have hc := c.toNat_lt
      have d1 : (0 : Int) ≤ (c.toNat : Int) / 16 := by omega
      have d2 : (c.toNat : Int) / 16 < 16 := by omega
      have d3 : c.toNat % 16 < 16 := by omega
      have a1 := and15 c
      clear hc
      replace HB0 := Lib.hid HB0
      go_wp2_with fail
      refine (write_byte _ _ q (dig (c.toNat / 16)) _ HB0.out (by omega) HB.size).mono ?_
      rintro e w1 ⟨rfl, h1, hB1⟩
      clear HB0
      replace h1 := Lib.hid h1
      go_wp2_with fail
      refine (write_byte _ _ (q ++ [dig (c.toNat / 16)]) (dig (c.toNat % 16)) _ h1.out (by simp; omega) (HB.trans hB1).size).mono ?_
      rintro e w2 ⟨rfl, h2, hB2⟩
      clear h1
      replace h2 := Lib.hid h2
      have hb3 := (HB.trans hB1).trans hB2
      clear hix a1 d1 d2
      go_wp2_with fail
      go_roundw
      case rel => exact ⟨k + 1, by omega, by go_num, by rw [HT.out]; have := h2.out; simpa using this, hb3⟩
      case measure => simp [intOf]; omega
    · obtain rfl : k = l.length := by omega
      rw [List.take_of_length_le (Nat.le_refl _)] at HB0
      replace HB0 := Lib.hid HB0
      go_wp2_with fail
      refine (bld_string _ _ _ _ HB0.out HB.size).mono ?_
      rintro e w2 ⟨rfl, hB2⟩
      go_wp2_with fail
      go_ret
      exact ⟨rfl, HB.trans hB2⟩

end Go.Proofs.YtpmmjomejackkaaDoor
end
section
set_option linter.unusedSimpArgs false
set_option linter.unusedVariables false
namespace Go.Proofs.YtpmmjomejackkaaDoor
open BigFrame Go.RowKit Go.Phx Go.Shelf
attribute [local go_sem] Oper.semAt_some

theorem strs2 (w : World) (a b : ByteArray) : Strs (w.alloc (.cells #[.string a, .string b] 9)) (some ⟨w.heap.size, 0, none⟩) [a, b] :=
  Strs.mk (by simp) fun i x hx => by
    rw [(Blk.new0 w _ _).cell, Nat.zero_add]
    match i, hx with
    | 0, hx => simp at hx; subst hx; rfl
    | 1, hx => simp at hx; subst hx; rfl
theorem cat_ab : cat [{ data := #[97] }, { data := #[98, 99] }] = [97, 98, 99] := rfl
theorem shown_hex : (hexL (sha [97, 98, 99])).take 8 = [98, 97, 55, 56, 49, 54, 98, 102] := by rw [sha_abc]; decide +kernel
set_option maxRecDepth 100000 in
set_option maxHeartbeats 2000000 in
theorem shown_calls (w : World) (hk : HasK w) : Calls Tryd.prog 22 #[] w (Ret w (.bool true)) := by
  have hsl : (sha [97, 98, 99]).length = 32 := sha_len _
  have HH := Lib.hid shown_hex
  have hhl : (hexL (sha [97, 98, 99])).length = 64 := by rw [hexL_len, hsl]
  have hk1 := fun W (hB : Below w.heap.size w W) => hk.on hB
  replace hk1 := Lib.hid hk1
  clear hk
  go_enter Tryd.func22, Tryd.ntmps22
  go_wp2_with fail
  refine (sum_calls _ _ [{ data := #[97] }, { data := #[98, 99] }] _ (hk1.out _ (by repeat (first | assumption | exact Below.refl _ _ | refine Below.setCell ?_ (by first | exact Nat.le_refl _ | (simp; done) | omega | (simp; omega)) _ | refine Below.alloc ?_ (by first | exact Nat.le_refl _ | (simp; done) | omega | (simp; omega)) _ | refine below_drewN ?_ _ | refine Below.drew ?_ | refine Below.on (by assumption) ?_ | refine Below.via (by assumption) (by first | exact Nat.le_refl _ | (simp; done) | omega | (simp; omega)) ?_))) (strs2 w _ _) (by simp) (by simp) (by rw [cat_ab]; simp)).mono ?_
  rintro e w1 ⟨rfl, h1⟩
  rw [cat_ab]
  obtain ⟨s, hs⟩ : ∃ s, sha [97, 98, 99] = s := ⟨_, rfl⟩
  rw [hs] at hsl HH hhl ⊢
  have HS := Lib.hid hs
  clear hs
  go_wp2_with fail
  refine (hex_calls s (by omega) _).mono ?_
  rintro e w2 ⟨rfl, h2⟩
  have hB2 : Below w.heap.size w w2 := Below.on h2 (Below.on h1 (by repeat (first | assumption | exact Below.refl _ _ | refine Below.setCell ?_ (by first | exact Nat.le_refl _ | (simp; done) | omega | (simp; omega)) _ | refine Below.alloc ?_ (by first | exact Nat.le_refl _ | (simp; done) | omega | (simp; omega)) _ | refine below_drewN ?_ _ | refine Below.drew ?_ | refine Below.on (by assumption) ?_ | refine Below.via (by assumption) (by first | exact Nat.le_refl _ | (simp; done) | omega | (simp; omega)) ?_)))
  have hz2 := hB2.size
  clear h1 h2
  go_wp2_with fail
  refine (sum_calls _ _ [{ data := #[97] }, { data := #[98, 99] }] _ (hk1.out _ (by repeat (first | assumption | exact Below.refl _ _ | refine Below.setCell ?_ (by first | exact Nat.le_refl _ | (simp; done) | omega | (simp; omega)) _ | refine Below.alloc ?_ (by first | exact Nat.le_refl _ | (simp; done) | omega | (simp; omega)) _ | refine below_drewN ?_ _ | refine Below.drew ?_ | refine Below.on (by assumption) ?_ | refine Below.via (by assumption) (by first | exact Nat.le_refl _ | (simp; done) | omega | (simp; omega)) ?_))) (strs2 w2 _ _) (by simp) (by simp) (by rw [cat_ab]; simp)).mono ?_
  rintro e w3 ⟨rfl, h1⟩
  rw [cat_ab, show sha [97, 98, 99] = s from HS.out]
  go_wp2_with fail
  refine (hex_calls s (by omega) _).mono ?_
  rintro e w4 ⟨rfl, h2⟩
  have hB4 : Below w.heap.size w w4 := Below.on h2 (Below.on h1 (by repeat (first | assumption | exact Below.refl _ _ | refine Below.setCell ?_ (by first | exact Nat.le_refl _ | (simp; done) | omega | (simp; omega)) _ | refine Below.alloc ?_ (by first | exact Nat.le_refl _ | (simp; done) | omega | (simp; omega)) _ | refine below_drewN ?_ _ | refine Below.drew ?_ | refine Below.on (by assumption) ?_ | refine Below.via (by assumption) (by first | exact Nat.le_refl _ | (simp; done) | omega | (simp; omega)) ?_)))
  clear h1 h2 hB2
  obtain ⟨q, hq⟩ : ∃ q, hexL s = q := ⟨_, rfl⟩
  rw [hq] at HH hhl ⊢
  clear hq
  go_wp2_with fail
  go_ret
  exact ⟨by show Ending.returned (.bool (q.take (min (8 : Int) 64).toNat == _)) = _; rw [show q.take (min (8 : Int) 64).toNat = _ from HH.out]; rfl, hB4⟩
end Go.Proofs.YtpmmjomejackkaaDoor
end
