/- The sum of parts, by the program. -/
import Derived.Test.YtpmmjomejackkaaDoorSha4
set_option linter.unusedSimpArgs false
set_option linter.unusedVariables false
namespace Go.Proofs.YtpmmjomejackkaaDoor
open BigFrame Go.RowKit Go.Phx Go.Shelf
attribute [local go_sem] Oper.semAt_some

/-- texts, one behind the other -/
def cat (xs : List ByteArray) : List UInt8 := (xs.map fun s => s.data.toList).flatten
theorem join_cat (xs : List ByteArray) : Lib.join (xs.map fun s => s.data.toList) [] = cat xs := by
  unfold cat Lib.join
  generalize xs.map (fun s => s.data.toList) = ys
  induction ys with
  | nil => rfl
  | cons y ys ih =>
    cases ys with
    | nil => simp
    | cons z zs =>
      simp at ih ⊢
      exact ih
theorem join_calls (A : Option Addr) (c : Nat) (xs : List ByteArray) (w : World) (hs : Strs w A xs) (hc : xs.length ≤ c) (hN : xs.length ≤ 140737488355328) (hlen : (cat xs).length ≤ 140737488355328) :
    Calls Tryd.prog 60 #[.slice A xs.length c, .string { data := #[] }] w (Ret w (.string (bs (cat xs)))) := by
  rcases Nat.eq_zero_or_pos xs.length with h0 | h0
  · obtain rfl := List.eq_nil_of_length_eq_zero h0
    refine (Tryd.strings_Join_none A c _ w).mono ?_
    rintro e w' ⟨rfl, rfl⟩
    exact ⟨rfl, Below.refl _ _⟩
  · obtain ⟨b, o, rfl, hb, hcell⟩ := hs h0
    have := Tryd.strings_Join b o c xs ⟨#[]⟩ w hcell hb hN hc (by rw [show (⟨#[]⟩ : ByteArray).data.toList = [] from rfl, join_cat]; exact hlen)
    rw [show (⟨#[]⟩ : ByteArray).data.toList = [] from rfl, join_cat] at this
    exact this
theorem iv_cells : cS iv = #[.int .u32 1779033703, .int .u32 3144134277, .int .u32 1013904242, .int .u32 2773480762, .int .u32 1359893119, .int .u32 2600822924, .int .u32 528734635, .int .u32 1541459225] := rfl
/-- blocks taken in -/
def takes (pre : List (List UInt8)) : St := pre.foldl takeB iv
theorem takes_snoc (pre : List (List UInt8)) (y : List UInt8) : takes (pre ++ [y]) = takeB (takes pre) y := by simp [takes]
def SumI (w : World) (bh : Nat) (pre : List (List UInt8)) (W : World) : Prop := Blk W bh 63 (cS (takes pre)) ∧ HasK W ∧ Below w.heap.size w W
theorem blk_own {g : Nat} {t : TypeId} {β : Type} (f : β → Array Value) : Own (fun s W => Blk W g t (f s)) := fun s A B row h hg hr => blk_kept h hg hr

theorem takes_from (h : St) (n : Nat) (p : List UInt8) : (chunks n p).foldl takeB h = takeAll n h p := by
  induction n generalizing h p with
  | zero => rfl
  | succ n ih =>
    rw [takeAll, ← ih]
    unfold chunks
    rw [List.range_succ_eq_map, List.map_cons, List.foldl_cons, List.map_map]
    congr 1
    apply List.map_congr_left
    intro i _
    simp [List.drop_drop, Nat.mul_add, Nat.add_comm]
theorem takes_all (l : List UInt8) : (takes (chunks ((padS l).length / 64) (padS l))).bytes = sha l := by
  unfold takes
  rw [takes_from]
  rfl
def wS (v : St) : List Wd := [v.a, v.b, v.c, v.d, v.e, v.f, v.g, v.h]
theorem cS_words (v : St) : cS v = cw (wS v) := rfl
theorem bytes_len (v : St) : v.bytes.length = 32 := rfl
theorem sbyte_at (v : St) : ∀ k, k < 32 → v.bytes.getD k 0 = UInt8.ofNat (((wS v).getD (k / 4) 0).toNat / 2 ^ (24 - 8 * (k % 4)))
  | 0, _ => rfl
  | 1, _ => rfl
  | 2, _ => rfl
  | 3, _ => by simp [St.bytes, bytesW, wS]
  | 4, _ => rfl
  | 5, _ => rfl
  | 6, _ => rfl
  | 7, _ => by simp [St.bytes, bytesW, wS]
  | 8, _ => rfl
  | 9, _ => rfl
  | 10, _ => rfl
  | 11, _ => by simp [St.bytes, bytesW, wS]
  | 12, _ => rfl
  | 13, _ => rfl
  | 14, _ => rfl
  | 15, _ => by simp [St.bytes, bytesW, wS]
  | 16, _ => rfl
  | 17, _ => rfl
  | 18, _ => rfl
  | 19, _ => by simp [St.bytes, bytesW, wS]
  | 20, _ => rfl
  | 21, _ => rfl
  | 22, _ => rfl
  | 23, _ => by simp [St.bytes, bytesW, wS]
  | 24, _ => rfl
  | 25, _ => rfl
  | 26, _ => rfl
  | 27, _ => by simp [St.bytes, bytesW, wS]
  | 28, _ => rfl
  | 29, _ => rfl
  | 30, _ => rfl
  | 31, _ => by simp [St.bytes, bytesW, wS]
  | k + 32, h => absurd h (by omega)
theorem byte_of (v : St) (k : Nat) (hk : k < 32) : vw ((wS v).getD (k / 4) 0) / 2 ^ (24 - 8 * (k % 4)) % 256 = ((v.bytes.getD k 0).toNat : Int) := by
  rw [sbyte_at v k hk]
  generalize (wS v).getD (k / 4) 0 = x
  unfold vw
  have e : ((x.toNat : Int)) / 2 ^ (24 - 8 * (k % 4)) = ((x.toNat / 2 ^ (24 - 8 * (k % 4)) : Nat) : Int) := by simp
  rw [e]
  generalize x.toNat / 2 ^ (24 - 8 * (k % 4)) = m
  simp
set_option maxRecDepth 100000 in
set_option maxHeartbeats 8000000 in
theorem sum_calls (A : Option Addr) (c : Nat) (xs : List ByteArray) (w : World) (hk : HasK w) (hs : Strs w A xs) (hc : xs.length ≤ c) (hN : xs.length ≤ 140737488355328) (hlen : (cat xs).length ≤ 140737488355200) :
    Calls Tryd.prog 24 #[.slice A xs.length c] w (Ret w (.string (bs (sha (cat xs))))) := by
  refine (callsIn_wide (n := 9)).1 ?_
  have hwf : ∀ f, Fence.wide.fn f := fun _ => trivial
  refine callsIn_of_wp_marks Tryd.func24 rfl trivial ?_ rfl
  simp only [Tryd.ntmps24, List.size_toArray, List.length_cons, List.length_nil, Nat.reduceAdd, Nat.reduceSub, Array.replicate_succ, Array.replicate_zero, List.push_toArray, List.append_toArray, List.nil_append, List.cons_append]
  gi_wp2
  gi_wp2_with fail
  have hs1 := hs.below ((Below.refl w.heap.size w).alloc (Nat.le_refl _) (.cells (cS iv) 63))
  rw [iv_cells] at hs1
  refine (callsIn_wide.2 (join_calls A c xs _ hs1 hc hN (by omega))).mono ?_
  rintro e w1 ⟨rfl, hB1⟩
  gi_wp2_with (gi_at_call 59; refine (blocks_in _ _ _).mono ?_; rintro e w' ⟨rfl, rfl⟩)
  have hB2 : Below w.heap.size w w1 := Below.on hB1 ((Below.refl _ _).alloc (Nat.le_refl _) _)
  have hbh : w.heap.size < w1.heap.size := by have := hB1.size; simp at this; omega
  have K0 : Blk w1 w.heap.size 63 (cS iv) := (iv_cells ▸ Blk.new0 w _ _ : Blk (w.alloc (.cells #[.int .u32 1779033703, .int .u32 3144134277, .int .u32 1013904242, .int .u32 2773480762, .int .u32 1359893119, .int .u32 2600822924, .int .u32 528734635, .int .u32 1541459225] 63)) w.heap.size 63 (cS iv)).below hB1
  obtain ⟨b, hbe⟩ : ∃ b, w1.heap.size = b := ⟨_, rfl⟩
  obtain ⟨W0, hW0⟩ : ∃ W0, w1.alloc (.cells #[.string (bs (cat xs))] 9) = W0 := ⟨_, rfl⟩
  have hs0 : W0.heap.size = b + 1 := by rw [← hW0]; simp [hbe]
  have KS : Blk W0 b 9 #[.string (bs (cat xs))] := by rw [← hW0, ← hbe]; exact Blk.new0 _ _ _
  have hI0 : SumI w w.heap.size [] W0 := by
    rw [← hW0]
    exact ⟨K0.alloc _, (hk.from hB2 hk.2).alloc _, hB2.alloc (by omega) _⟩
  rw [hW0, hbe]
  rw [hbe] at hbh
  clear hW0 hbe K0 hB1 hs1
  have hf := enters_of Tryd.func96 (by kernel_rfl) rfl
  have hkl := hk.2
  refine wpIn_rangeFunc_st rfl (by decide) (gf := 96) (lb := #[.pointer (some ⟨b, 0, none⟩)]) rfl trivial hf
    (blocks_stops 8 (by decide) b (cat xs) (by omega) W0 KS) (fun _ => rfl) (fun _ _ _ _ h k => h.trans k) (fun _ W l o o' hl h1 h2 h3 => keepB_b (by omega) W l o o' hl h1 h2 h3)
    (fun _ A _ B k o hab hkk hA _ _ => (hab.block k (Array.getElem?_eq_some_iff.1 hA).1 (by intro e; injection e; omega)).trans hA)
    (fun _ _ _ _ _ _ _ h _ _ _ => h)
    (fun pre _ W => SumI w w.heap.size pre W ∧ b < W.heap.size) (fun _ _ _ _ => False)
    (fun _ s A B row h hg hr => ?own) (fun _ _ _ _ _ _ h _ _ => h)
    (fun s _ A _ B h hab => ?step) (fun _ _ _ _ _ _ h _ => h) ⟨hI0, by omega⟩
    (fun y => { tmps := #[.slice A xs.length c, undef, .string { data := #[] }, .pointer (some ⟨w.heap.size, 0, none⟩), .string (bs y), undef, undef, .agg #[.int .u32 1779033703, .int .u32 3144134277, .int .u32 1013904242, .int .u32 2773480762, .int .u32 1359893119, .int .u32 2600822924, .int .u32 528734635, .int .u32 1541459225],
      .slice A xs.length c, .string (bs (cat xs)), .func (.func 96) #[] #[.pointer (some ⟨b, 0, none⟩)], .string (bs y), undef, undef, undef, undef, undef, undef, undef, undef, undef, undef, undef, undef, undef, undef, undef, undef, undef, undef, undef, undef], defers := [] })
    ?assign ?body ?done ?stop
  case own =>
    obtain ⟨⟨h1, h2, h3⟩, hbx⟩ := h
    have hne : ∀ r, row = some r → W0.heap.size ≤ r := fun r e => (hr r e).1
    exact ⟨⟨h1.grown hg (fun e => by have := hne _ e.symm; omega), h2.grown hg (fun e => by have := hne _ e.symm; omega), h3.grown hg h3.size (fun k e => by have := hne k e; omega)⟩, Nat.lt_of_lt_of_le hbx hg.size⟩
  case step =>
    obtain ⟨⟨h1, h2, h3⟩, hbx⟩ := h
    exact ⟨⟨h1.grown hab (fun e => by injection e; omega), h2.grown hab (fun e => by injection e; omega), below_row h3 hab (by omega)⟩, Nat.lt_of_lt_of_le hbx hab.size⟩
  case assign =>
    intro l y W K hK
    gi_wp2
    exact hK
  case body =>
    rintro l pre y x W ⟨⟨h1, h2, h3⟩, hbx⟩ hy
    gi_wp2_with fail
    refine (CallsIn.inRound l (callsIn_wide.2 (take_calls w.heap.size (takes pre) (bs y) ((bs_size y).trans hy) W h2 h1 (by omega)))).mono ?_
    rintro e w2 ⟨rfl, hg, hb2⟩
    rw [bs_list, ← takes_snoc] at hb2
    gi_wp2
    exact ⟨keepsOthers_row h1 hg, (hg.block b hbx (by intro e; injection e; omega)), ⟨hb2, h2.grown hg (by intro e; injection e; omega), below_row h3 hg (Nat.le_refl _)⟩, Nat.lt_of_lt_of_le hbx hg.size⟩
  case done =>
    rintro D ys x W hD rfl ⟨⟨h1, h2, h3⟩, hbx⟩ hK
    have TA := Lib.hid (takes_all (cat xs))
    obtain ⟨V, hV⟩ : ∃ V, takes (chunks ((padS (cat xs)).length / 64) (padS (cat xs))) = V := ⟨_, rfl⟩
    rw [hV] at h1 TA
    have hB := h3
    have K1 := Lib.hid h1
    clear hV h1 h2 h3 hI0 KS hB2 hk hs
    gi_wp2
    have K0 := Lib.hid (Blk.new0 W 70 (bcells 32 V.bytes 0))
    have hBo := hB.alloc (by have := hB.size; omega) (.cells (bcells 32 V.bytes 0) 70)
    have hDo := (KeepsOthers.alloc W (.cells (bcells 32 V.bytes 0) 70)).same D _ hK rfl
    replace K1 := Lib.hid (K1.out.alloc (.cells (bcells 32 V.bytes 0) 70))
    have hwW : w.heap.size < W.heap.size := by omega
    gi_loopw [14] (fun i wr => ∃ k : Nat, k ≤ 32 ∧ i = .int .i64 k ∧ Blk wr W.heap.size 70 (bcells 32 V.bytes k) ∧ Blk wr w.heap.size 63 (cS V) ∧ Below w.heap.size w wr ∧ wr.heap[D]? = some (.deferred (some [])))
      (fun i _ => (32 - intOf i).toNat)
    case atStart => exact ⟨0, by omega, rfl, K0.out, K1.out, hBo, hDo⟩
    case round =>
      clear K0 K1 hBo hDo hB hK
      obtain ⟨k, hk, rfl, K0, K1, hB, hK⟩ := hrel
      by_cases hlt : k < 32
      · have hx := byte_of V k hlt
        have hset := bcells_set 32 V.bytes k hlt (bytes_len V) _ hx
        rw [cS_words] at K1
        have g0 := cw_get (L := wS V) (i := k / 4) (by simp [wS]; omega)
        generalize (wS V).getD (k / 4) 0 = x at *
        have v1 := vw_nonneg x
        have HS := Lib.hid hset
        clear hset hx
        replace K0 := Lib.hid K0
        replace K1 := Lib.hid K1
        have hKD := Lib.hid hK
        clear hK
        (have k0 := Blk.cell K0.out; have f0 := Blk.free K0.out; have l0 := Blk.lt K0.out; have m0 := Nat.le_of_lt l0; have k1 := Blk.cell K1.out; have f1 := Blk.free K1.out; have l1 := Blk.lt K1.out; have m1 := Nat.le_of_lt l1)
        have gk := bcells_at 32 V.bytes k hlt (bytes_len V)
        gi_wp2
        go_roundw
        case rel => exact ⟨k + 1, by omega, by go_num, by rw [← HS.out]; exact K0.out.set_ _ _, by rw [cS_words]; exact K1.out.over (by simp; omega), hB.setCell (by have := hB.size; simp; omega) _, (KeepsOthers.setCell _ _ _).same D _ hKD.out rfl⟩
        case measure => simp [intOf]; omega
      · obtain rfl : k = 32 := by omega
        rw [bcells_all 32 V.bytes (bytes_len V), TA.out] at K0
        have hcv := fun c => conv_row wr W.heap.size _ (sha (cat xs)) 32 c K0 (sha_len _)
        have hKD := Lib.hid hK
        have hKK := Lib.hid (KeepsOthers.refl wr)
        clear hK
        replace K0 := Lib.hid K0
        replace K1 := Lib.hid K1
        simp only [show ((32 : Nat) : Int) = 32 from rfl]
        gi_wp2
        refine ⟨by simp, .inl ⟨_, _, rfl, run_takeDeferred hKD.out, ?_⟩⟩
        exact ⟨.string (bs (sha (cat xs))), by simp [results, Tryd.results24, go_sem], rfl, below_shut hB (Nat.le_refl _) (by omega)⟩
  case stop =>
    rintro D c pre x W _ _ h _
    exact h.elim
end Go.Proofs.YtpmmjomejackkaaDoor
