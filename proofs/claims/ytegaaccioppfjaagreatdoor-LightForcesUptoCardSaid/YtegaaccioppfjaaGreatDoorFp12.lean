/- What the later texts stand on (SszL, SszI, SszM, SszR, SszN, SszO, SszW, SszX, SszT, SszG, SszU, SszJ, SszS): plain laws and walks, each by its own conditions. -/
import Derived.Test.YtegaaccioppfjaaGreatDoorFp10
import Derived.Test.YtegaaccioppfjaaGreatDoorFp11
import Derived.Test.YtegaaccioppfjaaGreatDoorFp14
import Derived.Maps.OwnIn
import Derived.Lib.AppendStr
set_option linter.unusedSimpArgs false
set_option linter.unusedVariables false
section
set_option linter.unusedSimpArgs false
set_option linter.unusedVariables false
namespace Go.Proofs.YtegaaccioppfjaaGreatDoor
open BigFrame Go.RowKit Go.Phx Go.Shelf
attribute [local go_sem] Oper.semAt_some

instance instRightP (L : List Bytes) (d : Int) : Decidable (RightP L d) := by unfold RightP; infer_instance
def rootV (L : List Bytes) (d : Int) : Value := if RightP L d then .tuple #[.string (bs (rootP L d.toNat)), .int .i64 0] else .tuple #[.string { data := #[] }, .int .i64 80]
/-- what the root's variable holds behind so many levels -/
def rootI (c : List Bytes) : Nat → Bytes
  | 0 => []
  | k + 1 => nodeP c k 0
theorem levKp_grown {b : Nat} {x : Value} {W W' : World} {r : Option Nat} (hg : W.grownBy W' r) (h0 : r ≠ some b) (h1 : r ≠ some (b + 1)) (h2 : ∀ j, r = some j → x.ownBlock ≠ some j) (h3 : r ≠ some 0) : LevKp b x W W' := by
  refine ⟨hg.size, fun h => h.grown hg (fun e => h3 e.symm), fun j hj cs t fz hx => (hg.block j (Array.getElem?_eq_some_iff.1 hx).1 fun e => ?_).trans hx⟩
  rcases hj with rfl | rfl | hj
  · exact h0 e.symm
  · exact h1 e.symm
  · exact h2 j e.symm hj
theorem levKp_below {b : Nat} {x : Value} {W W' : World} (hB : Below W.heap.size W W') : LevKp b x W W' :=
  levKp_grown (r := none) ⟨hB.os, hB.tape, hB.output, hB.size, fun j hj _ => hB.block j hj⟩ (by simp) (by simp) (by simp) (by simp)
theorem levAt_own {base : Nat} {c : List Bytes} {d : Nat} {pre : List (Value × Bytes)} {y : Value × Bytes} {x : Value} {W : World} (h : LevAt base c d pre y x W) : ∀ j, x.ownBlock = some j → base ≤ j ∧ j < W.heap.size := fun j hj => h.2.2.2.lt j hj
set_option maxRecDepth 100000 in
set_option maxHeartbeats 8000000 in
theorem root_yes (A : Option Addr) (c : Nat) (L : List Bytes) (d : Nat) (hR : RightP L d) (w : World) (hk : HasK w) (hs : Txts w A L) :
    Calls Tryz.prog 116 #[.slice A L.length c, .int .i64 d] w (Ret w (.tuple #[.string (bs (rootP L d)), .int .i64 0])) := by
  have hL : L.length ≤ 256 := hR.2.2.1
  have hd : d ≤ 10 := by have := hR.2.1; omega
  have hall := hR.2.2.2.2
  have hx : ∀ x ∈ L, x.length ≤ 9223372036854775807 := fun x h => by have := hall x h; omega
  refine (callsIn_wide (n := 9)).1 ?_
  have hwf : ∀ f, Fence.wide.fn f := fun _ => trivial
  replace hR := Lib.hid hR
  refine callsIn_of_wp_marks Tryz.func116 rfl trivial ?_ rfl
  simp only [Tryz.ntmps116, List.size_toArray, List.length_cons, List.length_nil, Nat.reduceAdd, Nat.reduceSub, Array.replicate_succ, Array.replicate_zero, List.push_toArray, List.append_toArray, List.nil_append, List.cons_append]
  gi_wp2_with fail
  refine (callsIn_wide.2 (right_calls A c L d (by omega) hx _ hs)).mono ?_
  rintro e w1 ⟨⟨r, rfl, hr⟩, hB1⟩
  obtain rfl : r = true := hr.2 hR.out
  have hs1 := Txts.below hs hB1
  have hk1 := hk.on hB1
  clear hr hs hk hx
  gi_wp2_with (gi_at_call 160; refine (levels_in _ _ _ _ _ _).mono ?_; rintro e w' ⟨rfl, rfl⟩)
  obtain ⟨ro, hro⟩ : ∃ ro, w1.heap.size = ro := ⟨_, rfl⟩
  obtain ⟨W0, hW0⟩ : ∃ W0, ((w1.alloc (.cells #[.string { data := #[] }] 9)).alloc (.cells #[.slice A L.length c] 27)).alloc (.cells #[.int .i64 d] 3) = W0 := ⟨_, rfl⟩
  have hwr : w.heap.size ≤ ro := by rw [← hro]; exact hB1.size
  have hs0 : W0.heap.size = ro + 3 := by rw [← hW0]; simp [hro]
  have KR : Blk W0 ro 9 #[.string (bs [])] := by rw [← hW0, ← hro]; exact ((Blk.new0 _ _ _).alloc _).alloc _
  have KA : Blk W0 (ro + 1) 27 #[.slice A L.length c] := by rw [← hW0, ← hro]; exact (Blk.new1 _ _ _ _).alloc _
  have KC : Blk W0 (ro + 2) 3 #[.int .i64 d] := by rw [← hW0, ← hro]; exact Blk.new2 _ _ _ _ _
  have hB10 : Below w1.heap.size w1 W0 := by rw [← hW0]; exact (by repeat (first | assumption | exact Below.refl _ _ | refine Below.setCell ?_ (by first | exact Nat.le_refl _ | (simp; done) | omega | (simp; omega)) _ | refine Below.alloc ?_ (by first | exact Nat.le_refl _ | (simp; done) | omega | (simp; omega)) _ | refine below_drewN ?_ _ | refine Below.drew ?_ | refine Below.on (by assumption) ?_ | refine Below.via (by assumption) (by first | exact Nat.le_refl _ | (simp; done) | omega | (simp; omega)) ?_))
  have hB0 : Below w.heap.size w W0 := Below.on hB10 hB1
  have hs2 := Txts.below hs1 hB10
  have hk2 := hk1.on hB10
  have hkr : 0 < ro := by rw [← hro]; exact hk1.2
  simp only [hro, World.size_alloc]
  rw [hW0]
  clear hW0 hB10 hs1 hk1 hB1 hro
  have hf := enters_of Tryz.func200 (by kernel_rfl) rfl
  refine wpIn_rangeFunc_st rfl (by decide) (gf := 200) (lb := #[.pointer (some ⟨ro + 1, 0, none⟩), .pointer (some ⟨ro + 2, 0, none⟩)]) rfl trivial hf
    (levels_stops 8 (by decide) (ro + 1) A c L d (by omega) hall hd W0 hk2 hs2 KA KC) (fun _ => rfl) (fun _ _ _ _ h k => h.trans k) (fun x W l o o' hl h1 h2 h3 => levKp_put W0 (ro + 1) (by omega) x W l o o' hl h1 h2)
    (fun x A y B k o hab hkk hA ho _ => levAb_keeps _ x A y B k o hab hA ho)
    (fun pre y x W l o o' h _ h1 h2 => levAt_put _ _ _ pre y x W l o o' h h1 h2)
    (fun pre _ W => Blk W ro 9 #[.string (bs (rootI L pre.length))] ∧ Below w.heap.size w W) (fun _ _ _ _ => False)
    (fun _ s A B row h hg hr => ?own) (fun _ _ _ _ _ _ h _ _ => h)
    (fun s x A y B h hab => ?step) (fun _ _ _ _ _ _ h _ => h) ⟨KR, hB0⟩
    (fun y => { tmps := #[.slice A L.length c, .int .i64 d, undef, undef, .string { data := #[] }, .int .i64 0, .pointer (some ⟨ro, 0, none⟩), y.1, .string (bs y.2), .slice A L.length c, .int .i64 d, .bool true, .bool false, .slice A L.length c, .int .i64 d,
      .func (.func 200) #[] #[.pointer (some ⟨ro + 1, 0, none⟩), .pointer (some ⟨ro + 2, 0, none⟩)], y.1, .string (bs y.2), undef, undef, undef, undef], defers := [] })
    ?assign ?body ?done ?stop
  case own =>
    obtain ⟨h1, h3⟩ := h
    have hne : ∀ r, row = some r → W0.heap.size ≤ r := fun r e => (hr r e).1
    exact ⟨h1.grown hg (fun e => by have := hne _ e.symm; omega), h3.grown hg h3.size (fun k e => by have := hne k e; omega)⟩
  case step =>
    obtain ⟨h1, h3⟩ := h
    have hne : ∀ r, x.ownBlock = some r → W0.heap.size ≤ r := fun r e => (hab.2.2 r e).1
    exact ⟨h1.grown hab.1 (fun e => by have := hne _ e.symm; omega), h3.grown hab.1 h3.size (fun k e => by have := hne k e; omega)⟩
  case assign =>
    intro l y W K hK
    gi_wp2
    exact hK
  case body =>
    rintro l pre y x W ⟨h1, h3⟩ hat
    have hown := levAt_own hat
    obtain ⟨e1, e2, e3, R⟩ := hat
    obtain ⟨A2, c2, hx, T⟩ := R.txts
    have hle := levP_le L pre.length
    have hn : atP (levP L pre.length) (zeroH pre.length) 0 = rootI L (pre.length + 1) := rfl
    rw [e1, e2, hx]
    clear R e1 e2
    have K1 := Lib.hid h1
    have H3 := Lib.hid h3
    have HN := Lib.hid hn
    clear h1 h3 hn
    generalize levP L pre.length = Lv at *
    generalize zeroH pre.length = z at *
    gi_wp2_with fail
    refine (CallsIn.inRound l (callsIn_wide.2 (by simpa using at_calls A2 c2 Lv z 0 (by omega) (by omega) W T))).mono ?_
    rintro e w2 ⟨rfl, hB2⟩
    rw [HN.out]
    have K2 := Lib.hid (K1.out.below hB2)
    (have k2 := Blk.cell K2.out; have f2 := Blk.free K2.out; have l2 := Blk.lt K2.out; have m2 := Nat.le_of_lt l2)
    have g2 : Below W.heap.size W (w2.setCell ⟨ro, 0, none⟩ (.string (bs (rootI L (pre.length + 1))))) → True := fun _ => trivial
    gi_wp2
    have hrW : ro < W.heap.size := K1.out.lt
    refine ⟨(KeepsOthers.below hB2).trans (KeepsOthers.setCell _ _ _), (levKp_below hB2).trans (levKp_grown (grown_set (World.grownBy.refl _ _)) (by first | (simp; done) | (simp; omega)) (by first | (simp; done) | (simp; omega)) (fun j hj e => ?_) (by first | (simp; done) | (simp; omega))), ?_, ?_⟩
    · cases hj
      have := (hown ro (by rw [hx]; exact e)).1
      omega
    · have := K2.out.set_ 0 (.string (bs (rootI L (pre.length + 1))))
      simpa using this
    · exact (H3.out.trans (hB2.mono H3.out.size)).setCell (by simp; omega) _
  case done =>
    rintro D xs x W hD hxs ⟨h1, h3⟩ hK
    rw [hxs] at h1
    have K1 := Lib.hid h1
    have hKD := Lib.hid hK
    have H3 := Lib.hid h3
    clear h1 h3 hK
    (have k1 := Blk.cell K1.out; have f1 := Blk.free K1.out; have l1 := Blk.lt K1.out; have m1 := Nat.le_of_lt l1)
    gi_wp2
    refine ⟨by simp, .inl ⟨_, _, rfl, run_takeDeferred hKD.out, ?_⟩⟩
    exact ⟨.tuple #[.string (bs (rootP L d)), .int .i64 0], by simp [results, Tryz.results116, go_sem]; rfl, rfl, below_shut H3.out (Nat.le_refl _) (by omega)⟩
  case stop =>
    rintro D c pre x W _ _ h _
    exact h.elim
set_option maxRecDepth 100000 in
theorem zroot_no (A : Option Addr) (c : Nat) (L : List Bytes) (d : Int) (hR : ¬ RightP L d) (hL : L.length ≤ 9223372036854775807) (hx : ∀ x ∈ L, x.length ≤ 9223372036854775807) (w : World) (hs : Txts w A L) :
    Calls Tryz.prog 116 #[.slice A L.length c, .int .i64 d] w (Ret w (.tuple #[.string { data := #[] }, .int .i64 80])) := by
  replace hR := Lib.hid hR
  go_enter Tryz.func116, Tryz.ntmps116
  go_wp2_with fail
  refine (right_calls A c L d hL hx _ hs).mono ?_
  rintro e w1 ⟨⟨r, rfl, hr⟩, hB1⟩
  obtain rfl : r = false := by
    cases r
    · rfl
    · exact absurd (hr.1 rfl) hR.out
  clear hr hx
  go_wp2_with fail
  go_ret2
  exact ⟨rfl, hB1⟩
theorem zroot_calls (A : Option Addr) (c : Nat) (L : List Bytes) (d : Int) (hL : L.length ≤ 9223372036854775807) (hx : ∀ x ∈ L, x.length ≤ 9223372036854775807) (w : World) (hk : HasK w) (hs : Txts w A L) :
    Calls Tryz.prog 116 #[.slice A L.length c, .int .i64 d] w (Ret w (rootV L d)) := by
  by_cases hR : RightP L d
  · have e : ((d.toNat : Nat) : Int) = d := Int.toNat_of_nonneg hR.1
    have := root_yes A c L d.toNat (by rw [e]; exact hR) w hk hs
    rw [e] at this
    unfold rootV
    rw [if_pos hR]
    exact this
  · unfold rootV
    rw [if_neg hR]
    exact zroot_no A c L d hR hL hx w hs
end Go.Proofs.YtegaaccioppfjaaGreatDoor
end
section
set_option linter.unusedSimpArgs false
set_option linter.unusedVariables false
namespace Go.Proofs.YtegaaccioppfjaaGreatDoor
open BigFrame Go.RowKit Go.Phx Go.Shelf
attribute [local go_sem] Oper.semAt_some

/-- a number's chunk -/
def numP (n : Nat) : Bytes := (List.range 8).map (fun i => UInt8.ofNat (n / 2 ^ (8 * i))) ++ List.replicate 24 0
theorem numP_len (n : Nat) : (numP n).length = 32 := by simp [numP]
theorem numP_at (n k : Nat) (hk : k < 8) : (n : Int) / 2 ^ (8 * k) % 256 = (((numP n).getD k 0).toNat : Int) := by
  have e : (numP n).getD k 0 = UInt8.ofNat (n / 2 ^ (8 * k)) := by
    unfold numP
    rw [List.getD, List.getElem?_append_left (by simp; omega), List.getElem?_map, List.getElem?_range hk]
    rfl
  have e2 : (n : Int) / 2 ^ (8 * k) = ((n / 2 ^ (8 * k) : Nat) : Int) := by simp
  rw [e, e2]
  simp
theorem num_cells (n : Nat) : bcells 32 (numP n) 8 = bcells 32 (numP n) 32 := by
  unfold bcells numP
  simp [List.take_append]
  rw [List.take_of_length_le (by simp)]
set_option maxRecDepth 100000 in
set_option maxHeartbeats 2000000 in
theorem number_calls (n : Nat) (hn : n < 18446744073709551616) (w : World) : Calls Tryz.prog 100 #[.int .u64 n] w (Ret w (.string (bs (numP n)))) := by
  go_enter Tryz.func100, Tryz.ntmps100
  go_wp2_with fail
  have K0 := Lib.hid (Blk.new0 w 159 (bcells 32 (numP n) 0))
  have hB0 : Below w.heap.size w (w.alloc (.cells (bcells 32 (numP n) 0) 159)) := (Below.refl _ _).alloc (Nat.le_refl _) _
  go_loopw [5] (fun i wr => ∃ k : Nat, k ≤ 8 ∧ i = .int .i64 k ∧ Blk wr w.heap.size 159 (bcells 32 (numP n) k) ∧ Below w.heap.size w wr) (fun i _ => (8 - intOf i).toNat)
  case atStart => exact ⟨0, by omega, rfl, K0.out, hB0⟩
  case round =>
    clear K0 hB0
    obtain ⟨k, hk, rfl, K0, hB⟩ := hrel
    by_cases hlt : k < 8
    · have hx := numP_at n k hlt
      have hset := bcells_set 32 (numP n) k (by omega) (numP_len n) _ hx
      have HS := Lib.hid hset
      clear hset hx
      replace K0 := Lib.hid K0
      (have k0 := Blk.cell K0.out; have f0 := Blk.free K0.out; have l0 := Blk.lt K0.out; have m0 := Nat.le_of_lt l0)
      have gk := bcells_at 32 (numP n) k (by omega) (numP_len n)
      go_wp2_with fail
      exact ⟨⟨k + 1, by omega, by go_num, by rw [← HS.out]; exact K0.out.set_ _ _, hB.setCell (by simp) _⟩, by simp [intOf]; omega⟩
    · obtain rfl : k = 8 := by omega
      rw [num_cells, bcells_all 32 (numP n) (numP_len n)] at K0
      have hcv := fun c => conv_row wr w.heap.size _ (numP n) 32 c K0 (numP_len n)
      replace K0 := Lib.hid K0
      simp only [show ((8 : Nat) : Int) = 8 from rfl]
      go_wp2_with fail
      go_ret
      exact ⟨rfl, hB⟩
end Go.Proofs.YtegaaccioppfjaaGreatDoor
end
section
set_option linter.unusedSimpArgs false
set_option linter.unusedVariables false
namespace Go.Proofs.YtegaaccioppfjaaGreatDoor
open BigFrame Go.RowKit Go.Phx Go.Shelf
attribute [local go_sem] Oper.semAt_some

/-- what the walk of a branch holds behind so many rounds -/
def BrI (L : List Bytes) (d i ro b : Nat) (w : World) (k : Nat) (x : Value) (W : World) : Prop :=
  ∃ v, Blk W ro 27 #[v] ∧ LRow (ro + 3) W v (branchP L i k) ∧ (∀ j, v.ownBlock = some j → x.ownBlock ≠ some j) ∧ Blk W b 3 #[.int .i64 d] ∧ Blk W (b + 1) 3 #[.int .i64 ((i / 2 ^ k : Nat) : Int)] ∧ k ≤ d ∧ Below w.heap.size w W ∧ ro + 3 ≤ W.heap.size
theorem BrI.grown {L : List Bytes} {d i ro b : Nat} {w : World} {k : Nat} {x y : Value} {W W' : World} {r : Option Nat} (h : BrI L d i ro b w k x W) (hg : W.grownBy W' r) (hr : ∀ j, r = some j → w.heap.size ≤ j ∧ j ≠ ro ∧ j ≠ b ∧ j ≠ b + 1)
    (hv : ∀ (v : Value) (L' : List Bytes), LRow (ro + 3) W v L' → (∀ j, v.ownBlock = some j → x.ownBlock ≠ some j) → ∀ j, v.ownBlock = some j → r ≠ some j ∧ y.ownBlock ≠ some j) : BrI L d i ro b w k y W' := by
  obtain ⟨v, h1, h2, h3, h4, h5, h6, h7, h8⟩ := h
  have hn : ∀ g, (g = ro ∨ g = b ∨ g = b + 1) → some g ≠ r := fun g hg e => by
    obtain ⟨_, a1, a2, a3⟩ := hr g e.symm
    rcases hg with h | h | h
    · exact a1 h
    · exact a2 h
    · exact a3 h
  exact ⟨v, h1.grown hg (hn _ (.inl rfl)), h2.keep hg fun j hj => (hv v _ h2 h3 j hj).1, fun j hj => (hv v _ h2 h3 j hj).2, h4.grown hg (hn _ (.inr (.inl rfl))), h5.grown hg (hn _ (.inr (.inr rfl))), h6, h7.grown hg h7.size fun j e => (hr j e).1, Nat.le_trans h8 hg.size⟩
theorem BrI.own {L : List Bytes} {d i ro b : Nat} {w W0 : World} {k : Nat} {x : Value} {A B : World} {r : Option Nat} (h : BrI L d i ro b w k x A) (hg : A.grownBy B r) (hr : ∀ j, r = some j → W0.heap.size ≤ j ∧ ∃ o : Obj, A.heap[j]? = some o ∧ o.isCells = false) (h0 : w.heap.size ≤ W0.heap.size) (h1 : ro < W0.heap.size) (h2 : b + 1 < W0.heap.size) : BrI L d i ro b w k x B := by
  refine h.grown hg (fun j hj => by have := (hr j hj).1; omega) fun v L' hL hx j hj => ⟨fun e => ?_, hx j hj⟩
  obtain ⟨_, o, ho, hc⟩ := hr j e
  obtain ⟨_, cs, t, fz, hcs⟩ := LRow.cells hL j hj
  rw [hcs] at ho
  injection ho with ho
  subst ho
  cases hc
theorem BrI.step {L : List Bytes} {d i ro b : Nat} {w W0 : World} {k : Nat} {x y : Value} {A B : World} (h : BrI L d i ro b w k x A) (hab : LevAb W0.heap.size x A y B) (h0 : w.heap.size ≤ W0.heap.size) (h1 : ro < W0.heap.size) (h2 : b + 1 < W0.heap.size) : BrI L d i ro b w k y B := by
  refine h.grown hab.1 (fun j hj => by have := (hab.2.2 j hj).1; omega) fun v L' hL hx j hj => ⟨fun e => hx j hj e, fun e => ?_⟩
  rcases hab.2.1 with e1 | e1
  · rw [e1] at e; exact hx j hj e
  · have := e1 j e
    have := (hL.lt j hj).2
    omega
/-- a branch, or that there is none -/
def BranchOk (L : List Bytes) (d i : Int) : Prop := RightP L d ∧ 0 ≤ i ∧ i < ((2 ^ d.toNat : Nat) : Int)
instance instBranchOk (L : List Bytes) (d i : Int) : Decidable (BranchOk L d i) := by unfold BranchOk; infer_instance
end Go.Proofs.YtegaaccioppfjaaGreatDoor
end
section
namespace Go.Phx

theorem take_step {α : Type} (l : List α) (d : α) (m : Nat) (h : m < l.length) : l.take (m + 1) = l.take m ++ [l.getD m d] := by
  rw [List.take_add_one, List.getElem?_eq_getElem h, List.getD, List.getElem?_eq_getElem h]
  rfl
/-- a step of the way -/
def stepT (s x : Bytes) (i k : Nat) : Bytes := if i / 2 ^ k % 2 = 1 then s ++ x else x ++ s
theorem wayP_step (r : List Bytes) (x : Bytes) (i k : Nat) (h : k < r.length) : wayP x (r.take (k + 1)) i = sha (stepT (r.getD k []) (wayP x (r.take k) i) i k) := by
  rw [take_step r [] k h, wayP_snoc', List.length_take, Nat.min_eq_left (by omega)]
  unfold stepT
  split <;> rfl
theorem wayP_32 : ∀ (r : List Bytes) (x : Bytes) (i : Nat), x.length = 32 → (wayP x r i).length = 32
  | [], x, i, h => h
  | s :: r, x, i, h => by
    unfold wayP
    exact wayP_32 r _ _ (by split <;> exact sha_len _)
theorem getD_mem {l : List Bytes} {k : Nat} (h : k < l.length) : l.getD k [] ∈ l := by
  rw [List.getD, List.getElem?_eq_getElem h]
  exact List.getElem_mem h
end Go.Phx
end
section
set_option linter.unusedSimpArgs false
set_option linter.unusedVariables false
namespace Go.Proofs.YtegaaccioppfjaaGreatDoor
open BigFrame Go.RowKit Go.Phx Go.Shelf
attribute [local go_sem] Oper.semAt_some

end Go.Proofs.YtegaaccioppfjaaGreatDoor
end
section
set_option linter.unusedSimpArgs false
set_option linter.unusedVariables false
namespace Go.Proofs.YtegaaccioppfjaaGreatDoor
open BigFrame Go.RowKit Go.Phx Go.Shelf
attribute [local go_sem] Oper.semAt_some

theorem isChunk_yes (l : List UInt8) (hl : l.length = 32) (w : World) : Calls Tryz.prog 113 #[.string (bs l)] w (fun e w' => e = .returned (.bool true) ∧ w = w') := by
  have e : ((l.length : Int) = 32) := by omega
  go_enter Tryz.func113, Tryz.ntmps113
  go_wp2_with fail
  go_ret
  exact ⟨by simp [hl], rfl⟩
theorem isChunk_no (l : List UInt8) (hl : l.length ≠ 32) (hb : l.length ≤ 9223372036854775807) (w : World) : Calls Tryz.prog 113 #[.string (bs l)] w (fun e w' => e = .returned (.bool false) ∧ w = w') := by
  have e : ¬ ((l.length : Int) = 32) := by omega
  go_enter Tryz.func113, Tryz.ntmps113
  go_wp2_with fail
  go_ret
  exact ⟨by simp [e], rfl⟩
set_option maxRecDepth 100000 in
set_option maxHeartbeats 4000000 in
theorem check_loop (x : Bytes) (A : Option Addr) (c : Nat) (L : List Bytes) (i : Nat) (root : Bytes) (hx : x.length = 32) (hr : root.length = 32) (hL : L.length ≤ 64) (hi : i < 18446744073709551616) (hi2 : i / 2 ^ L.length = 0)
    (hall : ∀ y ∈ L, y.length ≤ 1000000000) (w : World) (hk : HasK w) (hs : Txts w A L) :
    Calls Tryz.prog 54 #[.string (bs x), .slice A L.length c, .int .u64 i, .string (bs root)] w (Ret w (.bool (decide (CheckP x L i root)))) := by
  have hL1 : ¬ (64 < L.length) := by omega
  have hL2 : decide ((64 : Int) < (L.length : Int)) = false := decide_eq_false (by omega)
  have hi3 : (i : Int) / 2 ^ L.length = 0 := by
    have : ((i / 2 ^ L.length : Nat) : Int) = 0 := by rw [hi2]; rfl
    simpa using this
  go_enter Tryz.func54, Tryz.ntmps54
  go_wp2_with (first | (go_at_call 113; (with_reducible refine (isChunk_yes x hx _).mono ?_); rintro e w' ⟨rfl, rfl⟩) | (go_at_call 113; (with_reducible refine (isChunk_yes root hr _).mono ?_); rintro e w' ⟨rfl, rfl⟩))
  clear hL1 hL2 hi3
  go_loopw [0, 2, 33] (fun q j n wr => ∃ k : Nat, k ≤ L.length ∧ n = .int .i64 k ∧ q = .string (bs (wayP x (L.take k) i)) ∧ j = .int .u64 ((i / 2 ^ k : Nat) : Int) ∧ (∀ y ∈ L.take k, y.length = 32) ∧ Below w.heap.size w wr) (fun _ _ n _ => (L.length - intOf n).toNat)
  case atStart => exact ⟨0, by omega, rfl, rfl, by rw [Nat.pow_zero, Nat.div_one], by simp, Below.refl _ _⟩
  case round =>
    obtain ⟨k, hk2, rfl, rfl, rfl, h32, HB⟩ := hrel
    have hkr := hk.on HB
    by_cases hlt : k < L.length
    · have hw := Lib.hid (wayP_step L x i k hlt)
      have hql := wayP_32 (L.take k) x i hx
      obtain ⟨b, o, rfl, hb, hc⟩ := Txts.at (Txts.below hs HB) k hlt
      have htake := Lib.hid (take_step L [] k hlt)
      have hy := hall _ (getD_mem hlt)
      have hmem := Lib.hid (getD_mem hlt)
      generalize L.getD k [] = y at *
      generalize wayP x (L.take k) i = q at *
      have hdiv : i / 2 ^ k / 2 = i / 2 ^ (k + 1) := by rw [Nat.div_div_eq_div_mul, Nat.pow_succ]
      replace hdiv := Lib.hid hdiv
      have hstep : ∀ s t : Bytes, Phx.stepT s t i k = if i / 2 ^ k % 2 = 1 then s ++ t else t ++ s := fun _ _ => rfl
      replace hstep := Lib.hid hstep
      have hm : i / 2 ^ k < 18446744073709551616 := Nat.lt_of_le_of_lt (Nat.div_le_self _ _) hi
      generalize i / 2 ^ k = m at *
      clear hs hall
      replace h32 := Lib.hid h32
      by_cases hy32 : y.length = 32
      · have hnext : ∀ z ∈ L.take (k + 1), z.length = 32 := by
          rw [htake.out]
          intro z hz
          rcases List.mem_append.1 hz with h | h
          · exact h32.out z h
          · rw [List.mem_singleton.1 h]; exact hy32
        replace hnext := Lib.hid hnext
        rcases Nat.mod_two_eq_zero_or_one m with hm2 | hm2
        · have hm3 : ((m : Int) % 2 == 1) = false := by
            have : (m : Int) % 2 = 0 := by omega
            rw [this]; rfl
          have hm4 : ¬ (m : Int) % 2 = 1 := by omega
          rw [hstep.out, if_neg (by omega)] at hw
          clear hm2
          replace HB := Lib.hid HB
          replace hkr := Lib.hid hkr
          go_wp2_with (go_at_call 113; (with_reducible refine (isChunk_yes y hy32 _).mono ?_); rintro e w' ⟨rfl, rfl⟩)
          refine (sum2_calls q y (by omega) (by omega) _ _ (hkr.out.alloc _) (strs2 wr _ _)).mono ?_
          rintro e w2 ⟨rfl, h2⟩
          have HB2 : Below w.heap.size w w2 := Below.on h2 (HB.out.alloc HB.out.size _)
          go_wp2_with fail
          go_roundw
          case rel => exact ⟨k + 1, by omega, by go_num, by rw [hw.out], by rw [← hdiv.out]; go_num, hnext.out, HB2⟩
          case measure => simp [intOf]; omega
        · have hm3 : ((m : Int) % 2 == 1) = true := by
            have : (m : Int) % 2 = 1 := by omega
            rw [this]; rfl
          have hm4 : (m : Int) % 2 = 1 := by omega
          rw [hstep.out, if_pos hm2] at hw
          clear hm2
          replace HB := Lib.hid HB
          replace hkr := Lib.hid hkr
          go_wp2_with (go_at_call 113; (with_reducible refine (isChunk_yes y hy32 _).mono ?_); rintro e w' ⟨rfl, rfl⟩)
          refine (sum2_calls y q (by omega) (by omega) _ _ (hkr.out.alloc _) (strs2 wr _ _)).mono ?_
          rintro e w2 ⟨rfl, h2⟩
          have HB2 : Below w.heap.size w w2 := Below.on h2 (HB.out.alloc HB.out.size _)
          go_wp2_with fail
          go_roundw
          case rel => exact ⟨k + 1, by omega, by go_num, by rw [hw.out], by rw [← hdiv.out]; go_num, hnext.out, HB2⟩
          case measure => simp [intOf]; omega
      · have hno : decide (CheckP x L i root) = false := decide_eq_false fun h => hy32 (h.2.2.2.2.1 y hmem.out)
        replace hno := Lib.hid hno
        replace HB := Lib.hid HB
        replace hL := Lib.hid hL
        clear hkr
        go_wp2_with (go_at_call 113; (with_reducible refine (isChunk_no y hy32 (by omega) _).mono ?_); rintro e w' ⟨rfl, rfl⟩)
        go_ret
        exact ⟨by rw [hno.out]; rfl, HB.out⟩
    · obtain rfl : k = L.length := by omega
      rw [List.take_of_length_le (Nat.le_refl _)] at h32 ⊢
      have hq : (decide (CheckP x L i root)) = decide (wayP x L i = root) := by
        rw [decide_eq_decide]
        exact ⟨fun h => h.2.2.2.2.2, fun h => ⟨hL, hx, hr, (Nat.div_eq_zero_iff_lt (Nat.two_pow_pos _)).1 hi2, h32, h⟩⟩
      replace hq := Lib.hid hq
      have hql := wayP_32 L x i hx
      generalize wayP x L i = q at *
      replace HB := Lib.hid HB
      clear h32 hs hall
      by_cases hqr : q = root
      · subst hqr
        go_wp2_with fail
        go_ret
        exact ⟨by rw [hq.out]; simp, HB.out⟩
      · have hne : (q == root) = false := by simpa using hqr
        go_wp2_with fail
        go_ret
        exact ⟨by rw [hq.out]; simp [hqr], HB.out⟩
set_option maxRecDepth 100000 in
set_option maxHeartbeats 4000000 in
theorem check_no (x : Bytes) (A : Option Addr) (c : Nat) (L : List Bytes) (i : Nat) (root : Bytes) (hx : x.length ≤ 1000000000) (hr : root.length ≤ 1000000000) (hL : L.length ≤ 1000000000) (hi : i < 18446744073709551616)
    (hn : 64 < L.length ∨ x.length ≠ 32 ∨ root.length ≠ 32 ∨ L.length ≤ 64 ∧ x.length = 32 ∧ root.length = 32 ∧ i / 2 ^ L.length ≠ 0) (w : World) :
    Calls Tryz.prog 54 #[.string (bs x), .slice A L.length c, .int .u64 i, .string (bs root)] w (Ret w (.bool false)) := by
  by_cases h1 : 64 < L.length
  · have e1 : decide ((64 : Int) < (L.length : Int)) = true := decide_eq_true (by omega)
    clear hn
    go_enter Tryz.func54, Tryz.ntmps54
    go_wp2_with fail
    go_ret
    exact ⟨rfl, Below.refl _ _⟩
  · have e1 : decide ((64 : Int) < (L.length : Int)) = false := decide_eq_false (by omega)
    by_cases h2 : x.length = 32
    · by_cases h3 : root.length = 32
      · have h4 : i / 2 ^ L.length ≠ 0 := by omega
        have h5 : (0 : Int) < (i : Int) / 2 ^ L.length := by
          have : (0 : Int) < ((i / 2 ^ L.length : Nat) : Int) := Int.natCast_pos.2 (Nat.pos_of_ne_zero h4)
          simpa using this
        have h6 : decide ((0 : Int) < (i : Int) / 2 ^ L.length) = true := decide_eq_true h5
        have h7 : L.length ≤ 64 := by omega
        clear hn h4
        go_enter Tryz.func54, Tryz.ntmps54
        go_wp2_with (first | (go_at_call 113; (with_reducible refine (isChunk_yes x h2 _).mono ?_); rintro e w' ⟨rfl, rfl⟩) | (go_at_call 113; (with_reducible refine (isChunk_yes root h3 _).mono ?_); rintro e w' ⟨rfl, rfl⟩))
        go_ret
        exact ⟨rfl, Below.refl _ _⟩
      · clear hn
        go_enter Tryz.func54, Tryz.ntmps54
        go_wp2_with (first | (go_at_call 113; (with_reducible refine (isChunk_yes x h2 _).mono ?_); rintro e w' ⟨rfl, rfl⟩) | (go_at_call 113; (with_reducible refine (isChunk_no root h3 (by omega) _).mono ?_); rintro e w' ⟨rfl, rfl⟩))
        go_ret
        exact ⟨rfl, Below.refl _ _⟩
    · clear hn
      go_enter Tryz.func54, Tryz.ntmps54
      go_wp2_with (go_at_call 113; (with_reducible refine (isChunk_no x h2 (by omega) _).mono ?_); rintro e w' ⟨rfl, rfl⟩)
      go_ret
      exact ⟨rfl, Below.refl _ _⟩
/-- whether a branch is a leaf's under a root -/
theorem check_calls (x : Bytes) (A : Option Addr) (c : Nat) (L : List Bytes) (i : Nat) (root : Bytes) (hx : x.length ≤ 1000000000) (hr : root.length ≤ 1000000000) (hL : L.length ≤ 1000000000) (hi : i < 18446744073709551616)
    (hall : ∀ y ∈ L, y.length ≤ 1000000000) (w : World) (hk : HasK w) (hs : Txts w A L) :
    Calls Tryz.prog 54 #[.string (bs x), .slice A L.length c, .int .u64 i, .string (bs root)] w (Ret w (.bool (decide (CheckP x L i root)))) := by
  by_cases h : L.length ≤ 64 ∧ x.length = 32 ∧ root.length = 32 ∧ i / 2 ^ L.length = 0
  · exact check_loop x A c L i root h.2.1 h.2.2.1 h.1 hi h.2.2.2 hall w hk hs
  · have e : decide (CheckP x L i root) = false := decide_eq_false fun hc => h ⟨hc.1, hc.2.1, hc.2.2.1, Nat.div_eq_of_lt hc.2.2.2.1⟩
    rw [e]
    refine check_no x A c L i root hx hr hL hi ?_ w
    by_cases h1 : 64 < L.length
    · exact .inl h1
    · by_cases h2 : x.length = 32
      · by_cases h3 : root.length = 32
        · exact .inr (.inr (.inr ⟨by omega, h2, h3, fun h4 => h ⟨by omega, h2, h3, h4⟩⟩))
        · exact .inr (.inr (.inl h3))
      · exact .inr (.inl h2)
end Go.Proofs.YtegaaccioppfjaaGreatDoor
end
section
set_option linter.unusedSimpArgs false
set_option linter.unusedVariables false
namespace Go.Proofs.YtegaaccioppfjaaGreatDoor
open BigFrame Go.RowKit Go.Phx Go.Shelf
attribute [local go_sem] Oper.semAt_some

end Go.Proofs.YtegaaccioppfjaaGreatDoor
end
section
set_option linter.unusedSimpArgs false
set_option linter.unusedVariables false
namespace Go.Proofs.YtegaaccioppfjaaGreatDoor
open BigFrame Go.RowKit Go.Phx Go.Shelf

theorem as_lists (xs : List ByteArray) : ∃ L : List Bytes, xs = L.map bs ∧ L = xs.map fun s => s.data.toList :=
  ⟨xs.map fun s => s.data.toList, by rw [List.map_map]; exact (List.map_id'' (f := bs ∘ fun s : ByteArray => s.data.toList) (fun s => bs_of s) xs).symm, rfl⟩
theorem flat_le : ∀ (L : List Bytes) (y : Bytes), y ∈ L → y.length ≤ L.flatten.length
  | [], y, h => by cases h
  | a :: r, y, h => by
    rw [List.flatten_cons, List.length_append]
    rcases List.mem_cons.1 h with rfl | h
    · omega
    · have := flat_le r y h
      omega
theorem in_bulk {L : List Bytes} {n : Nat} (h : L.length + L.flatten.length ≤ n) : L.length ≤ n ∧ ∀ y ∈ L, y.length ≤ n :=
  ⟨by omega, fun y hy => by have := flat_le L y hy; omega⟩
end Go.Proofs.YtegaaccioppfjaaGreatDoor
end
section
set_option linter.unusedSimpArgs false
set_option linter.unusedVariables false
namespace Go.Proofs.YtegaaccioppfjaaGreatDoor
open BigFrame Go.RowKit Go.Phx Go.Shelf
attribute [local go_sem] Oper.semAt_some

end Go.Proofs.YtegaaccioppfjaaGreatDoor
end
section
set_option linter.unusedSimpArgs false
set_option linter.unusedVariables false
namespace Go.Proofs.YtegaaccioppfjaaGreatDoor
open BigFrame Go.RowKit Go.Phx Go.Shelf
attribute [local go_sem] Oper.semAt_some

end Go.Proofs.YtegaaccioppfjaaGreatDoor
end
section
set_option linter.unusedSimpArgs false
set_option linter.unusedVariables false
namespace Go.Proofs.YtegaaccioppfjaaGreatDoor
open BigFrame Go.RowKit Go.Phx Go.Shelf
attribute [local go_sem] Oper.semAt_some

end Go.Proofs.YtegaaccioppfjaaGreatDoor
end
section
set_option linter.unusedSimpArgs false
set_option linter.unusedVariables false
namespace Go.Proofs.YtegaaccioppfjaaGreatDoor
open BigFrame Go.RowKit Go.Phx Go.Shelf
attribute [local go_sem] Oper.semAt_some

end Go.Proofs.YtegaaccioppfjaaGreatDoor
end
section
set_option linter.unusedSimpArgs false
set_option linter.unusedVariables false
namespace Go.Proofs.YtegaaccioppfjaaGreatDoor
open BigFrame Go.RowKit Go.Phx Go.Shelf
attribute [local go_sem] Oper.semAt_some

end Go.Proofs.YtegaaccioppfjaaGreatDoor
end
