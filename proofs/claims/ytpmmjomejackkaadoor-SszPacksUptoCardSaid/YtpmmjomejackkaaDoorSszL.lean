/- A tree's root, by the program. -/
import Derived.Test.YtpmmjomejackkaaDoorSszD
import Derived.Test.YtpmmjomejackkaaDoorTxt
import Derived.Test.YtpmmjomejackkaaDoorSszF
import Derived.Test.YtpmmjomejackkaaDoorSszQ
set_option linter.unusedSimpArgs false
set_option linter.unusedVariables false
namespace Go.Proofs.YtpmmjomejackkaaDoor
open BigFrame Go.RowKit Go.Phx Go.Shelf
attribute [local go_sem] Oper.semAt_some

instance instRightP (L : List Bytes) (d : Int) : Decidable (RightP L d) := by unfold RightP; infer_instance
def rootV (L : List Bytes) (d : Int) : Value := if RightP L d then .tuple #[.string (bs (rootP L d.toNat)), .int .i64 0] else .tuple #[.string { data := #[] }, .int .i64 80]
/-- what the root's variable holds behind so many levels -/
def rootI (c : List Bytes) : Nat → Bytes
  | 0 => []
  | k + 1 => nodeP c k 0
theorem levKp_grown {b : Nat} {x : Value} {W W' : World} {r : Option Nat} (hg : W.grownBy W' r) (h0 : r ≠ some b) (h1 : r ≠ some (b + 1)) (h2 : ∀ j, r = some j → x.ownBlock ≠ some j) (h3 : r ≠ some 0) : LevKp b x W W' := by
  refine ⟨hg.size, fun h => h.grown hg (fun e => h3 e.symm), fun j hj cs t fz hx => (hg.block j (Array.getElem?_eq_some_iff.1 hx).1 fun e => ?_).trans hx⟩
  rcases hj with rfl | rfl | hj
  · exact h0 e.symm
  · exact h1 e.symm
  · exact h2 j e.symm hj
theorem levKp_below {b : Nat} {x : Value} {W W' : World} (hB : Below W.heap.size W W') : LevKp b x W W' :=
  levKp_grown (r := none) ⟨hB.os, hB.tape, hB.output, hB.size, fun j hj _ => hB.block j hj⟩ (by simp) (by simp) (by simp) (by simp)
theorem levAt_own {base : Nat} {c : List Bytes} {d : Nat} {pre : List (Value × Bytes)} {y : Value × Bytes} {x : Value} {W : World} (h : LevAt base c d pre y x W) : ∀ j, x.ownBlock = some j → base ≤ j ∧ j < W.heap.size := fun j hj => h.2.2.2.lt j hj
set_option maxRecDepth 100000 in
set_option maxHeartbeats 8000000 in
theorem root_yes (A : Option Addr) (c : Nat) (L : List Bytes) (d : Nat) (hR : RightP L d) (w : World) (hk : HasK w) (hs : Txts w A L) :
    Calls Tryd.prog 31 #[.slice A L.length c, .int .i64 d] w (Ret w (.tuple #[.string (bs (rootP L d)), .int .i64 0])) := by
  have hL : L.length ≤ 256 := hR.2.2.1
  have hd : d ≤ 10 := by have := hR.2.1; omega
  have hall := hR.2.2.2.2
  have hx : ∀ x ∈ L, x.length ≤ 9223372036854775807 := fun x h => by have := hall x h; omega
  refine (callsIn_wide (n := 9)).1 ?_
  have hwf : ∀ f, Fence.wide.fn f := fun _ => trivial
  replace hR := Lib.hid hR
  refine callsIn_of_wp_marks Tryd.func31 rfl trivial ?_ rfl
  simp only [Tryd.ntmps31, List.size_toArray, List.length_cons, List.length_nil, Nat.reduceAdd, Nat.reduceSub, Array.replicate_succ, Array.replicate_zero, List.push_toArray, List.append_toArray, List.nil_append, List.cons_append]
  gi_wp2_with fail
  refine (callsIn_wide.2 (right_calls A c L d (by omega) hx _ hs)).mono ?_
  rintro e w1 ⟨⟨r, rfl, hr⟩, hB1⟩
  obtain rfl : r = true := hr.2 hR.out
  have hs1 := Txts.below hs hB1
  have hk1 := hk.on hB1
  clear hr hs hk hx
  gi_wp2_with (gi_at_call 69; refine (levels_in _ _ _ _ _ _).mono ?_; rintro e w' ⟨rfl, rfl⟩)
  obtain ⟨ro, hro⟩ : ∃ ro, w1.heap.size = ro := ⟨_, rfl⟩
  obtain ⟨W0, hW0⟩ : ∃ W0, ((w1.alloc (.cells #[.string { data := #[] }] 9)).alloc (.cells #[.slice A L.length c] 22)).alloc (.cells #[.int .i64 d] 3) = W0 := ⟨_, rfl⟩
  have hwr : w.heap.size ≤ ro := by rw [← hro]; exact hB1.size
  have hs0 : W0.heap.size = ro + 3 := by rw [← hW0]; simp [hro]
  have KR : Blk W0 ro 9 #[.string (bs [])] := by rw [← hW0, ← hro]; exact ((Blk.new0 _ _ _).alloc _).alloc _
  have KA : Blk W0 (ro + 1) 22 #[.slice A L.length c] := by rw [← hW0, ← hro]; exact (Blk.new1 _ _ _ _).alloc _
  have KC : Blk W0 (ro + 2) 3 #[.int .i64 d] := by rw [← hW0, ← hro]; exact Blk.new2 _ _ _ _ _
  have hB10 : Below w1.heap.size w1 W0 := by rw [← hW0]; exact (by repeat (first | assumption | exact Below.refl _ _ | refine Below.setCell ?_ (by first | exact Nat.le_refl _ | (simp; done) | omega | (simp; omega)) _ | refine Below.alloc ?_ (by first | exact Nat.le_refl _ | (simp; done) | omega | (simp; omega)) _ | refine below_drewN ?_ _ | refine Below.drew ?_ | refine Below.on (by assumption) ?_ | refine Below.via (by assumption) (by first | exact Nat.le_refl _ | (simp; done) | omega | (simp; omega)) ?_))
  have hB0 : Below w.heap.size w W0 := Below.on hB10 hB1
  have hs2 := Txts.below hs1 hB10
  have hk2 := hk1.on hB10
  have hkr : 0 < ro := by rw [← hro]; exact hk1.2
  simp only [hro, World.size_alloc]
  rw [hW0]
  clear hW0 hB10 hs1 hk1 hB1 hro
  have hf := enters_of Tryd.func108 (by kernel_rfl) rfl
  refine wpIn_rangeFunc_st rfl (by decide) (gf := 108) (lb := #[.pointer (some ⟨ro + 1, 0, none⟩), .pointer (some ⟨ro + 2, 0, none⟩)]) rfl trivial hf
    (levels_stops 8 (by decide) (ro + 1) A c L d (by omega) hall hd W0 hk2 hs2 KA KC) (fun _ => rfl) (fun _ _ _ _ h k => h.trans k) (fun x W l o o' hl h1 h2 h3 => levKp_put W0 (ro + 1) (by omega) x W l o o' hl h1 h2)
    (fun x A y B k o hab hkk hA ho _ => levAb_keeps _ x A y B k o hab hA ho)
    (fun pre y x W l o o' h _ h1 h2 => levAt_put _ _ _ pre y x W l o o' h h1 h2)
    (fun pre _ W => Blk W ro 9 #[.string (bs (rootI L pre.length))] ∧ Below w.heap.size w W) (fun _ _ _ _ => False)
    (fun _ s A B row h hg hr => ?own) (fun _ _ _ _ _ _ h _ _ => h)
    (fun s x A y B h hab => ?step) (fun _ _ _ _ _ _ h _ => h) ⟨KR, hB0⟩
    (fun y => { tmps := #[.slice A L.length c, .int .i64 d, undef, undef, .string { data := #[] }, .int .i64 0, .pointer (some ⟨ro, 0, none⟩), y.1, .string (bs y.2), .slice A L.length c, .int .i64 d, .bool true, .bool false, .slice A L.length c, .int .i64 d,
      .func (.func 108) #[] #[.pointer (some ⟨ro + 1, 0, none⟩), .pointer (some ⟨ro + 2, 0, none⟩)], y.1, .string (bs y.2), undef, undef, undef, undef], defers := [] })
    ?assign ?body ?done ?stop
  case own =>
    obtain ⟨h1, h3⟩ := h
    have hne : ∀ r, row = some r → W0.heap.size ≤ r := fun r e => (hr r e).1
    exact ⟨h1.grown hg (fun e => by have := hne _ e.symm; omega), h3.grown hg h3.size (fun k e => by have := hne k e; omega)⟩
  case step =>
    obtain ⟨h1, h3⟩ := h
    have hne : ∀ r, x.ownBlock = some r → W0.heap.size ≤ r := fun r e => (hab.2.2 r e).1
    exact ⟨h1.grown hab.1 (fun e => by have := hne _ e.symm; omega), h3.grown hab.1 h3.size (fun k e => by have := hne k e; omega)⟩
  case assign =>
    intro l y W K hK
    gi_wp2
    exact hK
  case body =>
    rintro l pre y x W ⟨h1, h3⟩ hat
    have hown := levAt_own hat
    obtain ⟨e1, e2, e3, R⟩ := hat
    obtain ⟨A2, c2, hx, T⟩ := R.txts
    have hle := levP_le L pre.length
    have hn : atP (levP L pre.length) (zeroH pre.length) 0 = rootI L (pre.length + 1) := rfl
    rw [e1, e2, hx]
    clear R e1 e2
    have K1 := Lib.hid h1
    have H3 := Lib.hid h3
    have HN := Lib.hid hn
    clear h1 h3 hn
    generalize levP L pre.length = Lv at *
    generalize zeroH pre.length = z at *
    gi_wp2_with fail
    refine (CallsIn.inRound l (callsIn_wide.2 (by simpa using at_calls A2 c2 Lv z 0 (by omega) (by omega) W T))).mono ?_
    rintro e w2 ⟨rfl, hB2⟩
    rw [HN.out]
    have K2 := Lib.hid (K1.out.below hB2)
    (have k2 := Blk.cell K2.out; have f2 := Blk.free K2.out; have l2 := Blk.lt K2.out; have m2 := Nat.le_of_lt l2)
    have g2 : Below W.heap.size W (w2.setCell ⟨ro, 0, none⟩ (.string (bs (rootI L (pre.length + 1))))) → True := fun _ => trivial
    gi_wp2
    have hrW : ro < W.heap.size := K1.out.lt
    refine ⟨(KeepsOthers.below hB2).trans (KeepsOthers.setCell _ _ _), (levKp_below hB2).trans (levKp_grown (grown_set (World.grownBy.refl _ _)) (by first | (simp; done) | (simp; omega)) (by first | (simp; done) | (simp; omega)) (fun j hj e => ?_) (by first | (simp; done) | (simp; omega))), ?_, ?_⟩
    · cases hj
      have := (hown ro (by rw [hx]; exact e)).1
      omega
    · have := K2.out.set_ 0 (.string (bs (rootI L (pre.length + 1))))
      simpa using this
    · exact (H3.out.trans (hB2.mono H3.out.size)).setCell (by simp; omega) _
  case done =>
    rintro D xs x W hD hxs ⟨h1, h3⟩ hK
    rw [hxs] at h1
    have K1 := Lib.hid h1
    have hKD := Lib.hid hK
    have H3 := Lib.hid h3
    clear h1 h3 hK
    (have k1 := Blk.cell K1.out; have f1 := Blk.free K1.out; have l1 := Blk.lt K1.out; have m1 := Nat.le_of_lt l1)
    gi_wp2
    refine ⟨by simp, .inl ⟨_, _, rfl, run_takeDeferred hKD.out, ?_⟩⟩
    exact ⟨.tuple #[.string (bs (rootP L d)), .int .i64 0], by simp [results, Tryd.results31, go_sem]; rfl, rfl, below_shut H3.out (Nat.le_refl _) (by omega)⟩
  case stop =>
    rintro D c pre x W _ _ h _
    exact h.elim
set_option maxRecDepth 100000 in
theorem root_no (A : Option Addr) (c : Nat) (L : List Bytes) (d : Int) (hR : ¬ RightP L d) (hL : L.length ≤ 9223372036854775807) (hx : ∀ x ∈ L, x.length ≤ 9223372036854775807) (w : World) (hs : Txts w A L) :
    Calls Tryd.prog 31 #[.slice A L.length c, .int .i64 d] w (Ret w (.tuple #[.string { data := #[] }, .int .i64 80])) := by
  replace hR := Lib.hid hR
  go_enter Tryd.func31, Tryd.ntmps31
  go_wp2_with fail
  refine (right_calls A c L d hL hx _ hs).mono ?_
  rintro e w1 ⟨⟨r, rfl, hr⟩, hB1⟩
  obtain rfl : r = false := by
    cases r
    · rfl
    · exact absurd (hr.1 rfl) hR.out
  clear hr hx
  go_wp2_with fail
  go_ret2
  exact ⟨rfl, hB1⟩
theorem root_calls (A : Option Addr) (c : Nat) (L : List Bytes) (d : Int) (hL : L.length ≤ 9223372036854775807) (hx : ∀ x ∈ L, x.length ≤ 9223372036854775807) (w : World) (hk : HasK w) (hs : Txts w A L) :
    Calls Tryd.prog 31 #[.slice A L.length c, .int .i64 d] w (Ret w (rootV L d)) := by
  by_cases hR : RightP L d
  · have e : ((d.toNat : Nat) : Int) = d := Int.toNat_of_nonneg hR.1
    have := root_yes A c L d.toNat (by rw [e]; exact hR) w hk hs
    rw [e] at this
    unfold rootV
    rw [if_pos hR]
    exact this
  · unfold rootV
    rw [if_neg hR]
    exact root_no A c L d hR hL hx w hs
end Go.Proofs.YtpmmjomejackkaaDoor
