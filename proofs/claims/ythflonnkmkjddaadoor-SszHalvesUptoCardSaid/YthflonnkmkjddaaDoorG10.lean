/- What the later texts stand on (SszM, SszR, SszN, SszO): plain laws and walks, each by its own conditions. -/
import Derived.Test.YthflonnkmkjddaaDoorG8
import Derived.Test.YthflonnkmkjddaaDoorG9
import Derived.Test.YthflonnkmkjddaaDoorG7
import Derived.Maps.OwnIn
import Derived.Lib.AppendStr
set_option linter.unusedSimpArgs false
set_option linter.unusedVariables false
section
set_option linter.unusedSimpArgs false
set_option linter.unusedVariables false
namespace Go.Proofs.YthflonnkmkjddaaDoor
open BigFrame Go.RowKit Go.Phx Go.Shelf
attribute [local go_sem] Oper.semAt_some

theorem right_ret (A : Option Addr) (c : Nat) (L : List Bytes) (d : Int) (hL : L.length ≤ 9223372036854775807) (hx : ∀ x ∈ L, x.length ≤ 9223372036854775807) (r : Bool) (hr : decide (RightP L d) = r) (w : World) (hs : Txts w A L) :
    Calls Tryd.prog 12 #[.slice A L.length c, .int .i64 d] w (Ret w (.bool r)) :=
  (right_calls A c L d hL hx w hs).mono fun e w' ⟨⟨r', he, h'⟩, hB⟩ => ⟨by
    rw [he, ← hr]
    congr 2
    rw [Bool.eq_iff_iff, h', decide_eq_true_iff], hB⟩
set_option maxRecDepth 100000 in
/-- .. which leaves the world as it was -/
theorem at_same (A : Option Addr) (c : Nat) (L : List Bytes) (z : Bytes) (i : Nat) (hi : i ≤ 9223372036854775807) (hL : L.length ≤ 9223372036854775807) (w : World) (hs : Txts w A L) :
    Calls Tryd.prog 14 #[.slice A L.length c, .string (bs z), .int .i64 i] w (fun e w' => e = .returned (.string (bs (atP L z i))) ∧ w = w') := by
  go_enter Tryd.func14, Tryd.ntmps14
  by_cases h : i < L.length
  · have e : atP L z i = L.getD i [] := by
      unfold atP
      rw [List.getD, List.getD, List.getElem?_eq_getElem h]
      rfl
    rw [e]
    clear e
    obtain ⟨b, o, rfl, hb, hc⟩ := hs.at i h
    generalize L.getD i [] = x at *
    clear hs
    go_wp2_with fail
    go_ret
    exact ⟨rfl, rfl⟩
  · have e : atP L z i = z := by
      unfold atP
      rw [List.getD, List.getElem?_eq_none (by omega)]
      rfl
    rw [e]
    clear e
    go_wp2_with fail
    go_ret
    exact ⟨rfl, rfl⟩
theorem xor_int (m : Nat) (h : m < 4611686018427387904) : bits .xor .i64 (m : Int) 1 = ((m ^^^ 1 : Nat) : Int) := by
  have e : (BitVec.ofInt 64 (m : Int) ^^^ BitVec.ofInt 64 1).toNat = m ^^^ 1 := by
    rw [BitVec.toNat_xor]
    congr 1
    simp
    omega
  have h2 : m ^^^ 1 ≤ m + 1 := by
    obtain ⟨h1, h2⟩ := xor_one m
    rcases Nat.mod_two_eq_zero_or_one m with h | h
    · rw [h2 h]; omega
    · rw [h1 h]; omega
  show IntKind.i64.wrap ((BitVec.ofInt 64 (m : Int) ^^^ BitVec.ofInt 64 1).toNat : Int) = _
  rw [e]
  exact IntWalk.i64_in _ (by omega)
theorem div_step (i k : Nat) : i / 2 ^ k / 2 = i / 2 ^ (k + 1) := by rw [Nat.div_div_eq_div_mul, Nat.pow_succ]
/-- what the walk of a branch holds behind so many rounds -/
def BrI (L : List Bytes) (d i ro b : Nat) (w : World) (k : Nat) (x : Value) (W : World) : Prop :=
  ∃ v, Blk W ro 22 #[v] ∧ LRow (ro + 3) W v (branchP L i k) ∧ (∀ j, v.ownBlock = some j → x.ownBlock ≠ some j) ∧ Blk W b 3 #[.int .i64 d] ∧ Blk W (b + 1) 3 #[.int .i64 ((i / 2 ^ k : Nat) : Int)] ∧ k ≤ d ∧ Below w.heap.size w W ∧ ro + 3 ≤ W.heap.size
theorem BrI.grown {L : List Bytes} {d i ro b : Nat} {w : World} {k : Nat} {x y : Value} {W W' : World} {r : Option Nat} (h : BrI L d i ro b w k x W) (hg : W.grownBy W' r) (hr : ∀ j, r = some j → w.heap.size ≤ j ∧ j ≠ ro ∧ j ≠ b ∧ j ≠ b + 1)
    (hv : ∀ (v : Value) (L' : List Bytes), LRow (ro + 3) W v L' → (∀ j, v.ownBlock = some j → x.ownBlock ≠ some j) → ∀ j, v.ownBlock = some j → r ≠ some j ∧ y.ownBlock ≠ some j) : BrI L d i ro b w k y W' := by
  obtain ⟨v, h1, h2, h3, h4, h5, h6, h7, h8⟩ := h
  have hn : ∀ g, (g = ro ∨ g = b ∨ g = b + 1) → some g ≠ r := fun g hg e => by
    obtain ⟨_, a1, a2, a3⟩ := hr g e.symm
    rcases hg with h | h | h
    · exact a1 h
    · exact a2 h
    · exact a3 h
  exact ⟨v, h1.grown hg (hn _ (.inl rfl)), h2.keep hg fun j hj => (hv v _ h2 h3 j hj).1, fun j hj => (hv v _ h2 h3 j hj).2, h4.grown hg (hn _ (.inr (.inl rfl))), h5.grown hg (hn _ (.inr (.inr rfl))), h6, h7.grown hg h7.size fun j e => (hr j e).1, Nat.le_trans h8 hg.size⟩
theorem BrI.own {L : List Bytes} {d i ro b : Nat} {w W0 : World} {k : Nat} {x : Value} {A B : World} {r : Option Nat} (h : BrI L d i ro b w k x A) (hg : A.grownBy B r) (hr : ∀ j, r = some j → W0.heap.size ≤ j ∧ ∃ o : Obj, A.heap[j]? = some o ∧ o.isCells = false) (h0 : w.heap.size ≤ W0.heap.size) (h1 : ro < W0.heap.size) (h2 : b + 1 < W0.heap.size) : BrI L d i ro b w k x B := by
  refine h.grown hg (fun j hj => by have := (hr j hj).1; omega) fun v L' hL hx j hj => ⟨fun e => ?_, hx j hj⟩
  obtain ⟨_, o, ho, hc⟩ := hr j e
  obtain ⟨_, cs, t, fz, hcs⟩ := LRow.cells hL j hj
  rw [hcs] at ho
  injection ho with ho
  subst ho
  cases hc
theorem BrI.step {L : List Bytes} {d i ro b : Nat} {w W0 : World} {k : Nat} {x y : Value} {A B : World} (h : BrI L d i ro b w k x A) (hab : LevAb W0.heap.size x A y B) (h0 : w.heap.size ≤ W0.heap.size) (h1 : ro < W0.heap.size) (h2 : b + 1 < W0.heap.size) : BrI L d i ro b w k y B := by
  refine h.grown hab.1 (fun j hj => by have := (hab.2.2 j hj).1; omega) fun v L' hL hx j hj => ⟨fun e => hx j hj e, fun e => ?_⟩
  rcases hab.2.1 with e1 | e1
  · rw [e1] at e; exact hx j hj e
  · have := e1 j e
    have := (hL.lt j hj).2
    omega
set_option maxRecDepth 100000 in
set_option maxHeartbeats 8000000 in
theorem branch_yes (A : Option Addr) (c : Nat) (L : List Bytes) (d i : Nat) (hR : RightP L d) (hi : i < 2 ^ d) (w : World) (hk : HasK w) (hs : Txts w A L) :
    Calls Tryd.prog 10 #[.slice A L.length c, .int .i64 d, .int .i64 i] w (fun e w' => ∃ v, e = .returned (.tuple #[v, .int .i64 0]) ∧ LRow w.heap.size w' v (branchP L i d) ∧ Below w.heap.size w w') := by
  have hL : L.length ≤ 256 := hR.2.2.1
  have hd : d ≤ 10 := by have := hR.2.1; omega
  have hall := hR.2.2.2.2
  have hx : ∀ x ∈ L, x.length ≤ 9223372036854775807 := fun x h => by have := hall x h; omega
  have hp10 : 2 ^ d ≤ 1024 := Nat.le_trans (Nat.pow_le_pow_right (by omega) hd) (by decide)
  refine (callsIn_wide (n := 9)).1 ?_
  have hwf : ∀ f, Fence.wide.fn f := fun _ => trivial
  replace hR := Lib.hid hR
  refine callsIn_of_wp_marks Tryd.func10 rfl trivial ?_ rfl
  simp only [Tryd.ntmps10, List.size_toArray, List.length_cons, List.length_nil, Nat.reduceAdd, Nat.reduceSub, Array.replicate_succ, Array.replicate_zero, List.push_toArray, List.append_toArray, List.nil_append, List.cons_append]
  gi_wp2
  refine wpIn_scope ?_
  gi_wp2_with fail
  have hB1 : Below w.heap.size w ((w.alloc (.cells #[.int .i64 d] 3)).alloc (.cells #[.int .i64 i] 3)) := (by repeat (first | assumption | exact Below.refl _ _ | refine Below.setCell ?_ (by first | exact Nat.le_refl _ | (simp; done) | omega | (simp; omega)) _ | refine Below.alloc ?_ (by first | exact Nat.le_refl _ | (simp; done) | omega | (simp; omega)) _ | refine below_drewN ?_ _ | refine Below.drew ?_ | refine Below.on (by assumption) ?_ | refine Below.via (by assumption) (by first | exact Nat.le_refl _ | (simp; done) | omega | (simp; omega)) ?_))
  have K0 := (Blk.new0 w 3 #[.int .i64 d]).alloc (.cells #[.int .i64 i] 3)
  have K1 := Blk.new1 w (.cells #[.int .i64 d] 3) 3 #[.int .i64 i]
  obtain ⟨W1, hW1⟩ : ∃ W1, (w.alloc (.cells #[.int .i64 d] 3)).alloc (.cells #[.int .i64 i] 3) = W1 := ⟨_, rfl⟩
  rw [hW1] at hB1 K0 K1 ⊢
  have hs1 := Txts.below hs hB1
  have hk1 := hk.on hB1
  clear hs hk hW1
  replace K0 := Lib.hid K0
  replace K1 := Lib.hid K1
  replace hs1 := Lib.hid hs1
  (have k0 := Blk.cell K0.out; have f0 := Blk.free K0.out; have l0 := Blk.lt K0.out; have m0 := Nat.le_of_lt l0; have k1 := Blk.cell K1.out; have f1 := Blk.free K1.out; have l1 := Blk.lt K1.out; have m1 := Nat.le_of_lt l1)
  have hi0 : decide ((i : Int) < 0) = false := by simp
  have hw2 : wrap64 ((2 : Int) ^ d) = ((2 ^ d : Nat) : Int) := by
    have : ((2 : Int) ^ d) = ((2 ^ d : Nat) : Int) := by simp
    rw [this]
    generalize 2 ^ d = N at *
    exact IntWalk.wrap64_in (N : Int) (by omega)
  have hi1 : decide (2 ^ d ≤ i) = false := by simp only [decide_eq_false_iff_not]; omega
  have hi2 : i < 1024 := by omega
  obtain ⟨N, hN⟩ : ∃ N, 2 ^ d = N := ⟨_, rfl⟩
  rw [hN] at hw2 hi1
  replace hN := Lib.hid hN
  clear hi hp10
  refine wpIn_wide.2 ?_
  (refine wp_region_later (by kernel_rfl) (by kernel_rfl) ?_; (repeat (go_big_quiet_step ((go_at_call 12; exact lq (right_ret A c L d (by omega) hx true (by simpa using hR.out) _ (Txts.below hs1.out (Later.below _))))))); refine wpQuiet_nil ?_; intro w' hB)
  have K2 := Lib.hid (K0.out.below hB)
  have K3 := Lib.hid (K1.out.below hB)
  have hk2 := hk1.on hB
  have hs2 := Lib.hid (Txts.below hs1.out hB)
  have hB2 := Below.on hB hB1
  clear k0 f0 l0 m0 k1 f1 l1 m1 K0 K1 hs1 hk1 hB hB1
  (have k2 := Blk.cell K2.out; have f2 := Blk.free K2.out; have l2 := Blk.lt K2.out; have m2 := Nat.le_of_lt l2; have k3 := Blk.cell K3.out; have f3 := Blk.free K3.out; have l3 := Blk.lt K3.out; have m3 := Nat.le_of_lt l3)
  gi_wp2_with fail
  refine wpIn_label ?_
  gi_wp2_with (gi_at_call 13; refine (levels_in _ _ _ _ _ _).mono ?_; rintro e w' ⟨rfl, rfl⟩)
  obtain ⟨ro, hro⟩ : ∃ ro, w'.heap.size = ro := ⟨_, rfl⟩
  obtain ⟨b, hb⟩ : ∃ b, w.heap.size = b := ⟨_, rfl⟩
  obtain ⟨W0, hW0⟩ : ∃ W0, ((w'.alloc (.cells #[.slice none 0 0] 22)).alloc (.cells #[.slice A L.length c] 22)).alloc (.cells #[.int .i64 d] 3) = W0 := ⟨_, rfl⟩
  have hwr : b + 1 < ro := by rw [← hro, ← hb]; exact l3
  have hs0 : W0.heap.size = ro + 3 := by rw [← hW0]; simp [hro]
  have KR : Blk W0 ro 22 #[.slice none 0 0] := by rw [← hW0, ← hro]; exact ((Blk.new0 _ _ _).alloc _).alloc _
  have KA : Blk W0 (ro + 1) 22 #[.slice A L.length c] := by rw [← hW0, ← hro]; exact (Blk.new1 _ _ _ _).alloc _
  have KC : Blk W0 (ro + 2) 3 #[.int .i64 d] := by rw [← hW0, ← hro]; exact Blk.new2 _ _ _ _ _
  have hB10 : Below w'.heap.size w' W0 := by rw [← hW0]; exact (by repeat (first | assumption | exact Below.refl _ _ | refine Below.setCell ?_ (by first | exact Nat.le_refl _ | (simp; done) | omega | (simp; omega)) _ | refine Below.alloc ?_ (by first | exact Nat.le_refl _ | (simp; done) | omega | (simp; omega)) _ | refine below_drewN ?_ _ | refine Below.drew ?_ | refine Below.on (by assumption) ?_ | refine Below.via (by assumption) (by first | exact Nat.le_refl _ | (simp; done) | omega | (simp; omega)) ?_))
  have hB0 : Below w.heap.size w W0 := Below.on hB10 hB2
  have hs3 := Txts.below hs2.out hB10
  have hk3 := hk2.on hB10
  have KD : Blk W0 b 3 #[.int .i64 d] := by rw [← hb]; exact K2.out.below hB10
  have KI : Blk W0 (b + 1) 3 #[.int .i64 i] := by rw [← hb]; exact K3.out.below hB10
  have hkr : 0 < ro := by rw [← hro]; exact hk2.2
  simp only [hro, hb, World.size_alloc]
  rw [hW0]
  clear k2 f2 l2 m2 k3 f3 l3 m3 K2 K3 hk2 hs2 hB2 hW0 hB10 hro
  have hbw : w.heap.size = b := hb
  have hf := enters_of Tryd.func22 (by kernel_rfl) rfl
  have hnn : ∀ j, (Value.slice none 0 0).ownBlock = some j → (Value.slice none 0 0).ownBlock ≠ some j := fun j hj => by cases hj
  have hi00 : Blk W0 (b + 1) 3 #[.int .i64 ((i / 2 ^ 0 : Nat) : Int)] := by rw [Nat.pow_zero, Nat.div_one]; exact KI
  have hrow0 : LRow (ro + 3) W0 (.slice none 0 0) (branchP L i 0) := World.ownsRow_nil _ _ _ _
  have hI0 : BrI L d i ro b w 0 (.slice none 0 0) W0 := ⟨_, KR, hrow0, hnn, KD, hi00, Nat.zero_le _, hB0, by omega⟩
  clear hnn hi00 hrow0
  refine wpIn_rangeFunc_st rfl (by decide) (gf := 22) (lb := #[.pointer (some ⟨ro + 1, 0, none⟩), .pointer (some ⟨ro + 2, 0, none⟩)]) rfl trivial hf
    (levels_stops 8 (by decide) (ro + 1) A c L d (by omega) hall hd W0 hk3 hs3 KA KC) (fun _ => rfl) (fun _ _ _ _ h k => h.trans k) (fun x W l o o' hl h1 h2 h3 => levKp_put W0 (ro + 1) (by omega) x W l o o' hl h1 h2)
    (fun x A y B k o hab hkk hA ho _ => levAb_keeps _ x A y B k o hab hA ho)
    (fun pre y x W l o o' h _ h1 h2 => levAt_put _ _ _ pre y x W l o o' h h1 h2)
    (fun pre x W => BrI L d i ro b w pre.length x W) (fun c _ x W => c = .exit 0 ∧ BrI L d i ro b w d x W)
    (fun _ s A B row h hg hr => BrI.own h hg hr (by omega) (by omega) (by omega)) (fun _ _ s A B row h hg hr => ⟨h.1, BrI.own h.2 hg hr (by omega) (by omega) (by omega)⟩)
    (fun s x A y B h hab => BrI.step h hab (by omega) (by omega) (by omega)) (fun _ s x A y B h hab => ⟨h.1, BrI.step h.2 hab (by omega) (by omega) (by omega)⟩) hI0
    (fun y => { tmps := #[.slice A L.length c, .int .i64 d, .int .i64 i, undef, .pointer (some ⟨b, 0, none⟩), .pointer (some ⟨b + 1, 0, none⟩), .slice none 0 0, .int .i64 0, .pointer (some ⟨ro, 0, none⟩), y.1, .string (bs y.2),
      .slice A L.length c, .int .i64 d, .bool true, .bool false, .bool false, .int .i64 i, .bool false, .bool false, .bool false, .int .i64 i, .int .i64 d, .int .i64 N, .bool false, .bool false, .slice A L.length c, .int .i64 d,
      .func (.func 22) #[] #[.pointer (some ⟨ro + 1, 0, none⟩), .pointer (some ⟨ro + 2, 0, none⟩)], y.1, .string (bs y.2), undef, undef, undef, undef, undef, undef, undef, undef, undef, undef, undef, undef, undef, undef, undef], defers := [] })
    ?assign ?body ?done ?stop
  case assign =>
    intro l y W K hK
    gi_wp2
    exact hK
  case done =>
    rintro D xs x W hD hxs ⟨v, h1, h2, h3, h4, h5, h6, h7, h8⟩ hK
    omega
  case stop =>
    rintro D c pre x W hD _ ⟨rfl, v, h1, h2, h3, h4, h5, h6, h7⟩ hK
    have K1 := Lib.hid h1
    have hKD := Lib.hid hK
    have H7 := Lib.hid h7.1
    have H2 := Lib.hid h2
    clear h1 h7 h2 h4 h5 hK
    (have k1 := Blk.cell K1.out; have f1 := Blk.free K1.out; have l1 := Blk.lt K1.out; have m1 := Nat.le_of_lt l1)
    gi_wp2
    rw [Exit.noGoto_ret]
    refine ⟨by simp, .inl ⟨_, _, rfl, run_takeDeferred hKD.out, ?_⟩⟩
    refine ⟨.tuple #[v, .int .i64 0], by simp [results, Tryd.results10, go_sem], v, rfl, ?_, below_shut H7.out (Nat.le_refl _) (by omega)⟩
    refine (H2.out.mono (by omega)).keep (grownBy_putObj' W D _) fun j hj e => ?_
    injection e with e
    subst e
    obtain ⟨_, cs, t, fz, hcs⟩ := LRow.cells H2.out D hj
    rw [hKD.out] at hcs
    cases hcs
  case body =>
    rintro l pre y x W ⟨v, h1, h2, h3, h4, h5, h6, h7, h8⟩ hat
    have hown := levAt_own hat
    obtain ⟨e1, e2, e3, R⟩ := hat
    obtain ⟨A2, c2, hx2, T⟩ := R.txts
    have hle := levP_le L pre.length
    obtain ⟨A3, c3, hv3, T3⟩ := h2.txts
    rw [branchP_len] at hv3
    have hbs := Lib.hid (branchP_succ L i pre.length)
    have hpl : (pre ++ [y]).length = pre.length + 1 := by simp
    rw [e1.trans hx2, e2]
    clear e1 e2
    generalize pre.length = k at *
    by_cases hkd : k = d
    · subst hkd
      have K1 := Lib.hid h1
      have K4 := Lib.hid h4
      have H := Lib.hid (show BrI L k i ro b w k x W from ⟨v, h1, h2, h3, h4, h5, h6, h7, h8⟩)
      subst hv3
      clear h1 h2 h3 h4 h5 h6 h7 R T T3 hown hbs hpl
      (have k1 := Blk.cell K1.out; have f1 := Blk.free K1.out; have l1 := Blk.lt K1.out; have m1 := Nat.le_of_lt l1; have k4 := Blk.cell K4.out; have f4 := Blk.free K4.out; have l4 := Blk.lt K4.out; have m4 := Nat.le_of_lt l4)
      gi_wp2_with fail
      exact ⟨KeepsOthers.refl _, rfl, H.out⟩
    · have hkd2 : ((k : Int) == (d : Int)) = false := by simp; omega
      have hkd3 : ¬ (k : Int) = (d : Int) := by omega
      have K1 := Lib.hid h1
      have K4 := Lib.hid h4
      have K5 := Lib.hid h5
      have H2 := Lib.hid h2
      have H3 := Lib.hid h3
      have H7 := Lib.hid h7
      have HT := Lib.hid T
      subst hv3
      clear h1 h2 h3 h4 h5 h6 h7 R T T3
      (have k1 := Blk.cell K1.out; have f1 := Blk.free K1.out; have l1 := Blk.lt K1.out; have m1 := Nat.le_of_lt l1; have k4 := Blk.cell K4.out; have f4 := Blk.free K4.out; have l4 := Blk.lt K4.out; have m4 := Nat.le_of_lt l4; have k5 := Blk.cell K5.out; have f5 := Blk.free K5.out; have l5 := Blk.lt K5.out; have m5 := Nat.le_of_lt l5)
      gi_wp2_with fail
      have hm : i / 2 ^ k < 1024 := Nat.lt_of_le_of_lt (Nat.div_le_self _ _) hi2
      have hstep := Lib.hid (div_step i k)
      generalize i / 2 ^ k = m at *
      have hxor := xor_int m (by omega)
      have hx1 : m ^^^ 1 ≤ 1025 := by rcases Nat.mod_two_eq_zero_or_one m with h | h <;> first | (rw [(xor_one m).1 h]; omega) | (rw [(xor_one m).2 h]; omega)
      have hnode := Lib.hid (show nodeP L k (m ^^^ 1) = atP (levP L k) (zeroH k) (m ^^^ 1) from rfl)
      generalize m ^^^ 1 = m2 at *
      generalize levP L k = Lv at *
      generalize zeroH k = z at *
      obtain ⟨u, hu⟩ : ∃ u, atP Lv z m2 = u := ⟨_, rfl⟩
      rw [hu] at hnode
      have H2k : W.ownsRow (ro + 3) 9 1 (.slice A3 k c3) k ((branchP L i k).map tv) := by
        have := H2.out
        unfold LRow at this
        rw [branchP_len] at this
        exact this
      replace H2k := Lib.hid H2k
      refine wpIn_round_held (fun w' => w'.cell? ⟨ro, 0, none⟩ = some (.slice A3 k c3) ∧ w'.cell? ⟨b + 1, 0, none⟩ = some (.int .i64 m)) (fun j => decide (j < 8)) (by kernel_rfl) ?_
      have hS0 : W.drew.cell? ⟨ro, 0, none⟩ = some (.slice A3 k c3) ∧ W.drew.cell? ⟨b + 1, 0, none⟩ = some (.int .i64 m) := ⟨k1 0, k5 0⟩
      refine S_take (fun _ => trivial) 0 (.slice A3 k c3) (by kernel_rfl) rfl (by kernel_rfl) (by kernel_rfl) (by kernel_rfl) (by kernel_rfl) (onlyN_panic _ _) hS0 (by rfl) (fun w' h => by obtain ⟨h1, h2⟩ := h; go_simp) ?_
      refine S_take (fun _ => trivial) 1 (.slice A2 Lv.length c2) (by kernel_rfl) rfl (by kernel_rfl) (by kernel_rfl) (by kernel_rfl) (by kernel_rfl) (onlyN_panic _ _) hS0 (by rfl) (fun w' h => by go_simp) ?_
      refine S_take (fun _ => trivial) 2 (.string (bs z)) (by kernel_rfl) rfl (by kernel_rfl) (by kernel_rfl) (by kernel_rfl) (by kernel_rfl) (onlyN_panic _ _) hS0 (by rfl) (fun w' h => by go_simp) ?_
      refine S_take (fun _ => trivial) 3 (.int .i64 m) (by kernel_rfl) rfl (by kernel_rfl) (by kernel_rfl) (by kernel_rfl) (by kernel_rfl) (onlyN_panic _ _) hS0 (by rfl) (fun w' h => by obtain ⟨h1, h2⟩ := h; go_simp) ?_
      refine S_take (fun _ => trivial) 4 (.int .i64 m2) (by kernel_rfl) rfl (by kernel_rfl) (by kernel_rfl) (by kernel_rfl) (by kernel_rfl) (onlyN_panic _ _) hS0 (by rfl) (fun w' h => by go_simp) ?_
      refine S_one 5 (by kernel_rfl) rfl (fun K hK => ?_)
      go_simp
      gi_wp2_with (gi_at_call 14; refine (CallsIn.inRound l (callsIn_wide.2 (at_same A2 c2 Lv z m2 (by omega) (by omega) _ (Txts.below HT.out (by repeat (first | assumption | exact Below.refl _ _ | refine Below.setCell ?_ (by first | exact Nat.le_refl _ | (simp; done) | omega | (simp; omega)) _ | refine Below.alloc ?_ (by first | exact Nat.le_refl _ | (simp; done) | omega | (simp; omega)) _ | refine below_drewN ?_ _ | refine Below.drew ?_ | refine Below.on (by assumption) ?_ | refine Below.via (by assumption) (by first | exact Nat.le_refl _ | (simp; done) | omega | (simp; omega)) ?_)))))).mono ?_; rintro e w2 ⟨rfl, rfl⟩; rw [hu])
      refine ⟨fun _ => hS0, ?_⟩
      refine S_one 6 (by kernel_rfl) rfl (fun K hK => ?_)
      go_simp
      refine hK _ _ ⟨fun _ => ⟨?_, ?_⟩, ?_⟩
      · go_simp
      · go_simp
      clear hK K
      refine S_oneL 7 (by kernel_rfl) rfl ?_
      obtain ⟨i0, hi, hz0, hz1, hz2⟩ := info_parts infoStr
      refine wpListIn_append_own_at _ rfl _ _ 22 rfl (ro + 3) 9 i0 (.string ByteArray.empty) 1 16 Tryd.underlying22 hi hz0 hz1 hz2 rfl (by decide) (.slice A3 k c3) k ((branchP L i k).map tv) (by rfl) (World.ownsRow.drew (World.ownsRow.alloc H2k.out _)) ⟨W.heap.size, 0, none⟩ 1 1 [.string (bs u)] rfl rfl (news1 _ _ _) (by simp [Value.oneCell']) (by unfold maxLen; omega) (by omega) (by simp; omega) ?_
      intro v' W' hown' hgrow _ hat
      have hlt2 : ∀ j, (Value.slice A3 k c3).ownBlock = some j → ro + 3 ≤ j ∧ j < W.heap.size := fun j hj => H2.out.lt j hj
      have hg : W.grownBy W' (Value.slice A3 k c3).ownBlock := ⟨hgrow.os, hgrow.tape, hgrow.output, Nat.le_trans (by simp) hgrow.size, fun j hj hr => (hgrow.block j (by simp; omega) hr).trans (Below.heap_alloc _ _ j hj)⟩
      have hno : ∀ j, j < ro + 3 → some j ≠ (Value.slice A3 k c3).ownBlock := fun j hj e => by have := (hlt2 j e.symm).1; omega
      have P1 := Lib.hid (K1.out.grown hg (hno _ (by omega)))
      have P4 := Lib.hid (K4.out.grown hg (hno _ (by omega)))
      have P5 := Lib.hid (K5.out.grown hg (hno _ (by omega)))
      have HR' : LRow (ro + 3) W' v' (branchP L i (k + 1)) := by
        rw [hbs.out, hnode.out]
        unfold LRow
        rw [List.length_append, List.map_append, branchP_len]
        exact hown'
      obtain ⟨A4, c4, hv4, _⟩ := HR'.txts
      rw [branchP_len] at hv4
      subst hv4
      have hx' : ∀ j, (Value.slice A4 (k + 1) c4).ownBlock = some j → x.ownBlock ≠ some j := fun j hj e => by
        rcases hat with h | h
        · exact H3.out j (h.symm.trans hj) e
        · rw [h] at hj
          injection hj with hj
          have := (hown j e).2
          have := size_alloc W (.cells #[.string (bs u)] 9)
          simp at hj
          omega
      have hKO : KeepsOthers W W' := KeepsOthers.of_grownBy hg fun j o e ho => by
        obtain ⟨_, cs, t, fz, hcs⟩ := LRow.cells H2.out j e
        rw [hcs] at ho
        injection ho with ho
        subst ho
        rfl
      have hKp : LevKp (ro + 1) x W W' := levKp_grown hg (fun e => hno _ (by omega) e.symm) (fun e => hno _ (by omega) e.symm) (fun j e => H3.out j e) (fun e => hno _ (by omega) e.symm)
      have HB' : Below w.heap.size w W' := H7.out.grown hg H7.out.size fun j e => by have := (hlt2 j e).1; omega
      have hz' : ro + 3 ≤ W'.heap.size := Nat.le_trans h8 hg.size
      replace HR' := Lib.hid HR'
      replace hx' := Lib.hid hx'
      replace hKO := Lib.hid hKO
      replace hKp := Lib.hid hKp
      replace HB' := Lib.hid HB'
      clear hgrow hg hown' hat hi hz0 hz1 hz2 hlt2 hno k1 f1 l1 m1 k4 f4 l4 m4 k5 f5 l5 m5 K1 K4 K5 H2 H3 H7 HT hS0 H2k hbs hnode
      have k1 := Blk.cell P1.out
      have f1 := Blk.free P1.out
      have l1 := Blk.lt P1.out
      have k5 := Blk.cell P5.out
      have f5 := Blk.free P5.out
      have l5 := Blk.lt P5.out
      refine ⟨fun _ => ⟨k1 0, k5 0⟩, ?_⟩
      refine S_end 8 (ls := [_]) rfl (fun j hj => by simp; omega) (by kernel_rfl) ?_
      gi_wp2_with fail
      refine ⟨rfl, ?_⟩
      gi_wp2_with fail
      have K1 := P1
      have K4 := P4
      have K5 := P5
      have hlt3 : ∀ j, (Value.slice A4 (k + 1) c4).ownBlock = some j → ro + 3 ≤ j := fun j hj => (HR'.out.lt j hj).1
      have hxo : ∀ j, x.ownBlock = some j → ro + 3 ≤ j := fun j hj => by have := (hown j hj).1; omega
      refine ⟨(hKO.out.trans (KeepsOthers.setCell _ _ _)).trans (KeepsOthers.setCell _ _ _), (hKp.out.trans (levKp_grown (grown_set (World.grownBy.refl _ _)) (by first | (simp; done) | (simp; omega)) (by first | (simp; done) | (simp; omega)) (fun j hj e => by have := hxo j e; injection hj with hj; omega) (by first | (simp; done) | (simp; omega)))).trans (levKp_grown (grown_set (World.grownBy.refl _ _)) (by first | (simp; done) | (simp; omega)) (by first | (simp; done) | (simp; omega)) (fun j hj e => by have := hxo j e; injection hj with hj; omega) (by first | (simp; done) | (simp; omega))), ?_⟩
      show BrI L d i ro b w (pre ++ [y]).length x _
      rw [hpl]
      refine ⟨.slice A4 (k + 1) c4, (by apply Blk.to; (repeat (first | with_reducible exact K1.out | with_reducible exact Blk.new0 _ _ _ | with_reducible exact Blk.new1 _ _ _ _ | with_reducible exact Blk.new2 _ _ _ _ _ | with_reducible exact Blk.new3 _ _ _ _ _ _ | with_reducible exact Blk.new4 _ _ _ _ _ _ _ | with_reducible exact Blk.newS1 _ _ _ _ _ | with_reducible exact Blk.newS2 _ _ _ _ _ _ _ | with_reducible exact Blk.newS3 _ _ _ _ _ _ _ _ _ | with_reducible apply Blk.set_ | with_reducible apply Blk.alloc | with_reducible apply Blk.drewN | with_reducible apply Blk.drew | (with_reducible apply Blk.over2; first | assumption | omega))); rfl), ?_, hx'.out, (by apply Blk.to; (repeat (first | with_reducible exact K4.out | with_reducible exact Blk.new0 _ _ _ | with_reducible exact Blk.new1 _ _ _ _ | with_reducible exact Blk.new2 _ _ _ _ _ | with_reducible exact Blk.new3 _ _ _ _ _ _ | with_reducible exact Blk.new4 _ _ _ _ _ _ _ | with_reducible exact Blk.newS1 _ _ _ _ _ | with_reducible exact Blk.newS2 _ _ _ _ _ _ _ | with_reducible exact Blk.newS3 _ _ _ _ _ _ _ _ _ | with_reducible apply Blk.set_ | with_reducible apply Blk.alloc | with_reducible apply Blk.drewN | with_reducible apply Blk.drew | (with_reducible apply Blk.over2; first | assumption | omega))); rfl), ?_, by omega, (HB'.out.setCell (by simp; omega) _).setCell (by simp; omega) _, by simp; omega⟩
      · exact (HR'.out.keep (grown_set (World.grownBy.refl _ _)) (fun j hj e => by have := hlt3 j hj; injection e with e; omega)).keep (grown_set (World.grownBy.refl _ _)) (fun j hj e => by have := hlt3 j hj; injection e with e; omega)
      · have e5 : ((i / 2 ^ (k + 1) : Nat) : Int) = (m : Int) / 2 := by rw [← hstep.out]; omega
        rw [e5]
        exact (by apply Blk.to; (repeat (first | with_reducible exact K5.out | with_reducible exact Blk.new0 _ _ _ | with_reducible exact Blk.new1 _ _ _ _ | with_reducible exact Blk.new2 _ _ _ _ _ | with_reducible exact Blk.new3 _ _ _ _ _ _ | with_reducible exact Blk.new4 _ _ _ _ _ _ _ | with_reducible exact Blk.newS1 _ _ _ _ _ | with_reducible exact Blk.newS2 _ _ _ _ _ _ _ | with_reducible exact Blk.newS3 _ _ _ _ _ _ _ _ _ | with_reducible apply Blk.set_ | with_reducible apply Blk.alloc | with_reducible apply Blk.drewN | with_reducible apply Blk.drew | (with_reducible apply Blk.over2; first | assumption | omega))); rfl)
set_option maxRecDepth 100000 in
set_option maxHeartbeats 8000000 in
theorem branch_no1 (A : Option Addr) (c : Nat) (L : List Bytes) (d i : Int) (hR : ¬ RightP L d) (hL : L.length ≤ 9223372036854775807) (hx : ∀ x ∈ L, x.length ≤ 9223372036854775807) (w : World) (hs : Txts w A L) :
    Calls Tryd.prog 10 #[.slice A L.length c, .int .i64 d, .int .i64 i] w (Ret w (.tuple #[.slice none 0 0, .int .i64 80])) := by
  replace hR := Lib.hid hR
  go_enter Tryd.func10, Tryd.ntmps10
  go_wp2
  refine wp_scope_straight ?_
  go_wp2_with fail
  have hB1 : Below w.heap.size w ((w.alloc (.cells #[.int .i64 d] 3)).alloc (.cells #[.int .i64 i] 3)) := (by repeat (first | assumption | exact Below.refl _ _ | refine Below.setCell ?_ (by first | exact Nat.le_refl _ | (simp; done) | omega | (simp; omega)) _ | refine Below.alloc ?_ (by first | exact Nat.le_refl _ | (simp; done) | omega | (simp; omega)) _ | refine below_drewN ?_ _ | refine Below.drew ?_ | refine Below.on (by assumption) ?_ | refine Below.via (by assumption) (by first | exact Nat.le_refl _ | (simp; done) | omega | (simp; omega)) ?_))
  have K0 := (Blk.new0 w 3 #[.int .i64 d]).alloc (.cells #[.int .i64 i] 3)
  have K1 := Blk.new1 w (.cells #[.int .i64 d] 3) 3 #[.int .i64 i]
  obtain ⟨W1, hW1⟩ : ∃ W1, (w.alloc (.cells #[.int .i64 d] 3)).alloc (.cells #[.int .i64 i] 3) = W1 := ⟨_, rfl⟩
  rw [hW1] at hB1 K0 K1 ⊢
  have hs1 := Txts.below hs hB1
  clear hs hW1
  replace K0 := Lib.hid K0
  replace K1 := Lib.hid K1
  replace hs1 := Lib.hid hs1
  (have k0 := Blk.cell K0.out; have f0 := Blk.free K0.out; have l0 := Blk.lt K0.out; have m0 := Nat.le_of_lt l0; have k1 := Blk.cell K1.out; have f1 := Blk.free K1.out; have l1 := Blk.lt K1.out; have m1 := Nat.le_of_lt l1)
  (refine wp_region_later (by kernel_rfl) (by kernel_rfl) ?_; (repeat (go_big_quiet_step ((go_at_call 12; exact lq (right_ret A c L d hL hx false (by simpa using hR.out) _ (Txts.below hs1.out (Later.below _))))))); refine wpQuiet_nil ?_; intro w' hB)
  have hB2 := Below.on hB hB1
  clear k0 f0 l0 m0 k1 f1 l1 m1 K0 K1 hs1 hB hB1
  go_wp2_with fail
  rw [Exit.noGoto_ret]
  go_ret2
  exact ⟨rfl, hB2⟩
set_option maxRecDepth 100000 in
set_option maxHeartbeats 8000000 in
theorem branch_no2 (A : Option Addr) (c : Nat) (L : List Bytes) (d i : Int) (hR : RightP L d) (hi : i < 0) (hL : L.length ≤ 9223372036854775807) (hx : ∀ x ∈ L, x.length ≤ 9223372036854775807) (w : World) (hs : Txts w A L) :
    Calls Tryd.prog 10 #[.slice A L.length c, .int .i64 d, .int .i64 i] w (Ret w (.tuple #[.slice none 0 0, .int .i64 80])) := by
  have hi0 : decide (i < 0) = true := by simpa using hi
  replace hR := Lib.hid hR
  go_enter Tryd.func10, Tryd.ntmps10
  go_wp2
  refine wp_scope_straight ?_
  go_wp2_with fail
  have hB1 : Below w.heap.size w ((w.alloc (.cells #[.int .i64 d] 3)).alloc (.cells #[.int .i64 i] 3)) := (by repeat (first | assumption | exact Below.refl _ _ | refine Below.setCell ?_ (by first | exact Nat.le_refl _ | (simp; done) | omega | (simp; omega)) _ | refine Below.alloc ?_ (by first | exact Nat.le_refl _ | (simp; done) | omega | (simp; omega)) _ | refine below_drewN ?_ _ | refine Below.drew ?_ | refine Below.on (by assumption) ?_ | refine Below.via (by assumption) (by first | exact Nat.le_refl _ | (simp; done) | omega | (simp; omega)) ?_))
  have K0 := (Blk.new0 w 3 #[.int .i64 d]).alloc (.cells #[.int .i64 i] 3)
  have K1 := Blk.new1 w (.cells #[.int .i64 d] 3) 3 #[.int .i64 i]
  obtain ⟨W1, hW1⟩ : ∃ W1, (w.alloc (.cells #[.int .i64 d] 3)).alloc (.cells #[.int .i64 i] 3) = W1 := ⟨_, rfl⟩
  rw [hW1] at hB1 K0 K1 ⊢
  have hs1 := Txts.below hs hB1
  clear hs hW1
  replace K0 := Lib.hid K0
  replace K1 := Lib.hid K1
  replace hs1 := Lib.hid hs1
  (have k0 := Blk.cell K0.out; have f0 := Blk.free K0.out; have l0 := Blk.lt K0.out; have m0 := Nat.le_of_lt l0; have k1 := Blk.cell K1.out; have f1 := Blk.free K1.out; have l1 := Blk.lt K1.out; have m1 := Nat.le_of_lt l1)
  (refine wp_region_later (by kernel_rfl) (by kernel_rfl) ?_; (repeat (go_big_quiet_step ((go_at_call 12; exact lq (right_ret A c L d hL hx true (by simpa using hR.out) _ (Txts.below hs1.out (Later.below _))))))); refine wpQuiet_nil ?_; intro w' hB)
  have hB2 := Below.on hB hB1
  clear k0 f0 l0 m0 k1 f1 l1 m1 K0 K1 hs1 hB hB1
  go_wp2_with fail
  rw [Exit.noGoto_ret]
  go_ret2
  exact ⟨rfl, hB2⟩
set_option maxRecDepth 100000 in
set_option maxHeartbeats 8000000 in
theorem branch_no3 (A : Option Addr) (c : Nat) (L : List Bytes) (d i : Nat) (hR : RightP L d) (hi : 2 ^ d ≤ i) (hL : L.length ≤ 9223372036854775807) (hx : ∀ x ∈ L, x.length ≤ 9223372036854775807) (w : World) (hs : Txts w A L) :
    Calls Tryd.prog 10 #[.slice A L.length c, .int .i64 d, .int .i64 i] w (Ret w (.tuple #[.slice none 0 0, .int .i64 80])) := by
  have hd : d ≤ 10 := by have := hR.2.1; omega
  have hp10 : 2 ^ d ≤ 1024 := Nat.le_trans (Nat.pow_le_pow_right (by omega) hd) (by decide)
  have hi0 : decide ((i : Int) < 0) = false := by simp
  have hw2 : wrap64 ((2 : Int) ^ d) = ((2 ^ d : Nat) : Int) := by
    have : ((2 : Int) ^ d) = ((2 ^ d : Nat) : Int) := by simp
    rw [this]
    generalize 2 ^ d = N at *
    exact IntWalk.wrap64_in (N : Int) (by omega)
  have hi1 : decide (2 ^ d ≤ i) = true := by simpa using hi
  obtain ⟨N, hN⟩ : ∃ N, 2 ^ d = N := ⟨_, rfl⟩
  rw [hN] at hw2 hi1
  replace hN := Lib.hid hN
  clear hi hp10
  replace hR := Lib.hid hR
  go_enter Tryd.func10, Tryd.ntmps10
  go_wp2
  refine wp_scope_straight ?_
  go_wp2_with fail
  have hB1 : Below w.heap.size w ((w.alloc (.cells #[.int .i64 d] 3)).alloc (.cells #[.int .i64 i] 3)) := (by repeat (first | assumption | exact Below.refl _ _ | refine Below.setCell ?_ (by first | exact Nat.le_refl _ | (simp; done) | omega | (simp; omega)) _ | refine Below.alloc ?_ (by first | exact Nat.le_refl _ | (simp; done) | omega | (simp; omega)) _ | refine below_drewN ?_ _ | refine Below.drew ?_ | refine Below.on (by assumption) ?_ | refine Below.via (by assumption) (by first | exact Nat.le_refl _ | (simp; done) | omega | (simp; omega)) ?_))
  have K0 := (Blk.new0 w 3 #[.int .i64 d]).alloc (.cells #[.int .i64 i] 3)
  have K1 := Blk.new1 w (.cells #[.int .i64 d] 3) 3 #[.int .i64 i]
  obtain ⟨W1, hW1⟩ : ∃ W1, (w.alloc (.cells #[.int .i64 d] 3)).alloc (.cells #[.int .i64 i] 3) = W1 := ⟨_, rfl⟩
  rw [hW1] at hB1 K0 K1 ⊢
  have hs1 := Txts.below hs hB1
  clear hs hW1
  replace K0 := Lib.hid K0
  replace K1 := Lib.hid K1
  replace hs1 := Lib.hid hs1
  (have k0 := Blk.cell K0.out; have f0 := Blk.free K0.out; have l0 := Blk.lt K0.out; have m0 := Nat.le_of_lt l0; have k1 := Blk.cell K1.out; have f1 := Blk.free K1.out; have l1 := Blk.lt K1.out; have m1 := Nat.le_of_lt l1)
  (refine wp_region_later (by kernel_rfl) (by kernel_rfl) ?_; (repeat (go_big_quiet_step ((go_at_call 12; exact lq (right_ret A c L d hL hx true (by simpa using hR.out) _ (Txts.below hs1.out (Later.below _))))))); refine wpQuiet_nil ?_; intro w' hB)
  have hB2 := Below.on hB hB1
  clear k0 f0 l0 m0 k1 f1 l1 m1 K0 K1 hs1 hB hB1
  go_wp2_with fail
  rw [Exit.noGoto_ret]
  go_ret2
  exact ⟨rfl, hB2⟩
/-- a branch, or that there is none -/
def BranchOk (L : List Bytes) (d i : Int) : Prop := RightP L d ∧ 0 ≤ i ∧ i < ((2 ^ d.toNat : Nat) : Int)
instance instBranchOk (L : List Bytes) (d i : Int) : Decidable (BranchOk L d i) := by unfold BranchOk; infer_instance
theorem branch_calls (A : Option Addr) (c : Nat) (L : List Bytes) (d i : Int) (hL : L.length ≤ 9223372036854775807) (hx : ∀ x ∈ L, x.length ≤ 9223372036854775807) (w : World) (hk : HasK w) (hs : Txts w A L) :
    Calls Tryd.prog 10 #[.slice A L.length c, .int .i64 d, .int .i64 i] w (fun e w' => ∃ v, e = .returned (.tuple #[v, .int .i64 (if BranchOk L d i then 0 else 80)]) ∧ LRow w.heap.size w' v (if BranchOk L d i then branchP L i.toNat d.toNat else []) ∧ Below w.heap.size w w') := by
  by_cases hB : BranchOk L d i
  · rw [if_pos hB, if_pos hB]
    obtain ⟨h1, h2, h3⟩ := hB
    obtain ⟨n, rfl⟩ : ∃ n : Nat, d = n := ⟨d.toNat, (Int.toNat_of_nonneg h1.1).symm⟩
    obtain ⟨j, rfl⟩ : ∃ j : Nat, i = j := ⟨i.toNat, (Int.toNat_of_nonneg h2).symm⟩
    exact branch_yes A c L n j h1 (by rw [Int.toNat_natCast] at h3; exact Int.ofNat_lt.1 h3) w hk hs
  · rw [if_neg hB, if_neg hB]
    have : Calls Tryd.prog 10 #[.slice A L.length c, .int .i64 d, .int .i64 i] w (Ret w (.tuple #[.slice none 0 0, .int .i64 80])) := by
      by_cases h1 : RightP L d
      · by_cases h2 : i < 0
        · exact branch_no2 A c L d i h1 h2 hL hx w hs
        · obtain ⟨n, rfl⟩ : ∃ n : Nat, d = n := ⟨d.toNat, (Int.toNat_of_nonneg h1.1).symm⟩
          obtain ⟨j, rfl⟩ : ∃ j : Nat, i = j := ⟨i.toNat, (Int.toNat_of_nonneg (by omega)).symm⟩
          refine branch_no3 A c L n j h1 ?_ hL hx w hs
          refine Nat.le_of_not_lt fun h => hB ⟨h1, by omega, ?_⟩
          rw [Int.toNat_natCast]
          exact Int.ofNat_lt.2 h
      · exact branch_no1 A c L d i h1 hL hx w hs
    exact this.mono fun e w' ⟨h1, h2⟩ => ⟨_, h1, World.ownsRow_nil _ _ _ _, h2⟩
end Go.Proofs.YthflonnkmkjddaaDoor
end
section
namespace Go.Phx

theorem take_step {α : Type} (l : List α) (d : α) (m : Nat) (h : m < l.length) : l.take (m + 1) = l.take m ++ [l.getD m d] := by
  rw [List.take_add_one, List.getElem?_eq_getElem h, List.getD, List.getElem?_eq_getElem h]
  rfl
/-- a step of the way -/
def stepT (s x : Bytes) (i k : Nat) : Bytes := if i / 2 ^ k % 2 = 1 then s ++ x else x ++ s
theorem wayP_step (r : List Bytes) (x : Bytes) (i k : Nat) (h : k < r.length) : wayP x (r.take (k + 1)) i = sha (stepT (r.getD k []) (wayP x (r.take k) i) i k) := by
  rw [take_step r [] k h, wayP_snoc', List.length_take, Nat.min_eq_left (by omega)]
  unfold stepT
  split <;> rfl
theorem wayP_32 : ∀ (r : List Bytes) (x : Bytes) (i : Nat), x.length = 32 → (wayP x r i).length = 32
  | [], x, i, h => h
  | s :: r, x, i, h => by
    unfold wayP
    exact wayP_32 r _ _ (by split <;> exact sha_len _)
theorem getD_mem {l : List Bytes} {k : Nat} (h : k < l.length) : l.getD k [] ∈ l := by
  rw [List.getD, List.getElem?_eq_getElem h]
  exact List.getElem_mem h
set_option maxRecDepth 100000 in
/-- what is shown -/
theorem shown_no : ¬ sha (zero32 ++ sha (zero32 ++ zero32)) = sha (zero32 ++ zero32) := by decide +kernel
theorem shown_pack : packP (List.replicate 33 0) = [zero32, zero32] := by
  rw [pack_zeros, show (33 + 31) / 32 = 2 from rfl, List.replicate_succ, List.replicate_succ, List.replicate_zero]
theorem shown_yes : CheckP zero32 [zero32] 1 (sha (zero32 ++ zero32)) := ⟨by simp, rfl, sha_len _, by simp, by simp; rfl, rfl⟩
theorem way_one (x s : Bytes) : wayP x [s] 1 = sha (s ++ x) := rfl
theorem shown_not : ¬ CheckP (sha (zero32 ++ zero32)) [zero32] 1 (sha (zero32 ++ zero32)) := by
  rintro ⟨_, _, _, _, _, h⟩
  rw [way_one] at h
  exact shown_no h
/-- a chunk as the program makes it -/
theorem chunk_prog (s : Bytes) (k n : Nat) (hn : n = min 32 (s.length - 32 * k)) : (s.drop (32 * k)).take n ++ zero32.drop n = chunkP s k := by
  unfold chunkP zero32
  have e : (s.drop (32 * k)).take n = (s.drop (32 * k)).take 32 := by
    rw [hn, ← List.length_drop, Nat.min_def]
    split
    · rfl
    · rw [List.take_of_length_le (Nat.le_refl _), List.take_of_length_le (by omega)]
  rw [e, List.drop_replicate, List.length_take, List.length_drop, ← hn]
theorem pack_end (s : Bytes) (k : Nat) (h1 : k ≤ (s.length + 31) / 32) (h2 : s.length ≤ 32 * k) : packN s k = packP s := by
  unfold packP
  rw [show (s.length + 31) / 32 = k by omega]
end Go.Phx
end
section
set_option linter.unusedSimpArgs false
set_option linter.unusedVariables false
namespace Go.Proofs.YthflonnkmkjddaaDoor
open BigFrame Go.RowKit Go.Phx Go.Shelf
attribute [local go_sem] Oper.semAt_some

/-- a part of a text's bytes, cut at its end, and noughts behind it -/
theorem pack_append (w : World) (g o n : Nat) (p z : Bytes) (hp : p.length = n) (hn : n ≤ 32) (hz : z.length = 32 - n) (hc : ∀ j, j < n → w.cell? ⟨g, o + j, none⟩ = some (bv (p.getD j 0))) :
    ∃ v' w', (Builtin.append_ #[28, 9] 28 #[.slice (some ⟨g, o, none⟩) n n, .string (bs z)]).run Tryd.prog w = .ok v' w' ∧ Below w.heap.size w w' ∧
      ∀ W, Below w'.heap.size w' W → (convert 28 9 v').run Tryd.prog W = .ok (.string (bs (p ++ z))) W := by
  have hu8 : Tryd.prog.underlying 28 = some (.slice 5) := by kernel_rfl
  have hst : Tryd.prog.underlying 9 = some .string := by kernel_rfl
  have he8 : Tryd.prog.underlying 5 = some (.int .u8) := by kernel_rfl
  obtain ⟨i0, hi, hz0, hz1, hz2⟩ := info_parts infoU8
  by_cases h : n = 32
  · obtain rfl : z = [] := List.eq_nil_of_length_eq_zero (by omega)
    subst h
    refine ⟨.slice (some ⟨g, o, none⟩) 32 32, w, ?_, Below.refl _ _, fun W hW => ?_⟩
    · have h0 : (bs []).size = 0 := rfl
      have hf := Lib.run_firstCells_string (P := Tryd.prog) w 1 (bs [])
      rw [h0] at hf
      have hsc : Lib.strCells (bs []) = [] := rfl
      rw [hsc] at hf
      simp [Builtin.append_, run_underlying hu8, run_underlying hst, sizeOf, typeInfo, hi, hz1, Builtin.lenOf, h0, hf, storeCells]
    · have := run_convert_bytes_arg (P := Tryd.prog) W _ _ hu8 he8 g o 32 32 (p.map fun c : UInt8 => (c.toNat : Int)) (by simpa using hp) (fun j hj => by
        have hlt : g < w.heap.size := World.block_lt_of_cell? _ _ (hc 0 (by omega))
        rw [hW.cell (p := ⟨g, o + j, none⟩) hlt, hc j hj]
        unfold bv
        simp [List.getD, List.getElem?_eq_getElem (show j < p.length by omega)]) _ hst
      rw [this, strOfNums_map, List.append_nil]
  · have hsz : (bs z).size = 32 - n := by rw [bs_size, hz]
    have hcap : n < n + (bs z).size := by omega
    have hr := Lib.run_append_grow_string (P := Tryd.prog) w 28 9 28 5 i0 (.int .u8 0) hu8 hst hi hz0 ⟨g, o, none⟩ n n (p.map bv) (by rw [List.length_map, hp, hz1, Nat.mul_one]) (fun j v hv => by
      have hj : j < n := by have := (List.getElem?_eq_some_iff.1 hv).1; simpa [hp] using this
      rw [Addr.add_mid, hc j hj]
      rw [List.getElem?_map, List.getElem?_eq_getElem (by omega)] at hv
      simp only [Option.map_some, Option.some.injEq] at hv
      rw [← hv, List.getD, List.getElem?_eq_getElem (by omega)]
      rfl) (bs z) hcap (by omega) (growslice_fits (by omega) (by rw [hz2]; omega))
    have e32 : n + (bs z).size = 32 := by omega
    rw [e32] at hr
    have hge := grownCap_ge w 32 n 5
    refine ⟨_, _, hr, ((Below.refl _ _).drew).alloc (Nat.le_refl _) _, fun W hW => ?_⟩
    refine conv_cells W w.heap.size (p ++ z) 32 _ (by rw [List.length_append]; omega) fun j u hu => ?_
    have hj : j < 32 := by have := (List.getElem?_eq_some_iff.1 hu).1; simp at this; omega
    rw [hW.cell (p := ⟨w.heap.size, j, none⟩) (by simp)]
    rw [cell_of_row _ w.heap.size j _ 5 (0, 0) (heap_alloc_new w.drew _)]
    have e : (p.map bv).toArray ++ (Lib.strCells (bs z)).toArray = ((p ++ z).map bv).toArray := by
      rw [List.map_append]
      simp [Lib.strCells, bs_list]
      exact fun _ _ => rfl
    rw [e, Array.getElem?_append_left (by simp; omega)]
    simpa using hu
set_option maxRecDepth 100000 in
set_option maxHeartbeats 4000000 in
theorem pack_calls (s : Bytes) (hs : s.length ≤ 100000) (w : World) : Calls Tryd.prog 9 #[.string (bs s)] w (fun e w' => ∃ v, e = .returned v ∧ LRow w.heap.size w' v (packP s) ∧ Below w.heap.size w w') := by
  have TX := Lib.hid (txt_own w s w.heap.size (Nat.le_refl _) (by omega))
  have TB := txt_below w (bs s)
  have TS := txt_size w (bs s)
  obtain ⟨W1, hW1⟩ : ∃ W1, txtCells w (bs s) = W1 := ⟨_, rfl⟩
  obtain ⟨cp, hcp⟩ : ∃ cp, grownCap w s.length 0 5 = cp := ⟨_, rfl⟩
  have hcl : s.length ≤ cp := by rw [← hcp]; exact grownCap_ge w _ 0 _
  rw [hcp] at TX
  rw [hW1] at TX TB TS
  obtain ⟨g, hg⟩ : ∃ g, w.heap.size = g := ⟨_, rfl⟩
  have hcell : ∀ j, j < s.length → W1.cell? ⟨g, j, none⟩ = some (bv (s.getD j 0)) := fun j hj => by
    obtain ⟨g', c', hv, _, _, _, _, h⟩ := TX.out.form
    simp only [Value.slice.injEq, Option.some.injEq, Addr.mk.injEq, true_and, and_true] at hv
    rw [← hg, hv.1]
    exact h j _ (by rw [List.getElem?_map, List.getElem?_eq_getElem hj, List.getD, List.getElem?_eq_getElem hj]; rfl)
  replace hcell := Lib.hid hcell
  have hg1 : g < W1.heap.size := by rw [TS, hg]; omega
  have TB1 := TB
  rw [hg] at TS
  clear TX
  go_enter Tryd.func9, Tryd.ntmps9
  go_wp2_with fail
  replace hcp := Lib.hid hcp
  replace hg := Lib.hid hg
  replace hW1 := Lib.hid hW1
  replace TS := Lib.hid TS
  go_loopw [3, 4] (fun v b wr => ∃ (u : Value) (k o c : Nat), u = v ∧ k ≤ (s.length + 31) / 32 ∧ b = .slice (some ⟨g, o, none⟩) (s.length - 32 * k) c ∧ (32 * k < s.length → o = 32 * k) ∧ s.length - 32 * k ≤ c ∧ LRow W1.heap.size wr u (packN s k) ∧ Below W1.heap.size W1 wr) (fun _ b _ => match b with | .slice _ n _ => n | _ => 0)
  case atStart => exact ⟨_, 0, 0, cp, rfl, by omega, rfl, fun _ => rfl, by omega, World.ownsRow_nil _ _ _ _, Below.refl _ _⟩
  case round =>
    obtain ⟨v, k, o, c, rfl, hk, rfl, ho, hc, OWN, HB⟩ := hrel
    have hmeas : ∀ j, s.length - 32 * (k + 1) < s.length - 32 * k ∨ s.length ≤ 32 * k := fun _ => by omega
    by_cases hlt : 32 * k < s.length
    · obtain rfl := ho hlt
      obtain ⟨a, ha⟩ : ∃ a, 32 * k = a := ⟨_, rfl⟩
      rw [ha] at hlt hc ⊢
      obtain ⟨r, hr⟩ : ∃ r, s.length - a = r := ⟨_, rfl⟩
      rw [hr] at hc ⊢
      obtain ⟨n, hn⟩ : ∃ n, min 32 r = n := ⟨_, rfl⟩
      have hr0 : 0 < r := by omega
      have hmin : min (32 : Int) (r : Int) = (n : Int) := by omega
      have hn0 : 0 < n := by omega
      have hnr : n ≤ r := by omega
      have hn32 : n ≤ 32 := by omega
      have hchunk := Lib.hid (chunk_prog s k n (by rw [ha, hr]; exact hn.symm))
      have hnext := Lib.hid (packN_succ s k)
      have hpl : ((s.drop a).take n).length = n := by rw [List.length_take, List.length_drop]; omega
      have hat : ∀ j, j < n → ((s.drop a).take n).getD j 0 = s.getD (a + j) 0 := fun j hj => by
        rw [List.getD, List.getD, List.getElem?_take_of_lt hj, List.getElem?_drop]
      rw [ha] at hchunk
      have hzl : (zero32.drop n).length = 32 - n := by rw [List.length_drop]; rfl
      have hpc : ∀ j, j < n → wr.cell? ⟨g, a + j, none⟩ = some (bv (((s.drop a).take n).getD j 0)) := fun j hj => by
        rw [HB.cell (p := ⟨g, a + j, none⟩) hg1, hcell.out _ (by omega), hat j hj]
      have hdz : (bs zero32).extract n 32 = bs (zero32.drop n) := bs_drop zero32 n
      have hql := packN_len s k
      generalize (s.drop a).take n = p at *
      generalize packN s k = q at *
      have hq1 : q.length ≤ 100000 := by omega
      replace hpc := Lib.hid hpc
      replace hpl := Lib.hid hpl
      replace hn := Lib.hid hn
      replace ha := Lib.hid ha
      replace hr := Lib.hid hr
      replace hql := Lib.hid hql
      replace OWN := Lib.hid OWN
      replace hdz := Lib.hid hdz
      replace hzl := Lib.hid hzl
      clear hat hmeas
      have hr1 : r ≤ 100000 := by have := hr.out; omega
      go_wp2_with fail
      refine (nought_calls _).mono ?_
      rintro e w1 ⟨rfl, h1⟩
      have hgr : g < wr.heap.size := Nat.lt_of_lt_of_le hg1 HB.size
      have OWN1 := Lib.hid (LRow.below OWN.out h1)
      have HB1 := HB.trans (h1.mono HB.size)
      obtain ⟨v1, w2, hr1, h2, hcv1⟩ := pack_append w1 g a n p (zero32.drop n) hpl.out hn32 hzl.out (fun j hj => by rw [h1.cell (p := ⟨g, a + j, none⟩) hgr]; exact hpc.out j hj)
      have OWN2 := Lib.hid (LRow.below OWN1.out h2)
      have HB2 := HB1.trans (h2.mono HB1.size)
      have hcv2 := hcv1 w2 (Below.refl _ _)
      rw [hchunk.out] at hcv2
      clear hcv1 OWN OWN1 HB1 hpc hcell h1 h2
      have hb2 := HB2.size
      have hq2 : q.length ≤ 1000000000 := by omega
      go_wp2_with (first | (at_builtin; refine wpList_append_run rfl _ _ _ _ rfl _ _ v1 rfl rfl hr1 ?_) | (at_builtin; refine wpList_append_txt rfl _ _ rfl W1.heap.size v q rfl (OWN2.out.on _) (chunkP s k) ⟨w2.heap.size, 0, none⟩ rfl (new_cell _ _ _) hq2 (Nat.le_trans hb2 (by simp)) ?_))
      intro v' w' hown hgrow _
      have hown3 := Lib.hid (show LRow W1.heap.size w' v' (packN s (k + 1)) from by
        rw [hnext.out]
        exact hown)
      have HB3 := below_app (HB2.alloc HB2.size _) (OWN2.out.on _) hgrow
      clear hown hgrow OWN2 hcv2 hr1
      have e1 : s.length - 32 * (k + 1) = r - n := by have := ha.out; have := hr.out; have := hn.out; omega
      have e2 : k + 1 ≤ (s.length + 31) / 32 := by have := ha.out; omega
      have e3 : 32 * (k + 1) < s.length → a + n = 32 * (k + 1) := fun _ => by have := ha.out; have := hr.out; have := hn.out; omega
      have e4 : ¬ 32 * (k + 1) < s.length ∨ n < c := by have := ha.out; have := hr.out; have := hn.out; omega
      replace e1 := Lib.hid e1
      replace e3 := Lib.hid e3
      by_cases hnc : n = c
      · have hcc : c - n = 0 := by omega
        subst hnc
        go_wp2_with fail
        exact ⟨⟨_, k + 1, a, 0, rfl, e2, by rw [e1.out]; congr 1; omega, fun h => by omega, by have := e1.out; omega, hown3.out, HB3⟩, hr0⟩
      · have hnc2 : n < c := by omega
        go_wp2_with fail
        exact ⟨⟨_, k + 1, a + n, c - n, rfl, e2, by rw [e1.out], e3.out, by have := e1.out; omega, hown3.out, HB3⟩, by show r - n < r; omega⟩
    · have hend := pack_end s k hk (by omega)
      have hz : s.length - 32 * k = 0 := by omega
      rw [hend] at OWN
      rw [hz]
      have hbw := Below.on HB TB1
      have hb1 : w.heap.size ≤ W1.heap.size := TB1.size
      replace hend := Lib.hid hend
      replace OWN := Lib.hid (LRow.mono OWN hb1)
      clear hmeas ho hz
      go_wp2_with fail
      go_ret
      exact ⟨_, rfl, OWN.out, hbw⟩
end Go.Proofs.YthflonnkmkjddaaDoor
end
section
set_option linter.unusedSimpArgs false
set_option linter.unusedVariables false
namespace Go.Proofs.YthflonnkmkjddaaDoor
open BigFrame Go.RowKit Go.Phx Go.Shelf
attribute [local go_sem] Oper.semAt_some

theorem isChunk_yes (l : List UInt8) (hl : l.length = 32) (w : World) : Calls Tryd.prog 15 #[.string (bs l)] w (fun e w' => e = .returned (.bool true) ∧ w = w') := by
  have e : ((l.length : Int) = 32) := by omega
  go_enter Tryd.func15, Tryd.ntmps15
  go_wp2_with fail
  go_ret
  exact ⟨by simp [hl], rfl⟩
theorem isChunk_no (l : List UInt8) (hl : l.length ≠ 32) (hb : l.length ≤ 9223372036854775807) (w : World) : Calls Tryd.prog 15 #[.string (bs l)] w (fun e w' => e = .returned (.bool false) ∧ w = w') := by
  have e : ¬ ((l.length : Int) = 32) := by omega
  go_enter Tryd.func15, Tryd.ntmps15
  go_wp2_with fail
  go_ret
  exact ⟨by simp [e], rfl⟩
set_option maxRecDepth 100000 in
set_option maxHeartbeats 4000000 in
theorem check_loop (x : Bytes) (A : Option Addr) (c : Nat) (L : List Bytes) (i : Nat) (root : Bytes) (hx : x.length = 32) (hr : root.length = 32) (hL : L.length ≤ 64) (hi : i < 18446744073709551616) (hi2 : i / 2 ^ L.length = 0)
    (hall : ∀ y ∈ L, y.length ≤ 1000000000) (w : World) (hk : HasK w) (hs : Txts w A L) :
    Calls Tryd.prog 11 #[.string (bs x), .slice A L.length c, .int .u64 i, .string (bs root)] w (Ret w (.bool (decide (CheckP x L i root)))) := by
  have hL1 : ¬ (64 < L.length) := by omega
  have hL2 : decide ((64 : Int) < (L.length : Int)) = false := decide_eq_false (by omega)
  have hi3 : (i : Int) / 2 ^ L.length = 0 := by
    have : ((i / 2 ^ L.length : Nat) : Int) = 0 := by rw [hi2]; rfl
    simpa using this
  go_enter Tryd.func11, Tryd.ntmps11
  go_wp2_with (first | (go_at_call 15; (with_reducible refine (isChunk_yes x hx _).mono ?_); rintro e w' ⟨rfl, rfl⟩) | (go_at_call 15; (with_reducible refine (isChunk_yes root hr _).mono ?_); rintro e w' ⟨rfl, rfl⟩))
  clear hL1 hL2 hi3
  go_loopw [0, 2, 33] (fun q j n wr => ∃ k : Nat, k ≤ L.length ∧ n = .int .i64 k ∧ q = .string (bs (wayP x (L.take k) i)) ∧ j = .int .u64 ((i / 2 ^ k : Nat) : Int) ∧ (∀ y ∈ L.take k, y.length = 32) ∧ Below w.heap.size w wr) (fun _ _ n _ => (L.length - intOf n).toNat)
  case atStart => exact ⟨0, by omega, rfl, rfl, by rw [Nat.pow_zero, Nat.div_one], by simp, Below.refl _ _⟩
  case round =>
    obtain ⟨k, hk2, rfl, rfl, rfl, h32, HB⟩ := hrel
    have hkr := hk.on HB
    by_cases hlt : k < L.length
    · have hw := Lib.hid (wayP_step L x i k hlt)
      have hql := wayP_32 (L.take k) x i hx
      obtain ⟨b, o, rfl, hb, hc⟩ := Txts.at (Txts.below hs HB) k hlt
      have htake := Lib.hid (take_step L [] k hlt)
      have hy := hall _ (getD_mem hlt)
      have hmem := Lib.hid (getD_mem hlt)
      generalize L.getD k [] = y at *
      generalize wayP x (L.take k) i = q at *
      have hdiv : i / 2 ^ k / 2 = i / 2 ^ (k + 1) := by rw [Nat.div_div_eq_div_mul, Nat.pow_succ]
      replace hdiv := Lib.hid hdiv
      have hstep : ∀ s t : Bytes, Phx.stepT s t i k = if i / 2 ^ k % 2 = 1 then s ++ t else t ++ s := fun _ _ => rfl
      replace hstep := Lib.hid hstep
      have hm : i / 2 ^ k < 18446744073709551616 := Nat.lt_of_le_of_lt (Nat.div_le_self _ _) hi
      generalize i / 2 ^ k = m at *
      clear hs hall
      replace h32 := Lib.hid h32
      by_cases hy32 : y.length = 32
      · have hnext : ∀ z ∈ L.take (k + 1), z.length = 32 := by
          rw [htake.out]
          intro z hz
          rcases List.mem_append.1 hz with h | h
          · exact h32.out z h
          · rw [List.mem_singleton.1 h]; exact hy32
        replace hnext := Lib.hid hnext
        rcases Nat.mod_two_eq_zero_or_one m with hm2 | hm2
        · have hm3 : ((m : Int) % 2 == 1) = false := by
            have : (m : Int) % 2 = 0 := by omega
            rw [this]; rfl
          have hm4 : ¬ (m : Int) % 2 = 1 := by omega
          rw [hstep.out, if_neg (by omega)] at hw
          clear hm2
          replace HB := Lib.hid HB
          replace hkr := Lib.hid hkr
          go_wp2_with (go_at_call 15; (with_reducible refine (isChunk_yes y hy32 _).mono ?_); rintro e w' ⟨rfl, rfl⟩)
          refine (sum2_calls q y (by omega) (by omega) _ _ (hkr.out.alloc _) (strs2 wr _ _)).mono ?_
          rintro e w2 ⟨rfl, h2⟩
          have HB2 : Below w.heap.size w w2 := Below.on h2 (HB.out.alloc HB.out.size _)
          go_wp2_with fail
          go_roundw
          case rel => exact ⟨k + 1, by omega, by go_num, by rw [hw.out], by rw [← hdiv.out]; go_num, hnext.out, HB2⟩
          case measure => simp [intOf]; omega
        · have hm3 : ((m : Int) % 2 == 1) = true := by
            have : (m : Int) % 2 = 1 := by omega
            rw [this]; rfl
          have hm4 : (m : Int) % 2 = 1 := by omega
          rw [hstep.out, if_pos hm2] at hw
          clear hm2
          replace HB := Lib.hid HB
          replace hkr := Lib.hid hkr
          go_wp2_with (go_at_call 15; (with_reducible refine (isChunk_yes y hy32 _).mono ?_); rintro e w' ⟨rfl, rfl⟩)
          refine (sum2_calls y q (by omega) (by omega) _ _ (hkr.out.alloc _) (strs2 wr _ _)).mono ?_
          rintro e w2 ⟨rfl, h2⟩
          have HB2 : Below w.heap.size w w2 := Below.on h2 (HB.out.alloc HB.out.size _)
          go_wp2_with fail
          go_roundw
          case rel => exact ⟨k + 1, by omega, by go_num, by rw [hw.out], by rw [← hdiv.out]; go_num, hnext.out, HB2⟩
          case measure => simp [intOf]; omega
      · have hno : decide (CheckP x L i root) = false := decide_eq_false fun h => hy32 (h.2.2.2.2.1 y hmem.out)
        replace hno := Lib.hid hno
        replace HB := Lib.hid HB
        replace hL := Lib.hid hL
        clear hkr
        go_wp2_with (go_at_call 15; (with_reducible refine (isChunk_no y hy32 (by omega) _).mono ?_); rintro e w' ⟨rfl, rfl⟩)
        go_ret
        exact ⟨by rw [hno.out]; rfl, HB.out⟩
    · obtain rfl : k = L.length := by omega
      rw [List.take_of_length_le (Nat.le_refl _)] at h32 ⊢
      have hq : (decide (CheckP x L i root)) = decide (wayP x L i = root) := by
        rw [decide_eq_decide]
        exact ⟨fun h => h.2.2.2.2.2, fun h => ⟨hL, hx, hr, (Nat.div_eq_zero_iff_lt (Nat.two_pow_pos _)).1 hi2, h32, h⟩⟩
      replace hq := Lib.hid hq
      have hql := wayP_32 L x i hx
      generalize wayP x L i = q at *
      replace HB := Lib.hid HB
      clear h32 hs hall
      by_cases hqr : q = root
      · subst hqr
        go_wp2_with fail
        go_ret
        exact ⟨by rw [hq.out]; simp, HB.out⟩
      · have hne : (q == root) = false := by simpa using hqr
        go_wp2_with fail
        go_ret
        exact ⟨by rw [hq.out]; simp [hqr], HB.out⟩
set_option maxRecDepth 100000 in
set_option maxHeartbeats 4000000 in
theorem check_no (x : Bytes) (A : Option Addr) (c : Nat) (L : List Bytes) (i : Nat) (root : Bytes) (hx : x.length ≤ 1000000000) (hr : root.length ≤ 1000000000) (hL : L.length ≤ 1000000000) (hi : i < 18446744073709551616)
    (hn : 64 < L.length ∨ x.length ≠ 32 ∨ root.length ≠ 32 ∨ L.length ≤ 64 ∧ x.length = 32 ∧ root.length = 32 ∧ i / 2 ^ L.length ≠ 0) (w : World) :
    Calls Tryd.prog 11 #[.string (bs x), .slice A L.length c, .int .u64 i, .string (bs root)] w (Ret w (.bool false)) := by
  by_cases h1 : 64 < L.length
  · have e1 : decide ((64 : Int) < (L.length : Int)) = true := decide_eq_true (by omega)
    clear hn
    go_enter Tryd.func11, Tryd.ntmps11
    go_wp2_with fail
    go_ret
    exact ⟨rfl, Below.refl _ _⟩
  · have e1 : decide ((64 : Int) < (L.length : Int)) = false := decide_eq_false (by omega)
    by_cases h2 : x.length = 32
    · by_cases h3 : root.length = 32
      · have h4 : i / 2 ^ L.length ≠ 0 := by omega
        have h5 : (0 : Int) < (i : Int) / 2 ^ L.length := by
          have : (0 : Int) < ((i / 2 ^ L.length : Nat) : Int) := Int.natCast_pos.2 (Nat.pos_of_ne_zero h4)
          simpa using this
        have h6 : decide ((0 : Int) < (i : Int) / 2 ^ L.length) = true := decide_eq_true h5
        have h7 : L.length ≤ 64 := by omega
        clear hn h4
        go_enter Tryd.func11, Tryd.ntmps11
        go_wp2_with (first | (go_at_call 15; (with_reducible refine (isChunk_yes x h2 _).mono ?_); rintro e w' ⟨rfl, rfl⟩) | (go_at_call 15; (with_reducible refine (isChunk_yes root h3 _).mono ?_); rintro e w' ⟨rfl, rfl⟩))
        go_ret
        exact ⟨rfl, Below.refl _ _⟩
      · clear hn
        go_enter Tryd.func11, Tryd.ntmps11
        go_wp2_with (first | (go_at_call 15; (with_reducible refine (isChunk_yes x h2 _).mono ?_); rintro e w' ⟨rfl, rfl⟩) | (go_at_call 15; (with_reducible refine (isChunk_no root h3 (by omega) _).mono ?_); rintro e w' ⟨rfl, rfl⟩))
        go_ret
        exact ⟨rfl, Below.refl _ _⟩
    · clear hn
      go_enter Tryd.func11, Tryd.ntmps11
      go_wp2_with (go_at_call 15; (with_reducible refine (isChunk_no x h2 (by omega) _).mono ?_); rintro e w' ⟨rfl, rfl⟩)
      go_ret
      exact ⟨rfl, Below.refl _ _⟩
/-- whether a branch is a leaf's under a root -/
theorem check_calls (x : Bytes) (A : Option Addr) (c : Nat) (L : List Bytes) (i : Nat) (root : Bytes) (hx : x.length ≤ 1000000000) (hr : root.length ≤ 1000000000) (hL : L.length ≤ 1000000000) (hi : i < 18446744073709551616)
    (hall : ∀ y ∈ L, y.length ≤ 1000000000) (w : World) (hk : HasK w) (hs : Txts w A L) :
    Calls Tryd.prog 11 #[.string (bs x), .slice A L.length c, .int .u64 i, .string (bs root)] w (Ret w (.bool (decide (CheckP x L i root)))) := by
  by_cases h : L.length ≤ 64 ∧ x.length = 32 ∧ root.length = 32 ∧ i / 2 ^ L.length = 0
  · exact check_loop x A c L i root h.2.1 h.2.2.1 h.1 hi h.2.2.2 hall w hk hs
  · have e : decide (CheckP x L i root) = false := decide_eq_false fun hc => h ⟨hc.1, hc.2.1, hc.2.2.1, Nat.div_eq_of_lt hc.2.2.2.1⟩
    rw [e]
    refine check_no x A c L i root hx hr hL hi ?_ w
    by_cases h1 : 64 < L.length
    · exact .inl h1
    · by_cases h2 : x.length = 32
      · by_cases h3 : root.length = 32
        · exact .inr (.inr (.inr ⟨by omega, h2, h3, fun h4 => h ⟨by omega, h2, h3, h4⟩⟩))
        · exact .inr (.inr (.inl h3))
      · exact .inr (.inl h2)
end Go.Proofs.YthflonnkmkjddaaDoor
end
