/- What the later texts stand on (Nib1, Nib2, Nib3): plain laws and walks, each by its own conditions. -/
import Derived.Test.YthhlbdgladhdkaaGreatDoorUs6
import Derived.Test.YthhlbdgladhdkaaGreatDoorUs9
import Derived.Test.YthhlbdgladhdkaaGreatDoorUs5
import Derived.Test.YthhlbdgladhdkaaGreatDoorUs7
import Derived.Test.YthhlbdgladhdkaaGreatDoorShelf
import Derived.Test.YthhlbdgladhdkaaGreatDoorUs4
import Derived.Shelf.Strings.SlTrimAscii
set_option linter.unusedSimpArgs false
set_option linter.unusedVariables false
section
namespace Go.Proofs.YthhlbdgladhdkaaGreatDoor
open BigFrame Go.RowKit Go.Phx Go.Shelf
attribute [local go_sem] Oper.semAt_some

theorem pathOf_at : ∀ (s : Bytes) (k : Nat), k < s.length → (pathOf s)[2 * k]? = some (UInt8.ofNat ((s.getD k 0).toNat / 16)) ∧ (pathOf s)[2 * k + 1]? = some (UInt8.ofNat ((s.getD k 0).toNat % 16))
 | [], k, h => by simp at h
 | c :: r, 0, h => ⟨rfl, rfl⟩
 | c :: r, k + 1, h => by
  have := pathOf_at r k (by simpa using h)
  rw [show 2 * (k + 1) = 2 * k + 1 + 1 by omega]
  exact this
theorem take_one {α : Type} {l : List α} {k : Nat} {x : α} (h : l[k]? = some x) : l.take (k + 1) = l.take k ++ [x] := by rw [List.take_add_one, h]; rfl
theorem shr4 (c : UInt8) : (c.toNat : Int) / 16 = (((UInt8.ofNat (c.toNat / 16)).toNat : Nat) : Int) := by
 have := c.toNat_lt
 rw [UInt8.toNat_ofNat']
 omega
theorem low4 (c : UInt8) : (((c.toNat % 16 : Nat)) : Int) = (((UInt8.ofNat (c.toNat % 16)).toNat : Nat) : Int) := by
 have := c.toNat_lt
 rw [UInt8.toNat_ofNat']
 omega
def KpB (q : Nat) (A B : World) : Prop := A.heap.size ≤ B.heap.size ∧ (q < A.heap.size → B.heap[q]? = A.heap[q]?)
set_option maxRecDepth 100000 in
set_option maxHeartbeats 16000000 in
theorem halves1_in (n : Nat) (hn : 1 ≤ n) (lp q : Nat) (s : Bytes) (hs : s.length ≤ 1000000000)
  (J Jx : List UInt8 → Unit → World → Prop)
  (hY : ∀ pre y x A, J pre x A → pre ++ [y] <+: pathOf s → YieldAt Fence.wide (n - 1) Tryz.prog lp #[.int .u8 (y.toNat : Int)] A fun e B =>
   (e = .returned (.bool true) ∧ J (pre ++ [y]) x B ∧ KpB q A B) ∨ (e = .returned (.bool false) ∧ Jx (pre ++ [y]) x B))
  (W : World) (K0 : Blk W q 9 #[.string (bs s)]) (h0 : J [] () W) :
  CallsIn Fence.wide n Tryz.prog 75 #[.func (.yield lp) #[] #[], .pointer (some ⟨q, 0, none⟩)] W fun e B => (∃ v, e = .returned v) ∧
   ((∃ xs x, xs = pathOf s ∧ J xs x B) ∨ (∃ pre x, True ∧ Jx pre x B)) := by
 have hwf : ∀ f, Fence.wide.fn f := fun _ => trivial
 have hsz := bs_size s
 have hpl := pathOf_len s
 have hpt := pathOf_at s
 replace hY := Lib.hid hY
 replace K0 := Lib.hid K0
 replace hpt := Lib.hid hpt
 (obtain ⟨k0, f0, l0, m0⟩ := K0.out.rl)
 refine callsIn_of_wp Tryz.func75 rfl trivial ?_ rfl
 simp only [Tryz.ntmps75, List.size_toArray, List.length_cons, List.length_nil, Nat.reduceAdd, Nat.reduceSub, Array.replicate_succ, Array.replicate_zero, List.push_toArray, List.append_toArray, List.nil_append, List.cons_append]
 gi_wp2_with fail
 gi_loopw [6] (fun i wr => ∃ k : Nat, k ≤ s.length ∧ i = .int .i64 k ∧ Blk wr q 9 #[.string (bs s)] ∧ J ((pathOf s).take (2 * k)) () wr) (fun i _ => (s.length - intOf i).toNat)
 case atStart => exact ⟨0, by omega, rfl, K0.out, h0⟩
 case round =>
  clear h0 k0 f0 l0 m0 K0
  obtain ⟨k, hk, rfl, K0, hj⟩ := hrel
  by_cases hlt : k < s.length
  ·obtain ⟨p1, p2⟩ := hpt.out k hlt
   have hlen : s.length ≤ 9223372036854775807 := by rw [← hsz]; rw [hsz]; omega
   have hix := fun W => index_bs s k hlt hlen W
   have t1 := take_one p1
   have t2 := take_one p2
   have q1 : (pathOf s).take (2 * k) ++ [UInt8.ofNat ((s.getD k 0).toNat / 16)] <+: pathOf s := by rw [← t1]; exact List.take_prefix _ _
   have q2 : (pathOf s).take (2 * k + 1) ++ [UInt8.ofNat ((s.getD k 0).toNat % 16)] <+: pathOf s := by rw [← t2]; exact List.take_prefix _ _
   rw [show 2 * k + 1 + 1 = 2 * (k + 1) by omega] at t2
   have e1 := shr4 (s.getD k 0)
   have e2 := and15 (s.getD k 0)
   rw [low4] at e2
   generalize s.getD k 0 = c at *
   generalize UInt8.ofNat (c.toNat / 16) = hi at *
   generalize UInt8.ofNat (c.toNat % 16) = lo at *
   clear p1 p2
   obtain ⟨fn, tmps, assign, body, hy, hR⟩ := hY.out _ _ () wr hj q1
   have hY2 := Lib.hid (fun A hj => hY.out ((pathOf s).take (2 * k + 1)) _ () A hj q2)
   rw [← t1] at hR
   replace t1 := Lib.hid t1
   replace t2 := Lib.hid t2
   replace K0 := Lib.hid K0
   (obtain ⟨k0, f0, l0, m0⟩ := K0.out.rl)
   clear hj q1 q2
   gi_wp2_with fail
   refine hR.mono ?_
   rintro e W3 (⟨rfl, hJ3, hk3⟩ | ⟨rfl, hJx3⟩)
   ·have K3 := Lib.hid (show Blk W3 q 9 #[.string (bs s)] from (hk3.2 K0.out.lt).trans K0.out)
    obtain ⟨fn2, tmps2, assign2, body2, hy2, hR2⟩ := hY2.out W3 hJ3
    rw [← t2.out] at hR2
    clear k0 f0 l0 m0 K0 hk3 hJ3 hY2 hy hR
    have K0 := K3
    clear K3
    (obtain ⟨k0, f0, l0, m0⟩ := K0.out.rl)
    gi_wp2_with fail
    refine hR2.mono ?_
    rintro e W4 (⟨rfl, hJ4, hk4⟩ | ⟨rfl, hJx4⟩)
    ·have K4 := Lib.hid (show Blk W4 q 9 #[.string (bs s)] from (hk4.2 K0.out.lt).trans K0.out)
     replace hJ4 := Lib.hid hJ4
     clear k0 f0 l0 m0 K0 hk4 hy2 hR2 hix e1 e2
     gi_wp2_with fail
     go_roundw
     case rel => exact ⟨k + 1, by omega, by go_num, K4.out, hJ4.out⟩
     case measure => simp [intOf]; omega
    ·replace hJx4 := Lib.hid hJx4
     clear k0 f0 l0 m0 K0 hy2 hR2 hix e1 e2
     gi_wp2_with fail
     refine bodyPost_ret (results_none rfl _ _ _) rfl ?_
     exact ⟨⟨_, rfl⟩, .inr ⟨_, (), trivial, hJx4.out⟩⟩
   ·replace hJx3 := Lib.hid hJx3
    clear k0 f0 l0 m0 K0 hy hR hix e1 e2
    gi_wp2_with fail
    refine bodyPost_ret (results_none rfl _ _ _) rfl ?_
    exact ⟨⟨_, rfl⟩, .inr ⟨_, (), trivial, hJx3.out⟩⟩
  ·obtain rfl : k = s.length := by omega
   rw [List.take_of_length_le (by omega)] at hj
   replace hj := Lib.hid hj
   clear K0
   gi_wp2_with fail
   go_end0
   exact ⟨⟨_, rfl⟩, .inl ⟨_, (), rfl, hj.out⟩⟩
theorem halves_calls (s : Bytes) (w : World) : Calls Tryz.prog 51 #[.string (bs s)] w (fun e w' => e = .returned (.func (.func 75) #[] #[.pointer (some ⟨w.heap.size, 0, none⟩)]) ∧ w' = w.alloc (.cells #[.string (bs s)] 9)) := by
 go_enter Tryz.func51, Tryz.ntmps51
 go_wp2
 go_ret
 exact ⟨rfl, rfl⟩
theorem halves_stops (n : Nat) (hn : 1 ≤ n) (q : Nat) (s : Bytes) (hs : s.length ≤ 1000000000) (W0 : World) (K0 : Blk W0 q 9 #[.string (bs s)]) :
  SeqSt Fence.wide n Tryz.prog 75 #[.pointer (some ⟨q, 0, none⟩)] (fun y : UInt8 => #[.int .u8 (y.toNat : Int)]) (fun pre y _ _ => pre ++ [y] <+: pathOf s) (fun (_ : Unit) A B => KpB q A B) (fun _ A _ B => A = B) () (fun xs => xs = pathOf s) (fun _ => True) W0 :=
 fun lp J Jx W hW hJ hJx hY h0 => halves1_in n hn lp q s hs J Jx hY W (K0.below hW) h0
def OfI (w : World) (r : Nat) (k : Bytes) (s : List UInt8) (W : World) : Prop := BldAt w.heap.size r s W ∧ Below w.heap.size w W ∧ Blk W (r + 1) 9 #[.string (bs k)]
theorem OfI.own {w A B : World} {r : Nat} {k : Bytes} {s : List UInt8} {row : Option Nat} {N : Nat} (h : OfI w r k s A) (hr : w.heap.size = r) (hg : A.grownBy B row) (hrow : ∀ j, row = some j → N ≤ j ∧ ∃ o : Obj, A.heap[j]? = some o ∧ o.isCells = false) (hN : r + 2 ≤ N) : OfI w r k s B := by
 refine ⟨h.1.imp ?_ ?_, h.2.1.grown hg h.2.1.size fun j e => by have := (hrow j e).1; omega, h.2.2.grown hg fun e => by have := (hrow _ e.symm).1; omega⟩
 all_goals
  rintro ⟨h1, v, h2, h3, h4⟩
  refine ⟨h1, v, (hg.block r (Array.getElem?_eq_some_iff.1 h2).1 (fun e => by have := (hrow _ e.symm).1; omega)).trans h2, h3.kept hg ?_, h4⟩
  rcases h3.2 with ⟨rfl, _⟩ | ⟨g, cap, cur, rfl, _, hgc, _⟩
  ·exact .inl rfl
  ·refine .inr fun e => ?_
   obtain ⟨_, o, ho, hc⟩ := hrow g e.symm
   rw [hgc] at ho
   injection ho with ho
   subst ho
   cases hc
set_option maxRecDepth 100000 in
set_option maxHeartbeats 4000000 in
theorem of_calls (s : Bytes) (hs : s.length ≤ 1000000000) (w : World) : Calls Tryz.prog 31 #[.string (bs s)] w (Ret w (.string (bs (pathOf s)))) := by
 refine (callsIn_wide (n := 9)).1 ?_
 have hwf : ∀ f, Fence.wide.fn f := fun _ => trivial
 refine callsIn_of_wp_marks Tryz.func31 rfl trivial ?_ rfl
 simp only [Tryz.ntmps31, List.size_toArray, List.length_cons, List.length_nil, Nat.reduceAdd, Nat.reduceSub, Array.replicate_succ, Array.replicate_zero, List.push_toArray, List.append_toArray, List.nil_append, List.cons_append]
 gi_wp2_with (gi_at_call 51; refine (callsIn_wide.2 (halves_calls _ _)).mono ?_; rintro e w' ⟨rfl, rfl⟩)
 obtain ⟨W0, hW0⟩ : ∃ W0, (w.alloc (Obj.cells #[.pointer none, .slice none 0 0] 66)).alloc (Obj.cells #[.string (bs s)] 9) = W0 := ⟨_, rfl⟩
 have hs0 : W0.heap.size = w.heap.size + 2 := by rw [← hW0]; simp
 have KQ : Blk W0 (w.heap.size + 1) 9 #[.string (bs s)] := by rw [← hW0]; exact Blk.new1 _ _ _ _
 have hI0 : OfI w w.heap.size s [] W0 := by
  refine ⟨?_, ?_, KQ⟩
  ·rw [← hW0]
   exact bld_below (bld_newB w.heap.size w (Nat.le_refl _)) ((Below.refl _ _).alloc (Nat.le_refl _) _)
  ·rw [← hW0]
   exact bel
 rw [hW0]
 clear hW0
 obtain ⟨r, hr⟩ : ∃ r, w.heap.size = r := ⟨_, rfl⟩
 rw [hr] at KQ hI0 hs0 ⊢
 have hf := enters_of Tryz.func75 (by kernel_rfl) rfl
 refine wpIn_rangeFunc_st rfl (by decide) (gf := 75) (lb := #[.pointer (some ⟨r + 1, 0, none⟩)]) rfl trivial hf
  (halves_stops 8 (by decide) (r + 1) s hs W0 KQ) (fun _ => rfl) (fun _ _ _ _ h k => ⟨Nat.le_trans h.1 k.1, fun hq => (k.2 (Nat.lt_of_lt_of_le hq h.1)).trans (h.2 hq)⟩) (fun x W l o o' hl h1 h2 h3 => ⟨by simp, fun _ => World.putObj_heap_other (by omega)⟩)
  (fun x A y B k o hab hkk hA ho _ => by rw [← hab]; exact hA)
  (fun pre y x W l o o' h hl h1 h2 => h)
  (fun pre x W => OfI w r s pre W ∧ pre.length ≤ 2000000000) (fun c _ x W => False)
  (fun _ _ A B row h hg hr2 => ⟨OfI.own h.1 hr hg hr2 (by omega), h.2⟩) (fun _ _ s A B row h hg hr => h)
  (fun s x A y B h hab => by rw [← hab]; exact h) (fun _ s x A y B h hab => h) ⟨hI0, by simp⟩
  (fun y => { tmps := #[.string (bs s), undef, .string ⟨#[]⟩, .pointer (some ⟨r, 0, none⟩), .int .u8 (y.toNat : Int), .string (bs s), .func (.func 75) #[] #[.pointer (some ⟨r + 1, 0, none⟩)], .int .u8 (y.toNat : Int), undef, undef, undef], defers := [] })
  ?assign ?body ?done ?stop
 case assign =>
  intro l y W K hK
  gi_wp2
  exact hK
 case stop =>
  rintro D c pre x W hD _ h hK
  exact h.elim
 case done =>
  rintro D xs x W hD rfl ⟨⟨h1, h2, _⟩, _⟩ hK
  have hKD := Lib.hid hK
  have H1 := Lib.hid h1
  have H2 := Lib.hid h2
  clear h1 h2 hK
  gi_wp2_with (gi_at_call 24; refine (callsIn_wide.2 (bld_stringK _ _ _ _ H1.out H2.out.size)).mono ?_)
  rintro e w2 ⟨rfl, hB2, hk2⟩
  have hD2 : w2.heap[D]? = some (.deferred (some [])) := hk2 D _ hKD.out (by omega) (fun cs fz e => by cases e)
  have HB2 := Lib.hid (H2.out.trans hB2)
  clear hKD H1 H2 hB2 hk2
  gi_wp2_with fail
  refine ⟨by simp, .inl ⟨_, _, rfl, run_takeDeferred hD2, ?_⟩⟩
  exact ⟨_, results_tmp rfl _ _ _, rfl, below_shut HB2.out (Nat.le_refl _) (by omega)⟩
 case body =>
  rintro l pre y x W ⟨⟨h1, h2, h4⟩, h3⟩ hat
  have hbb : ∃ cs t fz, W.heap[r]? = some (.cells cs t fz) := by
   rcases h1 with ⟨_, v, h, _⟩ | ⟨_, v, h, _⟩
   ·exact ⟨_, _, _, h⟩
   ·exact ⟨_, _, _, h⟩
  have hpre : pre.length + 1 ≤ 2000000000 := by
   have := hat.length_le
   rw [pathOf_len, List.length_append] at this
   simp at this
   omega
  have H1 := Lib.hid h1
  have H2 := Lib.hid h2
  clear h1 h2 hI0 KQ
  gi_wp2_with (gi_at_call 52; refine (CallsIn.inRound l (callsIn_wide.2 (write_byteK _ _ pre y _ H1.out (by omega) H2.out.size))).mono ?_)
  rintro e w2 ⟨rfl, hb2, hB2, hk2⟩
  have hz2 : W.heap.size ≤ w2.heap.size := hB2.size
  have K2 := Lib.hid (show Blk w2 (r + 1) 9 #[.string (bs s)] from hk2 (r + 1) _ h4 (by omega) fun cs fz e => by injection e with _ e; cases e)
  have hkp := Lib.hid (show KpB (r + 1) W w2 from ⟨hz2, fun _ => K2.out.trans h4.symm⟩)
  replace hb2 := Lib.hid hb2
  have HB2 := Lib.hid (H2.out.trans hB2)
  have hKO := Lib.hid (hk2.others hbb hz2)
  replace hk2 := Lib.hid hk2
  clear H1 H2 hB2
  clear h4 hk2
  gi_wp2_with fail
  exact ⟨hKO.out, hkp.out, ⟨hb2.out, HB2.out, K2.out⟩, by rw [List.length_append]; simpa using hpre⟩
theorem common_is : ∀ (a b : Bytes) (k : Nat), a.take k = b.take k → k ≤ a.length → k ≤ b.length → (k = a.length ∨ k = b.length ∨ a.getD k 0 ≠ b.getD k 0) → commonP a b = k
 | [], b, k, _, h1, _, _ => by simp at h1; subst h1; simp [commonP]
 | _ :: _, [], k, _, _, h1, _ => by simp at h1; subst h1; simp [commonP]
 | a :: x, b :: y, 0, _, _, _, h => by
  rw [commonP, if_neg]
  rcases h with h | h | h
  ·simp at h
  ·simp at h
  ·simpa using h
 | a :: x, b :: y, k + 1, h, h1, h2, h3 => by
  simp only [List.take_succ_cons, List.cons.injEq] at h
  rw [commonP, if_pos h.1, common_is x y k h.2 (by simpa using h1) (by simpa using h2) (by simpa using h3)]
set_option maxRecDepth 100000 in
set_option maxHeartbeats 4000000 in
theorem common_calls (a b : Bytes) (ha : a.length ≤ 1000000000) (hb : b.length ≤ 1000000000) (w : World) : Calls Tryz.prog 70 #[.string (bs a), .string (bs b)] w (Ret w (.int .i64 (commonP a b : Nat))) := by
 obtain ⟨m, hm⟩ : ∃ m, min a.length b.length = m := ⟨_, rfl⟩
 have e3 : min (a.length : Int) (b.length : Int) = (m : Int) := by omega
 have hci := common_is a b
 have HM := Lib.hid hm
 replace hci := Lib.hid hci
 clear hm
 go_enter Tryz.func70, Tryz.ntmps70
 go_wp2_with fail
 go_loopw [13] (fun i wr => ∃ k : Nat, k ≤ m ∧ i = .int .i64 k ∧ a.take k = b.take k ∧ Below w.heap.size w wr) (fun i _ => (m - intOf i).toNat)
 case atStart => exact ⟨0, by omega, rfl, by simp, Below.refl _ _⟩
 case round =>
  obtain ⟨k, hk, rfl, hab, HB⟩ := hrel
  have hka : k ≤ a.length := by have := HM.out; omega
  have hkb : k ≤ b.length := by have := HM.out; omega
  by_cases hlt : k < m
  ·have hxa := fun W => index_bs a k (by have := HM.out; omega) (by omega) W
   have hxb := fun W => index_bs b k (by have := HM.out; omega) (by omega) W
   have hta : a[k]? = some (a.getD k 0) := by rw [List.getD, List.getElem?_eq_getElem (by have := HM.out; omega)]; rfl
   have htb : b[k]? = some (b.getD k 0) := by rw [List.getD, List.getElem?_eq_getElem (by have := HM.out; omega)]; rfl
   have ta := take_one hta
   have tb := take_one htb
   have hne := fun h => hci.out k hab hka hkb (.inr (.inr h))
   clear hta htb
   generalize a.getD k 0 = x at *
   generalize b.getD k 0 = y at *
   replace hab := Lib.hid hab
   replace ta := Lib.hid ta
   replace tb := Lib.hid tb
   replace HB := Lib.hid HB
   by_cases hxy : x = y
   ·subst hxy
    clear hne hci
    have hbe : ((x.toNat : Int) != (x.toNat : Int)) = false := by simp
    go_wp2_with fail
    (refine wp_region_later (by kernel_rfl) (by kernel_rfl) ?_; (repeat (go_big_quiet_step (fail))); refine wpQuiet_nil ?_; intro w' hB)
    have HB2 := Lib.hid (HB.out.trans (hB.mono HB.out.size))
    clear hB HB
    go_wp2_with fail
    go_roundw
    case rel => exact ⟨k + 1, by omega, by go_num, by rw [ta.out, tb.out, hab.out], HB2.out⟩
    case measure => simp [intOf]; omega
   ·have hcm := hne hxy
    have hbe : ((x.toNat : Int) != (y.toNat : Int)) = true := by
     rw [bne_iff_ne]
     intro e
     exact hxy (UInt8.toNat_inj.1 (by omega))
    have hbe2 : ¬ (x.toNat : Int) = (y.toNat : Int) := fun e => hxy (UInt8.toNat_inj.1 (by omega))
    replace hcm := Lib.hid hcm
    clear hne hci
    go_wp2_with fail
    (refine wp_region_later (by kernel_rfl) (by kernel_rfl) ?_; (repeat (go_big_quiet_step (fail))); refine wpQuiet_nil ?_; intro w' hB)
    go_wp2_with fail
    go_ret
    exact ⟨by rw [hcm.out]; rfl, HB.out.trans (hB.mono HB.out.size)⟩
  ·obtain rfl : k = m := by omega
   have hcm := hci.out k hab hka hkb (by have := HM.out; omega)
   replace hcm := Lib.hid hcm
   clear hci
   go_wp2_with fail
   go_ret
   exact ⟨by rw [hcm.out]; rfl, HB⟩
end Go.Proofs.YthhlbdgladhdkaaGreatDoor
end
section
namespace Go.Proofs.YthhlbdgladhdkaaGreatDoor
open BigFrame Go.RowKit Go.Phx Go.Shelf
attribute [local go_sem] Oper.semAt_some

def nibS : List UInt8 := [0, 1, 2, 3, 4, 5, 6, 7, 8, 9, 10, 11, 12, 13, 14, 15]
theorem nib_in (h : UInt8) (hh : h.toNat < 16) : nibS.contains h = true := by
 have : ∀ n : Nat, n < 16 → nibS.contains (UInt8.ofNat n) = true := by decide
 have e : UInt8.ofNat h.toNat = h := by simp
 rw [← e]
 exact this _ hh
theorem dropWhile_all {α : Type} {p : α → Bool} : ∀ (l : List α), (∀ x ∈ l, p x = true) → l.dropWhile p = []
 | [], _ => rfl
 | x :: r, h => by rw [List.dropWhile_cons, if_pos (h x List.mem_cons_self)]; exact dropWhile_all r fun y hy => h y (List.mem_cons_of_mem _ hy)
theorem trim_nib (p : Bytes) (hp : NibP p) (hl : p.length ≤ 1000000000) (w : World) : Calls Tryz.prog 92 #[.string (bs p), .string ⟨#[0, 1, 2, 3, 4, 5, 6, 7, 8, 9, 10, 11, 12, 13, 14, 15]⟩] w (Ret w (.string ⟨#[]⟩)) := by
 have := Any.strings_Trim_laid Tryz.lays160 (by kernel_rfl) (bs p) ⟨#[0, 1, 2, 3, 4, 5, 6, 7, 8, 9, 10, 11, 12, 13, 14, 15]⟩ w (by rw [bs_size]; omega) (by decide) (ascii_of_all (by decide))
 refine this.mono ?_
 rintro e w' ⟨rfl, hB⟩
 refine ⟨?_, hB⟩
 have h1 : Lib.trimRightS p nibS = [] := by
  unfold Lib.trimRightS
  rw [dropWhile_all p.reverse fun x hx => nib_in x (hp x (List.mem_reverse.1 hx))]
  rfl
 show Ending.returned (.string ⟨(Lib.trimS p nibS).toArray⟩) = _
 unfold Lib.trimS
 rw [h1]
 rfl
theorem twoP_take : ∀ (R : Bytes) (k : Nat), 2 * k + 1 < R.length → twoP (R.take (2 * (k + 1))) = twoP (R.take (2 * k)) ++ [UInt8.ofNat (16 * (R.getD (2 * k) 0).toNat + (R.getD (2 * k + 1) 0).toNat)]
 | [], k, h => by simp at h
 | [_], k, h => by simp at h
 | a :: b :: r, 0, h => rfl
 | a :: b :: r, k + 1, h => by
  have := twoP_take r k (by simp at h; omega)
  rw [show 2 * (k + 1 + 1) = 2 * (k + 1) + 1 + 1 by omega, show 2 * (k + 1) = 2 * k + 1 + 1 by omega]
  simp only [List.take_succ_cons, List.getD_cons_succ, twoP]
  rw [show 2 * k + 1 + 1 = 2 * (k + 1) by omega, this]
  rfl
theorem twoP_len : ∀ (R : Bytes), (twoP R).length = R.length / 2
 | [] => rfl
 | [_] => by simp [twoP]
 | a :: b :: r => by rw [twoP, List.length_cons, twoP_len r]; simp; omega
theorem nib_getD {p : Bytes} (hp : NibP p) (j : Nat) : (p.getD j 0).toNat < 16 := by
 rw [List.getD]
 rcases h : p[j]? with _ | x
 ·decide
 ·exact hp x (List.mem_of_getElem? h)
theorem or_nib : ∀ a : Nat, a < 16 → ∀ b : Nat, b < 16 → bits .or .u8 ((a : Int) * 16) (b : Int) = ((16 * a + b : Nat) : Int) := by decide +kernel
def formK (c : UInt8) (R : Bytes) (h k : Nat) : Bytes := c :: (twoP (R.take (2 * k)) ++ List.replicate (h - k) 0)
theorem formK_len (c : UInt8) (R : Bytes) (h k : Nat) (hR : R.length = 2 * h) (hk : k ≤ h) : (formK c R h k).length = h + 1 := by
 simp [formK, twoP_len]
 omega
theorem formK_succ (c : UInt8) (R : Bytes) (h k : Nat) (hR : R.length = 2 * h) (hk : k < h) : formK c R h (k + 1) = (formK c R h k).set (1 + k) (UInt8.ofNat (16 * (R.getD (2 * k) 0).toNat + (R.getD (2 * k + 1) 0).toNat)) := by
 unfold formK
 rw [twoP_take R k (by omega), Nat.add_comm 1 k, List.set_cons_succ, List.set_append_right _ _ (by rw [twoP_len, List.length_take]; omega)]
 congr 1
 rw [twoP_len, List.length_take, show k - min (2 * k) R.length / 2 = 0 by omega, show h - k = (h - (k + 1)) + 1 by omega, List.replicate_succ, List.set_cons_zero, List.append_assoc]
 rfl
theorem formK_all (c : UInt8) (R : Bytes) (h : Nat) (hR : R.length = 2 * h) : formK c R h h = c :: twoP R := by
 unfold formK
 rw [Nat.sub_self, List.take_of_length_le (by omega)]
 simp
def bcs (B : Bytes) : Array Value := (B.map bv).toArray
theorem bcs_get {B : Bytes} {i : Nat} (h : i < B.length) : (bcs B)[i]? = some (.int .u8 ((B.getD i 0).toNat : Int)) := by
 unfold bcs
 simp [List.getElem?_eq_getElem h, List.getD, bv]
theorem bcs_set (B : Bytes) (i : Nat) (x : UInt8) : (bcs B).setIfInBounds i (.int .u8 (x.toNat : Int)) = bcs (B.set i x) := by
 unfold bcs
 rw [List.setIfInBounds_toArray, List.map_set]
 rfl
theorem mk_form (n : Nat) (hn : n ≤ 1000001) (w : World) : ∃ w1, (Instr.makeSlice 42 (.int .i64 n) (.int .i64 n)).run Tryz.prog w = .ok (.slice (some ⟨w.heap.size, 0, none⟩) n n) w1 ∧ Blk w1 w.heap.size 5 (bcs (List.replicate n 0)) ∧ Below w.heap.size w w1 := by
 obtain ⟨i0, hi, hz0, hz1, hz2⟩ := info_parts infoU8b
 obtain ⟨w1, hmk, hown, hgr⟩ := run_make_full (P := Tryz.prog) w w.heap.size 42 5 i0 (.int .u8 0) 1 Tryz.underlying42 hi hz0 hz1 .i64 .i64 n (by rw [hz2]; omega) (by unfold maxLen; omega) (Nat.le_refl _)
 have hcs : (madeCells (Value.int .u8 0).cells (n * 1)).toList = (List.replicate n (0 : UInt8)).map bv := by
  rw [show (Value.int IntKind.u8 0).cells = #[Value.int .u8 0] from rfl, Nat.mul_one, toList_madeCells_one, List.map_replicate]
  rfl
 rw [hcs] at hown
 obtain ⟨hl, ⟨hh, _⟩ | ⟨g, cap, cur, hv, _, hb, _, _, hcz, htk⟩⟩ := hown
 ·cases hh
 simp only [Value.slice.injEq, Option.some.injEq, Addr.mk.injEq, true_and, and_true] at hv
 obtain ⟨rfl, hc⟩ := hv
 have hcn : cap = n := hc.symm
 subst hcn
 have he : cur = bcs (List.replicate cap 0) := by
  rw [List.take_of_length_le (by simp; omega)] at htk
  unfold bcs
  rw [← htk]
 rw [he] at hb
 exact ⟨w1, hmk, hb, (Below.refl w.heap.size w).grown hgr (Nat.le_refl _) (fun k e => by cases e)⟩
theorem or_low : ∀ a : Nat, a < 16 → bits .or .u8 16 (a : Int) = ((16 * 1 + a : Nat) : Int) ∧ bits .or .u8 48 (a : Int) = ((16 * 3 + a : Nat) : Int) := by decide +kernel
theorem form_even (p : Bytes) (f : Bool) (h : p.length % 2 = 0) : formP p f = UInt8.ofNat (16 * markP f) :: twoP p := by unfold formP; rw [h]; rfl
theorem form_odd (a : UInt8) (r : Bytes) (f : Bool) (h : r.length % 2 = 0) : formP (a :: r) f = UInt8.ofNat (16 * (markP f + 1) + a.toNat) :: twoP r := by unfold formP; rw [show (a :: r).length % 2 = 1 by simp; omega]; rfl
theorem bcs_zero (c : UInt8) (R : Bytes) (h : Nat) (v : Value) (hv : v = .int .u8 (c.toNat : Int)) : (bcs (List.replicate (h + 1) 0)).setIfInBounds 0 v = bcs (formK c R h 0) := by
 rw [hv, bcs_set]
 rfl
theorem bcs_head (b c : UInt8) (R : Bytes) (h : Nat) : (bcs (formK b R h 0)).setIfInBounds 0 (.int .u8 (c.toNat : Int)) = bcs (formK c R h 0) := by
 rw [bcs_set]
 rfl
end Go.Proofs.YthhlbdgladhdkaaGreatDoor
end
section
namespace Go.Proofs.YthhlbdgladhdkaaGreatDoor
open BigFrame Go.RowKit Go.Phx Go.Shelf
attribute [local go_sem] Oper.semAt_some

set_option maxRecDepth 100000 in
set_option maxHeartbeats 16000000 in
theorem form_even_calls (p : Bytes) (f : Bool) (hp : NibP p) (hl : p.length ≤ 1000000) (h2 : p.length % 2 = 0) (w : World) : Calls Tryz.prog 69 #[.string (bs p), .bool f] w (Ret w (.tuple #[.string (bs (formP p f)), .int .i64 0])) := by
 have n1 := Lib.hid (trim_nib p hp (by omega) w)
 obtain ⟨h, hh⟩ : ∃ h, p.length / 2 = h := ⟨_, rfl⟩
 have e1 : (p.length : Int) % 2 = 0 := by omega
 have e2 : (p.length : Int) / 2 = (h : Int) := by omega
 have hRl : p.length = 2 * h := by omega
 have hRn := Lib.hid (show ∀ j, (p.getD j 0).toNat < 16 from fun j => nib_getD hp j)
 have hix := Lib.hid (fun j (hj : j < p.length) W => index_bs p j hj (by omega) W)
 replace hRl := Lib.hid hRl
 clear hh
 rw [form_even p f h2]
 obtain ⟨c, hc⟩ : ∃ c, UInt8.ofNat (16 * markP f) = c := ⟨_, rfl⟩
 rw [hc]
 replace hc := Lib.hid hc
 go_enter Tryz.func69, Tryz.ntmps69
 go_wp2_with fail
 refine n1.out.mono ?_
 rintro e w1 ⟨rfl, HB⟩
 obtain ⟨w2, hmk, K0, hB2⟩ := mk_form (h + 1) (by omega) w1
 simp only [Int.natCast_add, Int.natCast_one] at hmk
 replace K0 := Lib.hid K0
 have hs1 := Lib.hid HB.size
 replace HB := Lib.hid (HB.trans (hB2.mono HB.size))
 clear hB2
 (obtain ⟨k0, f0, l0, m0⟩ := K0.out.rl)
 have g0 : (bcs (List.replicate (h + 1) 0))[0]? = some (.int .u8 0) := bcs_get (by simp)
 cases f with
 | true =>
  have hz := Lib.hid (bcs_zero c p h (.int .u8 32) (by rw [← hc.out]; rfl))
  go_wp2_with fail
  have K1 := K0.out.set_ 0 (.int .u8 32)
  rw [hz.out] at K1
  replace K1 := Lib.hid K1
  have HB1 := Lib.hid (show Below w.heap.size w (w2.setCell ⟨w1.heap.size, 0, none⟩ (Value.int .u8 32)) from HB.out.setCell hs1.out _)
  simp only [e1]
  clear e1
  go_loopw [9] (fun i wr => ∃ k : Nat, k ≤ h ∧ i = .int .i64 ((2 * k : Nat) : Int) ∧ Blk wr w1.heap.size 5 (bcs (formK c p h k)) ∧ Below w.heap.size w wr) (fun i _ => (p.length - intOf i).toNat)
  case atStart => exact ⟨0, Nat.zero_le _, rfl, K1.out, HB1.out⟩
  case round =>
   clear k0 f0 l0 m0 K0 HB K1 HB1 hz g0 hmk n1
   obtain ⟨k, hk, rfl, K0, HB⟩ := hrel
   have hRl := hRl.out
   by_cases hlt : k < h
   ·have x1 := hix.out (2 * k) (by omega)
    have x2 := hix.out (2 * k + 1) (by omega)
    have hor := or_nib _ (hRn.out (2 * k)) _ (hRn.out (2 * k + 1))
    have hset := formK_succ c p h k hRl hlt
    have hln := formK_len c p h k hRl (by omega)
    have hset2 := bcs_set (formK c p h k) (1 + k) (UInt8.ofNat (16 * (p.getD (2 * k) 0).toNat + (p.getD (2 * k + 1) 0).toNat))
    rw [← hset] at hset2
    have hn1 := hRn.out (2 * k)
    have hn2 := hRn.out (2 * k + 1)
    rw [show (((UInt8.ofNat (16 * (p.getD (2 * k) 0).toNat + (p.getD (2 * k + 1) 0).toNat)).toNat : Nat) : Int) = ((16 * (p.getD (2 * k) 0).toNat + (p.getD (2 * k + 1) 0).toNat : Nat) : Int) by rw [UInt8.toNat_ofNat']; omega, ← hor] at hset2
    have g1 := bcs_get (B := formK c p h k) (i := 1 + k) (by omega)
    generalize (formK c p h k).getD (1 + k) 0 = old at *
    generalize bcs (formK c p h k) = C at *
    generalize p.getD (2 * k) 0 = x at *
    generalize p.getD (2 * k + 1) 0 = y at *
    have b1 : (2 : Int) * k < p.length := by omega
    push_cast at x1 x2
    have b4 : (0 : Int) ≤ 2 * k := by omega
    have b5 : (0 : Int) ≤ 2 * k + 1 := by omega
    have b6 : (2 : Int) * k + 1 < p.length := by omega
    have b2 : (2 : Int) * k / 2 = k := by omega
    clear hset hln hor
    replace hset2 := Lib.hid hset2
    replace hRl := Lib.hid hRl
    replace K0 := Lib.hid K0
    replace HB := Lib.hid HB
    (obtain ⟨k0, f0, l0, m0⟩ := K0.out.rl)
    go_wp2_with fail
    go_region
    go_wp2_with fail
    go_roundw
    case rel => exact ⟨k + 1, by omega, by go_num, by rw [← hset2.out]; exact (K0.out.set_ _ _).drew, (HB.out.setCell hs1.out _).drew⟩
    case measure => simp [intOf]; omega
   ·obtain rfl : k = h := by omega
    rw [formK_all c p k hRl] at K0
    have hcv := fun c' => conv_row _ w1.heap.size _ _ (k + 1) c' K0 (by rw [List.length_cons, twoP_len, hRl]; omega)
    have b1 : ¬ (2 : Int) * k < p.length := by omega
    replace hRl := Lib.hid hRl
    replace K0 := Lib.hid K0
    replace HB := Lib.hid HB
    go_wp2_with fail
    go_ret2
    exact ⟨rfl, HB.out⟩
 | false =>
  have hz := Lib.hid (bcs_zero c p h (.int .u8 0) (by rw [← hc.out]; rfl))
  go_wp2_with fail
  have K1 := K0.out.set_ 0 (.int .u8 0)
  rw [hz.out] at K1
  replace K1 := Lib.hid K1
  have HB1 := Lib.hid (show Below w.heap.size w (w2.setCell ⟨w1.heap.size, 0, none⟩ (Value.int .u8 0)) from HB.out.setCell hs1.out _)
  simp only [e1]
  clear e1
  go_loopw [9] (fun i wr => ∃ k : Nat, k ≤ h ∧ i = .int .i64 ((2 * k : Nat) : Int) ∧ Blk wr w1.heap.size 5 (bcs (formK c p h k)) ∧ Below w.heap.size w wr) (fun i _ => (p.length - intOf i).toNat)
  case atStart => exact ⟨0, Nat.zero_le _, rfl, K1.out, HB1.out⟩
  case round =>
   clear k0 f0 l0 m0 K0 HB K1 HB1 hz g0 hmk n1
   obtain ⟨k, hk, rfl, K0, HB⟩ := hrel
   have hRl := hRl.out
   by_cases hlt : k < h
   ·have x1 := hix.out (2 * k) (by omega)
    have x2 := hix.out (2 * k + 1) (by omega)
    have hor := or_nib _ (hRn.out (2 * k)) _ (hRn.out (2 * k + 1))
    have hset := formK_succ c p h k hRl hlt
    have hln := formK_len c p h k hRl (by omega)
    have hset2 := bcs_set (formK c p h k) (1 + k) (UInt8.ofNat (16 * (p.getD (2 * k) 0).toNat + (p.getD (2 * k + 1) 0).toNat))
    rw [← hset] at hset2
    have hn1 := hRn.out (2 * k)
    have hn2 := hRn.out (2 * k + 1)
    rw [show (((UInt8.ofNat (16 * (p.getD (2 * k) 0).toNat + (p.getD (2 * k + 1) 0).toNat)).toNat : Nat) : Int) = ((16 * (p.getD (2 * k) 0).toNat + (p.getD (2 * k + 1) 0).toNat : Nat) : Int) by rw [UInt8.toNat_ofNat']; omega, ← hor] at hset2
    have g1 := bcs_get (B := formK c p h k) (i := 1 + k) (by omega)
    generalize (formK c p h k).getD (1 + k) 0 = old at *
    generalize bcs (formK c p h k) = C at *
    generalize p.getD (2 * k) 0 = x at *
    generalize p.getD (2 * k + 1) 0 = y at *
    have b1 : (2 : Int) * k < p.length := by omega
    push_cast at x1 x2
    have b4 : (0 : Int) ≤ 2 * k := by omega
    have b5 : (0 : Int) ≤ 2 * k + 1 := by omega
    have b6 : (2 : Int) * k + 1 < p.length := by omega
    have b2 : (2 : Int) * k / 2 = k := by omega
    clear hset hln hor
    replace hset2 := Lib.hid hset2
    replace hRl := Lib.hid hRl
    replace K0 := Lib.hid K0
    replace HB := Lib.hid HB
    (obtain ⟨k0, f0, l0, m0⟩ := K0.out.rl)
    go_wp2_with fail
    go_region
    go_wp2_with fail
    go_roundw
    case rel => exact ⟨k + 1, by omega, by go_num, by rw [← hset2.out]; exact (K0.out.set_ _ _).drew, (HB.out.setCell hs1.out _).drew⟩
    case measure => simp [intOf]; omega
   ·obtain rfl : k = h := by omega
    rw [formK_all c p k hRl] at K0
    have hcv := fun c' => conv_row _ w1.heap.size _ _ (k + 1) c' K0 (by rw [List.length_cons, twoP_len, hRl]; omega)
    have b1 : ¬ (2 : Int) * k < p.length := by omega
    replace hRl := Lib.hid hRl
    replace K0 := Lib.hid K0
    replace HB := Lib.hid HB
    go_wp2_with fail
    go_ret2
    exact ⟨rfl, HB.out⟩
set_option maxRecDepth 100000 in
set_option maxHeartbeats 16000000 in
theorem form_odd_calls (p : Bytes) (a : UInt8) (R : Bytes) (hpe : p = a :: R) (f : Bool) (hp : NibP p) (hl : p.length ≤ 1000000) (h2 : R.length % 2 = 0) (w : World) : Calls Tryz.prog 69 #[.string (bs p), .bool f] w (Ret w (.tuple #[.string (bs (formP p f)), .int .i64 0])) := by
 have n1 := Lib.hid (trim_nib p hp (by omega) w)
 have hpl : p.length = R.length + 1 := by rw [hpe]; rfl
 obtain ⟨h, hh⟩ : ∃ h, R.length / 2 = h := ⟨_, rfl⟩
 have e1 : (p.length : Int) % 2 = 1 := by omega
 have e2 : (p.length : Int) / 2 = (h : Int) := by omega
 have hRl : R.length = 2 * h := by omega
 have hpg := Lib.hid (show ∀ j, p.getD (1 + j) 0 = R.getD j 0 from fun j => by rw [hpe, Nat.add_comm]; rfl)
 have hRn := Lib.hid (show ∀ j, (R.getD j 0).toNat < 16 from fun j => by rw [← hpg.out]; exact nib_getD hp _)
 have hix := Lib.hid (fun j (hj : j < p.length) W => index_bs p j hj (by omega) W)
 have x0 := hix.out 0 (by omega)
 have ha : p.getD 0 0 = a := by rw [hpe]; rfl
 have hb0 : (0 : Int) < p.length := by omega
 have ha2 : a.toNat < 16 := by rw [← ha]; exact nib_getD hp 0
 have ho := or_low a.toNat ha2
 rw [ha] at x0
 clear ha
 simp only [Int.natCast_zero] at x0
 have hfo : formP p f = UInt8.ofNat (16 * (markP f + 1) + a.toNat) :: twoP R := by rw [hpe]; exact form_odd a R f h2
 rw [hfo]
 obtain ⟨c, hc⟩ : ∃ c, UInt8.ofNat (16 * (markP f + 1) + a.toNat) = c := ⟨_, rfl⟩
 rw [hc]
 replace hc := Lib.hid hc
 replace hRl := Lib.hid hRl
 replace hpl := Lib.hid hpl
 clear hh hfo hpe
 go_enter Tryz.func69, Tryz.ntmps69
 go_wp2_with fail
 refine n1.out.mono ?_
 rintro e w1 ⟨rfl, HB⟩
 obtain ⟨w2, hmk, K0, hB2⟩ := mk_form (h + 1) (by have := hpl.out; have := hRl.out; omega) w1
 simp only [Int.natCast_add, Int.natCast_one] at hmk
 replace K0 := Lib.hid K0
 have hs1 := Lib.hid HB.size
 replace HB := Lib.hid (HB.trans (hB2.mono HB.size))
 clear hB2
 (obtain ⟨k0, f0, l0, m0⟩ := K0.out.rl)
 have g0 : (bcs (List.replicate (h + 1) 0))[0]? = some (.int .u8 0) := bcs_get (by simp)
 cases f with
 | true =>
  have hz := Lib.hid (bcs_zero 48 R h (.int .u8 48) rfl)
  have g2 : (bcs (formK 48 R h 0))[0]? = some (.int .u8 48) := rfl
  have hz2 := bcs_head 48 c R h
  rw [show ((c.toNat : Nat) : Int) = bits .or .u8 48 (a.toNat : Int) by rw [ho.2, ← hc.out, UInt8.toNat_ofNat']; simp [markP]; omega] at hz2
  replace hz2 := Lib.hid hz2
  replace ho := Lib.hid ho
  go_wp2_with fail
  have K1 := K0.out.set_ 0 (.int .u8 48)
  rw [hz.out] at K1
  have HB1 := Lib.hid (show Below w.heap.size w (w2.setCell ⟨w1.heap.size, 0, none⟩ (Value.int .u8 48)) from HB.out.setCell hs1.out _)
  clear k0 f0 l0 m0 K0 HB hmk g0 hz
  generalize w2.setCell ⟨w1.heap.size, 0, none⟩ (Value.int .u8 48) = w3 at *
  have K0 := Lib.hid K1
  clear K1
  (obtain ⟨k0, f0, l0, m0⟩ := K0.out.rl)
  go_region
  go_wp2_with fail
  simp only [e1]
  clear e1
  go_loopw [9] (fun i wr => ∃ k : Nat, k ≤ h ∧ i = .int .i64 ((1 + 2 * k : Nat) : Int) ∧ Blk wr w1.heap.size 5 (bcs (formK c R h k)) ∧ Below w.heap.size w wr) (fun i _ => (p.length - intOf i).toNat)
  case atStart => exact ⟨0, Nat.zero_le _, rfl, by rw [← hz2.out]; exact (K0.out.set_ _ _).drew, (HB1.out.setCell hs1.out _).drew⟩
  case round =>
   clear k0 f0 l0 m0 K0 HB1 n1 ho hz2 g2 x0 hb0
   obtain ⟨k, hk, rfl, K0, HB⟩ := hrel
   have hRl := hRl.out
   have hpl := hpl.out
   by_cases hlt : k < h
   ·have x1 := hix.out (1 + 2 * k) (by omega)
    have x2 := hix.out (1 + (2 * k + 1)) (by omega)
    have hor := or_nib _ (hRn.out (2 * k)) _ (hRn.out (2 * k + 1))
    rw [hpg.out] at x1 x2
    have hset := formK_succ c R h k hRl hlt
    have hln := formK_len c R h k hRl (by omega)
    have hset2 := bcs_set (formK c R h k) (1 + k) (UInt8.ofNat (16 * (R.getD (2 * k) 0).toNat + (R.getD (2 * k + 1) 0).toNat))
    rw [← hset] at hset2
    have hn1 := hRn.out (2 * k)
    have hn2 := hRn.out (2 * k + 1)
    rw [show (((UInt8.ofNat (16 * (R.getD (2 * k) 0).toNat + (R.getD (2 * k + 1) 0).toNat)).toNat : Nat) : Int) = ((16 * (R.getD (2 * k) 0).toNat + (R.getD (2 * k + 1) 0).toNat : Nat) : Int) by rw [UInt8.toNat_ofNat']; omega, ← hor] at hset2
    have g1 := bcs_get (B := formK c R h k) (i := 1 + k) (by omega)
    generalize (formK c R h k).getD (1 + k) 0 = old at *
    generalize bcs (formK c R h k) = C at *
    generalize R.getD (2 * k) 0 = x at *
    generalize R.getD (2 * k + 1) 0 = y at *
    have b1 : (1 : Int) + 2 * k < p.length := by omega
    have b2 : ((1 : Int) + 2 * k) / 2 = k := by omega
    push_cast at x1 x2
    rw [show (1 : Int) + (2 * (k : Int) + 1) = 1 + 2 * k + 1 by omega] at x2
    have b4 : (0 : Int) ≤ 1 + 2 * k := by omega
    have b5 : (0 : Int) ≤ 1 + 2 * k + 1 := by omega
    have b6 : (1 : Int) + 2 * k + 1 < p.length := by omega
    clear hset hln hor
    replace hset2 := Lib.hid hset2
    replace hRl := Lib.hid hRl
    replace hpl := Lib.hid hpl
    replace K0 := Lib.hid K0
    replace HB := Lib.hid HB
    (obtain ⟨k0, f0, l0, m0⟩ := K0.out.rl)
    go_wp2_with fail
    go_region
    go_wp2_with fail
    go_roundw
    case rel => exact ⟨k + 1, by omega, by go_num, by rw [← hset2.out]; exact (K0.out.set_ _ _).drew, (HB.out.setCell hs1.out _).drew⟩
    case measure => simp [intOf]; omega
   ·obtain rfl : k = h := by omega
    rw [formK_all c R k hRl] at K0
    have hcv := fun c' => conv_row _ w1.heap.size _ _ (k + 1) c' K0 (by rw [List.length_cons, twoP_len, hRl]; omega)
    have b1 : ¬ (1 : Int) + 2 * k < p.length := by omega
    replace hRl := Lib.hid hRl
    replace hpl := Lib.hid hpl
    replace K0 := Lib.hid K0
    replace HB := Lib.hid HB
    go_wp2_with fail
    go_ret2
    exact ⟨rfl, HB.out⟩
 | false =>
  have hz := Lib.hid (bcs_zero 16 R h (.int .u8 16) rfl)
  have g2 : (bcs (formK 16 R h 0))[0]? = some (.int .u8 16) := rfl
  have hz2 := bcs_head 16 c R h
  rw [show ((c.toNat : Nat) : Int) = bits .or .u8 16 (a.toNat : Int) by rw [ho.1, ← hc.out, UInt8.toNat_ofNat']; simp [markP]; omega] at hz2
  replace hz2 := Lib.hid hz2
  replace ho := Lib.hid ho
  go_wp2_with fail
  have K1 := K0.out.set_ 0 (.int .u8 16)
  rw [hz.out] at K1
  have HB1 := Lib.hid (show Below w.heap.size w (w2.setCell ⟨w1.heap.size, 0, none⟩ (Value.int .u8 16)) from HB.out.setCell hs1.out _)
  clear k0 f0 l0 m0 K0 HB hmk g0 hz
  generalize w2.setCell ⟨w1.heap.size, 0, none⟩ (Value.int .u8 16) = w3 at *
  have K0 := Lib.hid K1
  clear K1
  (obtain ⟨k0, f0, l0, m0⟩ := K0.out.rl)
  go_region
  go_wp2_with fail
  simp only [e1]
  clear e1
  go_loopw [9] (fun i wr => ∃ k : Nat, k ≤ h ∧ i = .int .i64 ((1 + 2 * k : Nat) : Int) ∧ Blk wr w1.heap.size 5 (bcs (formK c R h k)) ∧ Below w.heap.size w wr) (fun i _ => (p.length - intOf i).toNat)
  case atStart => exact ⟨0, Nat.zero_le _, rfl, by rw [← hz2.out]; exact (K0.out.set_ _ _).drew, (HB1.out.setCell hs1.out _).drew⟩
  case round =>
   clear k0 f0 l0 m0 K0 HB1 n1 ho hz2 g2 x0 hb0
   obtain ⟨k, hk, rfl, K0, HB⟩ := hrel
   have hRl := hRl.out
   have hpl := hpl.out
   by_cases hlt : k < h
   ·have x1 := hix.out (1 + 2 * k) (by omega)
    have x2 := hix.out (1 + (2 * k + 1)) (by omega)
    have hor := or_nib _ (hRn.out (2 * k)) _ (hRn.out (2 * k + 1))
    rw [hpg.out] at x1 x2
    have hset := formK_succ c R h k hRl hlt
    have hln := formK_len c R h k hRl (by omega)
    have hset2 := bcs_set (formK c R h k) (1 + k) (UInt8.ofNat (16 * (R.getD (2 * k) 0).toNat + (R.getD (2 * k + 1) 0).toNat))
    rw [← hset] at hset2
    have hn1 := hRn.out (2 * k)
    have hn2 := hRn.out (2 * k + 1)
    rw [show (((UInt8.ofNat (16 * (R.getD (2 * k) 0).toNat + (R.getD (2 * k + 1) 0).toNat)).toNat : Nat) : Int) = ((16 * (R.getD (2 * k) 0).toNat + (R.getD (2 * k + 1) 0).toNat : Nat) : Int) by rw [UInt8.toNat_ofNat']; omega, ← hor] at hset2
    have g1 := bcs_get (B := formK c R h k) (i := 1 + k) (by omega)
    generalize (formK c R h k).getD (1 + k) 0 = old at *
    generalize bcs (formK c R h k) = C at *
    generalize R.getD (2 * k) 0 = x at *
    generalize R.getD (2 * k + 1) 0 = y at *
    have b1 : (1 : Int) + 2 * k < p.length := by omega
    have b2 : ((1 : Int) + 2 * k) / 2 = k := by omega
    push_cast at x1 x2
    rw [show (1 : Int) + (2 * (k : Int) + 1) = 1 + 2 * k + 1 by omega] at x2
    have b4 : (0 : Int) ≤ 1 + 2 * k := by omega
    have b5 : (0 : Int) ≤ 1 + 2 * k + 1 := by omega
    have b6 : (1 : Int) + 2 * k + 1 < p.length := by omega
    clear hset hln hor
    replace hset2 := Lib.hid hset2
    replace hRl := Lib.hid hRl
    replace hpl := Lib.hid hpl
    replace K0 := Lib.hid K0
    replace HB := Lib.hid HB
    (obtain ⟨k0, f0, l0, m0⟩ := K0.out.rl)
    go_wp2_with fail
    go_region
    go_wp2_with fail
    go_roundw
    case rel => exact ⟨k + 1, by omega, by go_num, by rw [← hset2.out]; exact (K0.out.set_ _ _).drew, (HB.out.setCell hs1.out _).drew⟩
    case measure => simp [intOf]; omega
   ·obtain rfl : k = h := by omega
    rw [formK_all c R k hRl] at K0
    have hcv := fun c' => conv_row _ w1.heap.size _ _ (k + 1) c' K0 (by rw [List.length_cons, twoP_len, hRl]; omega)
    have b1 : ¬ (1 : Int) + 2 * k < p.length := by omega
    replace hRl := Lib.hid hRl
    replace hpl := Lib.hid hpl
    replace K0 := Lib.hid K0
    replace HB := Lib.hid HB
    go_wp2_with fail
    go_ret2
    exact ⟨rfl, HB.out⟩
theorem form_calls (p : Bytes) (f : Bool) (hp : NibP p) (hl : p.length ≤ 1000000) (w : World) : Calls Tryz.prog 69 #[.string (bs p), .bool f] w (Ret w (.tuple #[.string (bs (formP p f)), .int .i64 0])) := by
 rcases Nat.mod_two_eq_zero_or_one p.length with h | h
 ·exact form_even_calls p f hp hl h w
 ·rcases hpe : p with _ | ⟨a, R⟩
  ·rw [hpe] at h; cases h
  rw [← hpe]
  exact form_odd_calls p a R hpe f hp hl (by rw [hpe] at h; simp at h; omega) w
end Go.Proofs.YthhlbdgladhdkaaGreatDoor
end
