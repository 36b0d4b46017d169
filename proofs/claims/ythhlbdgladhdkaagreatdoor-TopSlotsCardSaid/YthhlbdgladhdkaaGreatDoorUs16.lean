/- What the later texts stand on (Wlk, Wlk2, Par1): plain laws and walks, each by its own conditions. -/
import Derived.Test.YthhlbdgladhdkaaGreatDoorUs14
import Derived.Test.YthhlbdgladhdkaaGreatDoorUs15
import Derived.Deep.CutRange
set_option linter.unusedSimpArgs false
set_option linter.unusedVariables false
section
namespace Go.Proofs.YthhlbdgladhdkaaGreatDoor
open BigFrame Go.RowKit Go.Phx Go.Shelf
attribute [local go_sem] Oper.semAt_some

theorem _root_.Go.World.grownBy.far3 {w W : World} {row : Option Nat} {g i j k : Nat} {a c d : Value} (h : w.grownBy W row) (hg : w.heap.size ≤ g) : w.grownBy (((W.setCell ⟨g, i, none⟩ a).setCell ⟨g, j, none⟩ c).setCell ⟨g, k, none⟩ d) row :=
 ⟨h.os, h.tape, h.output, by simpa using h.size, fun b hb hn => by rw [Below.heap_setCell _ _ _ _ (by simp; omega), Below.heap_setCell _ _ _ _ (by simp; omega), Below.heap_setCell _ _ _ _ (by simp; omega)]; exact h.block b hb hn⟩
theorem txts_tail {w : World} {b o : Nat} {s : Bytes} {r : List Bytes} (h : Txts w (some ⟨b, o, none⟩) (s :: r)) : Txts w (some ⟨b, o + 1, none⟩) r := fun h0 => by
 obtain ⟨b', o', ha, hb, hc⟩ := h (by simp)
 injection ha with ha
 injection ha with e1 e2
 subst e1 e2
 refine ⟨b, o + 1, rfl, hb, fun i x hx => ?_⟩
 rw [show o + 1 + i = o + (i + 1) by omega]
 exact hc (i + 1) x (by simpa using hx)
set_option maxRecDepth 100000 in
set_option maxHeartbeats 16000000 in
theorem wnode_text (d : Nd) (hg : GoodN d) (b : Nat) (q vv : Bytes) (A : Option Addr) (c : Nat) (rest : List Bytes) (hc : rest.length + 1 ≤ c) (hr : rest.length ≤ 1000) (w : World)
  (hAb : ∀ a o, A = some ⟨a, o, none⟩ → a ≠ b) (KW : Blk w b 93 #[.string (bs q), .slice A (rest.length + 1) c, .string (bs vv)]) (T : Txts w A (bytesN kecc d :: rest)) (hT : HasT w) :
  Calls Tryz.prog 34 #[.pointer (some ⟨b, 0, none⟩), itV false (kecc (bytesN kecc d)) none 0 0] w (fun e w' => ∃ (v : Iv) (A' : Option Addr) (c' : Nat), e = .returned (.tuple #[v.val, .bool true]) ∧ RepS (fun j => w.heap.size ≤ j) w' (itemN kecc d) v ∧
   Blk w' b 93 #[.string (bs q), .slice A' rest.length c', .string (bs vv)] ∧ rest.length ≤ c' ∧ (∀ a o, A' = some ⟨a, o, none⟩ → ∃ o', A = some ⟨a, o', none⟩) ∧ Txts w' A' rest ∧ w.grownBy w' (some b)) := by
 obtain ⟨ab, ao, rfl, hab, e0⟩ := T.at 0 (by simp)
 have e0 : w.cell? ⟨ab, ao, none⟩ = some (.string (bs (bytesN kecc d))) := e0
 have htail := txts_tail T
 have habb : ab ≠ b := hAb ab ao rfl
 clear hAb
 have hle := node_le kecc kecc_len d hg
 have hdeep := (deep_node kecc kecc_len d hg).2.2
 have n2 := fun W => decode_calls (itemN kecc d) (by omega) (by omega) W
 have n3 := fun v W (R : Rep W (itemN kecc d) v) => isNode_good d hg v W R
 have n1 : ∀ W : World, Below w.heap.size w W → Calls Tryz.prog 5 #[.slice (some ⟨W.heap.size, 0, none⟩) 1 1] (W.alloc (.cells #[.string (bs (bytesN kecc d))] 9)) _ := fun W hB => ksum_calls (bytesN kecc d) (by unfold bytesN; omega) (some ⟨W.heap.size, 0, none⟩) 1 (Nat.le_refl _) (W.alloc (.cells #[.string (bs (bytesN kecc d))] 9)) (hT.below (hB.alloc hB.size _)) (new_txts W _)
 have hb9 : putI (itemN kecc d) = bytesN kecc d := rfl
 rw [hb9] at n2
 obtain ⟨s, hs⟩ : ∃ s, bytesN kecc d = s := ⟨_, rfl⟩
 rw [hs] at n1 n2 e0 ⊢
 obtain ⟨ks, hks⟩ : ∃ ks, kecc s = ks := ⟨_, rfl⟩
 rw [hks] at n1 ⊢
 obtain ⟨n, hn⟩ : ∃ n, rest.length = n := ⟨_, rfl⟩
 rw [hn] at hc hr KW ⊢
 obtain ⟨x, hx⟩ : ∃ x, itemN kecc d = x := ⟨_, rfl⟩
 rw [hx] at n2 n3 ⊢
 replace n1 := Lib.hid n1
 replace n2 := Lib.hid n2
 replace n3 := Lib.hid n3
 replace htail := Lib.hid htail
 have HN := Lib.hid hn
 replace KW := Lib.hid KW
 clear T hT hs hks hn hx hle hdeep hb9 hg
 obtain ⟨r, hr0⟩ : ∃ r, w.heap.size = r := ⟨_, rfl⟩
 have K0a := (Blk.new0 w 52 #[.bool false, .string (bs ks), .slice none 0 0]).alloc (.cells #[.bool false, .string ⟨#[]⟩, .slice none 0 0] 52)
 have K1a := Blk.new1 w (.cells #[.bool false, .string (bs ks), .slice none 0 0] 52) 52 #[.bool false, .string ⟨#[]⟩, .slice none 0 0]
 have HBa : Below w.heap.size w ((w.alloc (.cells #[.bool false, .string (bs ks), .slice none 0 0] 52)).alloc (.cells #[.bool false, .string ⟨#[]⟩, .slice none 0 0] 52)) := bel
 rw [hr0] at K0a K1a
 replace hr0 := Lib.hid hr0
 go_enter Tryz.func34, Tryz.ntmps34
 go_upto_region 2 with fail
 rw [hr0.out]
 obtain ⟨W, hW⟩ : ∃ W, (w.alloc (.cells #[.bool false, .string (bs ks), .slice none 0 0] 52)).alloc (.cells #[.bool false, .string ⟨#[]⟩, .slice none 0 0] 52) = W := ⟨_, rfl⟩
 rw [hW] at K0a K1a HBa ⊢
 clear hW
 have KW1 := Lib.hid (KW.out.below HBa)
 have f0 := (HBa.cell (p := ⟨ab, ao, none⟩) hab).trans e0
 have habW : ab < W.heap.size := Nat.lt_of_lt_of_le hab HBa.size
 have hn1 : ¬ ((n : Int) + 1 = 0) := by omega
 have hn2 : (((n : Int) + 1) == 0) = false := by rw [beq_eq_false_iff_ne]; exact hn1
 have hn3 : (0 : Int) < (n : Int) + 1 := by omega
 have hwf : ∀ f, Fence.wide.fn f := fun _ => trivial
 refine (wpIn_wide (n := 9)).1 ?_
 refine wpIn_round_held (fun W' => W'.cell? ⟨b, 1, none⟩ = some (.slice (some ⟨ab, ao, none⟩) (n + 1) c) ∧ W'.cell? ⟨ab, ao, none⟩ = some (.string (bs s)) ∧ W'.cell? ⟨r, 1, none⟩ = some (.string (bs ks))) (fun j => decide (j < 19)) (by kernel_rfl) ?_
 have HS : ∀ W', Below W.heap.size W W' → W'.cell? ⟨b, 1, none⟩ = some (.slice (some ⟨ab, ao, none⟩) (n + 1) c) ∧ W'.cell? ⟨ab, ao, none⟩ = some (.string (bs s)) ∧ W'.cell? ⟨r, 1, none⟩ = some (.string (bs ks)) := fun W' hB => ⟨(KW1.out.below hB).cell 1, (hB.cell (p := ⟨ab, ao, none⟩) habW).trans f0, (K0a.below hB).cell 1⟩
 have hS0 := HS _ ((Below.refl _ W).drew)
 refine S_tk 0 (.pointer (some ⟨b, 0, none⟩)) rfl hS0 (fun w' h => by obtain ⟨h1, h2⟩ := h; go_simp) ?_
 refine S_tk 1 (.pointer (some ⟨b, 0, none⟩)) rfl hS0 (fun w' h => by obtain ⟨h1, h2⟩ := h; go_simp) ?_
 refine S_tk 2 (.pointer (some ⟨b, 1, none⟩)) rfl hS0 (fun w' h => by obtain ⟨h1, h2⟩ := h; go_simp) ?_
 refine S_tk 3 (.slice (some ⟨ab, ao, none⟩) (n + 1) c) rfl hS0 (fun w' h => by obtain ⟨h1, h2⟩ := h; go_simp) ?_
 (try simp only [Act.put, List.getElem_toArray, List.getElem_cons_succ, List.getElem_cons_zero, List.setIfInBounds_toArray, List.set_cons_succ, List.set_cons_zero])
 refine S_tk 4 (.int .i64 ((n : Int) + 1)) rfl hS0 (fun w' h => by obtain ⟨h1, h2⟩ := h; go_simp) ?_
 refine S_tk 5 (.bool false) rfl hS0 (fun w' h => by obtain ⟨h1, h2⟩ := h; go_simp) ?_
 refine S_tk 6 (.bool false) rfl hS0 (fun w' h => by obtain ⟨h1, h2⟩ := h; go_simp) ?_
 refine S_tk 7 (.pointer (some ⟨b, 0, none⟩)) rfl hS0 (fun w' h => by obtain ⟨h1, h2⟩ := h; go_simp) ?_
 (try simp only [Act.put, List.getElem_toArray, List.getElem_cons_succ, List.getElem_cons_zero, List.setIfInBounds_toArray, List.set_cons_succ, List.set_cons_zero])
 refine S_tk 8 (.pointer (some ⟨b, 0, none⟩)) rfl hS0 (fun w' h => by obtain ⟨h1, h2⟩ := h; go_simp) ?_
 refine S_tk 9 (.pointer (some ⟨b, 1, none⟩)) rfl hS0 (fun w' h => by obtain ⟨h1, h2⟩ := h; go_simp) ?_
 refine S_tk 10 (.slice (some ⟨ab, ao, none⟩) (n + 1) c) rfl hS0 (fun w' h => by obtain ⟨h1, h2⟩ := h; go_simp) ?_
 refine S_tk 11 (.pointer (some ⟨ab, ao, none⟩)) rfl hS0 (fun w' h => by obtain ⟨h1, h2⟩ := h; go_simp) ?_
 (try simp only [Act.put, List.getElem_toArray, List.getElem_cons_succ, List.getElem_cons_zero, List.setIfInBounds_toArray, List.set_cons_succ, List.set_cons_zero])
 refine S_tk 12 (.string (bs s)) rfl hS0 (fun w' h => by obtain ⟨h1, h2⟩ := h; go_simp) ?_
 refine S_tk 15 (.pointer (some ⟨r, 1, none⟩)) rfl hS0 (fun w' h => by obtain ⟨h1, h2⟩ := h; go_simp) ?_
 refine S_tk 16 (.string (bs ks)) rfl hS0 (fun w' h => by obtain ⟨h1, h2⟩ := h; go_simp) ?_
 (try simp only [Act.put, List.getElem_toArray, List.getElem_cons_succ, List.getElem_cons_zero, List.setIfInBounds_toArray, List.set_cons_succ, List.set_cons_zero])
 have hBV : Below W.heap.size W W.drew := (Below.refl _ W).drew
 generalize W.drew = V at *
 have hB3 := hBV.alloc hBV.size (.cells #[.string (bs s)] 9)
 refine S_go 13 (fun _ => trivial) (by kernel_rfl) (by kernel_rfl) rfl (by kernel_rfl) (.slice (some ⟨V.heap.size, 0, none⟩) 1 1) (V.alloc (.cells #[.string (bs s)] 9)) (by first | (go_simp; done) | (go_simp; rfl)) (fun _ => HS _ hB3) ?_
 (try simp only [Act.put, List.getElem_toArray, List.getElem_cons_succ, List.getElem_cons_zero, List.setIfInBounds_toArray, List.set_cons_succ, List.set_cons_zero])
 clear hS0
 refine S_one 14 (by kernel_rfl) rfl (fun K hK => ?_)
 go_simp
 gi_wp2_with (gi_at_call 5; refine (callsIn_wide.2 (n1.out V (HBa.trans (hBV.mono HBa.size)))).mono ?_; rintro e w3 ⟨rfl, hN⟩)
 have hB4 : Below W.heap.size W w3 := hB3.trans (hN.mono hB3.size)
 have hS0 := HS _ hB4
 refine ⟨fun _ => hS0, ?_⟩
 (try simp only [Act.put, List.getElem_toArray, List.getElem_cons_succ, List.getElem_cons_zero, List.setIfInBounds_toArray, List.set_cons_succ, List.set_cons_zero])
 refine S_tk 17 (.bool false) rfl hS0 (fun w' h => by obtain ⟨h1, h2⟩ := h; go_simp) ?_
 refine S_tk 18 (.bool false) rfl hS0 (fun w' h => by obtain ⟨h1, h2⟩ := h; go_simp) ?_
 (try simp only [Act.put, List.getElem_toArray, List.getElem_cons_succ, List.getElem_cons_zero, List.setIfInBounds_toArray, List.set_cons_succ, List.set_cons_zero])
 have P0 := Lib.hid (K0a.below hB4)
 have P1 := Lib.hid (K1a.below hB4)
 have P2 := Lib.hid (KW1.out.below hB4)
 have HB := Lib.hid (HBa.trans (hB4.mono HBa.size))
 have hw3z := HB.out.size
 have f0' := (hB4.cell (p := ⟨ab, ao, none⟩) habW).trans f0
 have habV : ab < w3.heap.size := Nat.lt_of_lt_of_le habW hB4.size
 have hrr : r + 1 < w3.heap.size := by have := K1a.lt; have := hB4.size; omega
 clear hS0 HS hB3 hB4 hN hBV K0a K1a KW1 f0 HBa habW n1
 refine S_end 19 (ls := []) rfl (fun j hj => by simp; omega) (by kernel_rfl) ?_
 refine ⟨rfl, ?_⟩
 have K0 := P0
 have K1 := P1
 have K2 := P2
 clear P0 P1 P2
 (obtain ⟨k0, f0, l0, m0⟩ := K0.out.rl; obtain ⟨k1, f1, l1, m1⟩ := K1.out.rl; obtain ⟨k2, f2, l2, m2⟩ := K2.out.rl)
 go_wp2_with fail
 refine (n2.out w3).mono ?_
 rintro e w4 ⟨v, rfl, RV, hB4⟩
 obtain ⟨vf, vt, vA, vn, vc⟩ := v
 have P0 := Lib.hid (K0.out.below hB4)
 have P1 := Lib.hid (K1.out.below hB4)
 have P2 := Lib.hid (K2.out.below hB4)
 have HB4 := Lib.hid (HB.out.trans (hB4.mono HB.out.size))
 have hz4 := hB4.size
 have hrr4 : r + 1 < w4.heap.size := Nat.lt_of_lt_of_le hrr hB4.size
 replace RV := Lib.hid RV
 clear k0 f0 l0 m0 K0 k1 f1 l1 m1 K1 k2 f2 l2 m2 K2 hB4 HB f0' n2
 have K0 := P0
 have K1 := P1
 have K2 := P2
 clear P0 P1 P2
 (obtain ⟨k0, f0, l0, m0⟩ := K0.out.rl; obtain ⟨k1, f1, l1, m1⟩ := K1.out.rl; obtain ⟨k2, f2, l2, m2⟩ := K2.out.rl)
 go_upto_region 7 with fail
 obtain ⟨r6, hr6⟩ : ∃ r6, w4.heap.size = r6 := ⟨_, rfl⟩
 have K6a := Blk.new0 w4 52 #[.bool vf, .string (bs vt), .slice vA vn vc]
 have K0a := K0.out.alloc (.cells #[.bool vf, .string (bs vt), .slice vA vn vc] 52)
 have K1a := K1.out.alloc (.cells #[.bool vf, .string (bs vt), .slice vA vn vc] 52)
 have K2a := K2.out.alloc (.cells #[.bool vf, .string (bs vt), .slice vA vn vc] 52)
 have HB5 := HB4.out.alloc HB4.out.size (.cells #[.bool vf, .string (bs vt), .slice vA vn vc] 52)
 have RV5 := RV.out.keep (S' := fun b => w3.heap.size ≤ b) (W' := w4.alloc (.cells #[.bool vf, .string (bs vt), .slice vA vn vc] 52)) (by simp) fun b' hb' hl' => ⟨hb', Below.heap_alloc _ _ _ hl'⟩
 rw [hr6] at K6a hrr4 ⊢
 obtain ⟨W5, hW5⟩ : ∃ W5, w4.alloc (.cells #[.bool vf, .string (bs vt), .slice vA vn vc] 52) = W5 := ⟨_, rfl⟩
 rw [hW5] at K0a K1a K2a K6a HB5 RV5 ⊢
 have hbl := KW.out.lt
 have hbr : b < r := by rw [← hr0.out]; exact hbl
 have habr : ab < r := by rw [← hr0.out]; exact hab
 replace RV5 := Lib.hid RV5
 replace HB5 := Lib.hid HB5
 clear hW5 hr6 k0 f0 l0 m0 K0 k1 f1 l1 m1 K1 k2 f2 l2 m2 K2 RV HB4 hz4
 refine (wpIn_wide (n := 9)).1 ?_
 refine wpIn_round_held (fun W' => W'.cell? ⟨b, 1, none⟩ = some (.slice (some ⟨ab, ao, none⟩) (n + 1) c) ∧ W'.cell? ⟨r6, 0, none⟩ = some (.bool vf) ∧ W'.cell? ⟨r6, 1, none⟩ = some (.string (bs vt)) ∧ W'.cell? ⟨r6, 2, none⟩ = some (.slice vA vn vc)) (fun j => decide (j < 8)) (by kernel_rfl) ?_
 have hS0 : W5.drew.cell? ⟨b, 1, none⟩ = some (.slice (some ⟨ab, ao, none⟩) (n + 1) c) ∧ W5.drew.cell? ⟨r6, 0, none⟩ = some (.bool vf) ∧ W5.drew.cell? ⟨r6, 1, none⟩ = some (.string (bs vt)) ∧ W5.drew.cell? ⟨r6, 2, none⟩ = some (.slice vA vn vc) := ⟨K2a.cell 1, K6a.cell 0, K6a.cell 1, K6a.cell 2⟩
 have hnc : (n : Int) + 1 ≤ (c : Int) := by omega
 have hn4 : (1 : Int) ≤ (n : Int) + 1 := by omega
 refine S_tk 0 (.pointer (some ⟨b, 0, none⟩)) rfl hS0 (fun w' h => by obtain ⟨h1, h2⟩ := h; go_simp) ?_
 refine S_tk 1 (.agg #[.bool vf, .string (bs vt), .slice vA vn vc]) rfl hS0 (fun w' h => by obtain ⟨h1, h2⟩ := h; go_simp) ?_
 refine S_tk 2 (.pointer (some ⟨b, 0, none⟩)) rfl hS0 (fun w' h => by obtain ⟨h1, h2⟩ := h; go_simp) ?_
 (try simp only [Act.put, List.getElem_toArray, List.getElem_cons_succ, List.getElem_cons_zero, List.setIfInBounds_toArray, List.set_cons_succ, List.set_cons_zero])
 refine S_tk 3 (.pointer (some ⟨b, 0, none⟩)) rfl hS0 (fun w' h => by obtain ⟨h1, h2⟩ := h; go_simp) ?_
 refine S_tk 4 (.pointer (some ⟨b, 1, none⟩)) rfl hS0 (fun w' h => by obtain ⟨h1, h2⟩ := h; go_simp) ?_
 refine S_tk 5 (.slice (some ⟨ab, ao, none⟩) (n + 1) c) rfl hS0 (fun w' h => by obtain ⟨h1, h2⟩ := h; go_simp) ?_
 (try simp only [Act.put, List.getElem_toArray, List.getElem_cons_succ, List.getElem_cons_zero, List.setIfInBounds_toArray, List.set_cons_succ, List.set_cons_zero])
 have K0 := Lib.hid (show Blk W5.drew r 52 _ from K0a)
 have K1 := Lib.hid (show Blk W5.drew (r + 1) 52 _ from K1a)
 have K2 := Lib.hid (show Blk W5.drew b 93 _ from K2a)
 have K6 := Lib.hid (show Blk W5.drew r6 52 _ from K6a)
 have HB6 := Lib.hid (show Below w.heap.size w W5.drew from HB5.out.drew)
 have RV6 := Lib.hid (show RepS (fun b => w3.heap.size ≤ b) W5.drew x ⟨vf, vt, vA, vn, vc⟩ from RV5.out.keep (Nat.le_refl _) fun b' hb' _ => ⟨hb', rfl⟩)
 clear K0a K1a K2a K6a HB5 RV5
 generalize W5.drew = V5 at *
 by_cases hc1 : c = 1
 ·have hn0 : n = 0 := by omega
  have hre : rest = [] := List.eq_nil_of_length_eq_zero (by have := HN.out; omega)
  have hTl := Lib.hid (show Txts w (some ⟨ab, ao, none⟩) rest from by rw [hre]; exact fun h0 => absurd h0 (by simp))
  clear hre
  refine S_tk 6 (.slice (some ⟨ab, ao, none⟩) n (c - 1)) rfl hS0 (fun w' h => by obtain ⟨h1, h2⟩ := h; go_simp) ?_
  replace hc1 := Lib.hid hc1
  clear hn0
  (obtain ⟨k0, f0, l0, m0⟩ := K0.out.rl; obtain ⟨k2, f2, l2, m2⟩ := K2.out.rl)
  (try simp only [Act.put, List.getElem_toArray, List.getElem_cons_succ, List.getElem_cons_zero, List.setIfInBounds_toArray, List.set_cons_succ, List.set_cons_zero])
  refine S_oneL 7 (by kernel_rfl) rfl ?_
  gi_wp2_with fail
  (try simp only [oneQ])
  have HW6 : ∃ W6, (((V5.setCell ⟨r, 0, none⟩ (.bool vf)).setCell ⟨r, 1, none⟩ (.string (bs vt))).setCell ⟨r, 2, none⟩ (.slice vA vn vc)) = W6 := ⟨_, rfl⟩
  obtain ⟨W6, hW6⟩ := HW6
  have Q0 : Blk W6 r 52 #[.bool vf, .string (bs vt), .slice vA vn vc] := by rw [← hW6]; exact Blk.to (Blk.set_ (Blk.set_ (Blk.set_ K0.out 0 _) 1 _) 2 _) rfl
  have Q1 : Blk W6 (r + 1) 52 #[.bool false, .string ⟨#[]⟩, .slice none 0 0] := by rw [← hW6]; exact ((K1.out.far (by simp) _).far (by simp) _).far (by simp) _
  have Q2 : Blk W6 b 93 #[.string (bs q), .slice (some ⟨ab, ao, none⟩) (n + 1) c, .string (bs vv)] := by rw [← hW6]; exact ((K2.out.far (by simp; omega) _).far (by simp; omega) _).far (by simp; omega) _
  have Q6 : Blk W6 r6 52 #[.bool vf, .string (bs vt), .slice vA vn vc] := by rw [← hW6]; exact ((K6.out.far (by simp; omega) _).far (by simp; omega) _).far (by simp; omega) _
  have HB7 : Below w.heap.size w W6 := by rw [← hW6]; exact (((HB6.out.setCell (by rw [hr0.out]; exact Nat.le_refl _) _).setCell (by rw [hr0.out]; exact Nat.le_refl _) _).setCell (by rw [hr0.out]; exact Nat.le_refl _) _)
  have RV7 : RepS (fun b => w3.heap.size ≤ b) W6 x ⟨vf, vt, vA, vn, vc⟩ := RV6.out.keep (by rw [← hW6]; simp) fun b' hb' hl' => ⟨hb', by rw [← hW6, Below.heap_setCell _ _ _ _ (by simp; omega), Below.heap_setCell _ _ _ _ (by simp; omega), Below.heap_setCell _ _ _ _ (by simp; omega)]⟩
  refine ⟨fun _ => by rw [hW6]; exact ⟨Q2.cell 1, Q6.cell 0, Q6.cell 1, Q6.cell 2⟩, ?_⟩
  rw [hW6]
  clear k0 f0 l0 m0 K0 k2 f2 l2 m2 K2 K1 K6 HB6 RV6 hW6 hS0
  have K0 := Lib.hid Q0
  have K1 := Lib.hid Q1
  have K2 := Lib.hid Q2
  replace HB7 := Lib.hid HB7
  replace RV7 := Lib.hid RV7
  clear Q0 Q1 Q2 Q6
  (obtain ⟨k2, f2, l2, m2⟩ := K2.out.rl)
  refine S_end 8 (ls := [_, _, _]) rfl (fun j hj => by simp; omega) (by kernel_rfl) ?_
  gi_wp2_with fail
  refine ⟨rfl, ?_⟩
  have HW8 : ∃ W8, W6.setCell ⟨b, 1, none⟩ (.slice (some ⟨ab, ao, none⟩) n (c - 1)) = W8 := ⟨_, rfl⟩
  obtain ⟨W8, hW8⟩ := HW8
  have Q0 : Blk W8 r 52 #[.bool vf, .string (bs vt), .slice vA vn vc] := by rw [← hW8]; exact K0.out.far (by simp; omega) _
  have Q1 : Blk W8 (r + 1) 52 #[.bool false, .string ⟨#[]⟩, .slice none 0 0] := by rw [← hW8]; exact K1.out.far (by simp; omega) _
  have Q2 : Blk W8 b 93 #[.string (bs q), .slice (some ⟨ab, ao, none⟩) n (c - 1), .string (bs vv)] := by rw [← hW8]; exact Blk.to (Blk.set_ K2.out 1 _) rfl
  have HB8 : w.grownBy W8 (some b) := by rw [← hW8]; exact grown_set (grown_of HB7.out)
  have RV8 : RepS (fun b => w3.heap.size ≤ b) W8 x ⟨vf, vt, vA, vn, vc⟩ := RV7.out.keep (by rw [← hW8]; simp) fun b' hb' hl' => ⟨hb', by rw [← hW8, Below.heap_setCell _ _ _ _ (by simp; omega)]⟩
  have hT8 : Txts W8 (some ⟨ab, ao, none⟩) rest := by
   intro h0
   obtain ⟨b', o', ha, hb', hcs⟩ := hTl.out h0
   injection ha with ha
   injection ha with e1 e2
   subst e1 e2
   exact ⟨_, _, rfl, Nat.lt_of_lt_of_le hb' HB8.size, fun i x hx => (World.cell?_of_block (a := ⟨ab, _, none⟩) (HB8.block ab hb' (by intro e; injection e with e; exact habb e))).trans (hcs i x hx)⟩
  rw [hW8]
  clear k2 f2 l2 m2 K2 K0 K1 HB7 RV7 hW8 hTl
  have K0 := Lib.hid Q0
  have K1 := Lib.hid Q1
  have K2 := Lib.hid Q2
  replace HB8 := Lib.hid HB8
  replace RV8 := Lib.hid RV8
  replace hT8 := Lib.hid hT8
  have n4 := fun W' (hB : Below W8.heap.size W8 W') => n3.out ⟨vf, vt, vA, vn, vc⟩ W' (RV8.out.rep.on hB)
  replace n4 := Lib.hid n4
  clear Q0 Q1 Q2 n3
  (obtain ⟨k0, f0, l0, m0⟩ := K0.out.rl; obtain ⟨k1, f1, l1, m1⟩ := K1.out.rl)
  go_upto_region 8 with fail
  refine (wpIn_wide (n := 9)).1 ?_
  refine wpIn_round_held (fun W' => W'.cell? ⟨r, 0, none⟩ = some (.bool vf) ∧ W'.cell? ⟨r, 1, none⟩ = some (.string (bs vt)) ∧ W'.cell? ⟨r, 2, none⟩ = some (.slice vA vn vc)) (fun j => decide (j < 4)) (by kernel_rfl) ?_
  have HS : ∀ W', Below W8.heap.size W8 W' → W'.cell? ⟨r, 0, none⟩ = some (.bool vf) ∧ W'.cell? ⟨r, 1, none⟩ = some (.string (bs vt)) ∧ W'.cell? ⟨r, 2, none⟩ = some (.slice vA vn vc) := fun W' hB => ⟨(K0.out.below hB).cell 0, (K0.out.below hB).cell 1, (K0.out.below hB).cell 2⟩
  have hS0 := HS _ ((Below.refl _ W8).drew)
  refine S_tk 0 (.agg #[.bool vf, .string (bs vt), .slice vA vn vc]) rfl hS0 (fun w' h => by obtain ⟨h1, h2⟩ := h; go_simp) ?_
  refine S_tk 1 (.agg #[.bool vf, .string (bs vt), .slice vA vn vc]) rfl hS0 (fun w' h => by obtain ⟨h1, h2⟩ := h; go_simp) ?_
  (try simp only [Act.put, List.getElem_toArray, List.getElem_cons_succ, List.getElem_cons_zero, List.setIfInBounds_toArray, List.set_cons_succ, List.set_cons_zero])
  refine S_one 2 (by kernel_rfl) rfl (fun K hK => ?_)
  go_simp
  gi_wp2_with (gi_at_call 54; refine (callsIn_wide.2 (n4.out _ ((Below.refl _ W8).drew))).mono ?_; rintro e w9 ⟨rfl, hN⟩)
  have hB9 : Below W8.heap.size W8 w9 := Below.on hN ((Below.refl _ W8).drew)
  refine ⟨fun _ => HS _ hB9, ?_⟩
  have P0 := Lib.hid (K0.out.below hB9)
  have P1 := Lib.hid (K1.out.below hB9)
  have P2 := Lib.hid (K2.out.below hB9)
  have HG := Lib.hid (show w.grownBy w9 (some b) from grown_on HB8.out hB9)
  have RV9 := Lib.hid (RV8.out.on hB9)
  have hT9 := Lib.hid (Txts.below hT8.out hB9)
  clear hS0 HS hN hB9 k0 f0 l0 m0 K0 k1 f1 l1 m1 K1 K2 HB8 RV8 hT8 n4
  have K1 := P1
  have K2 := P2
  clear P1 P2
  (obtain ⟨k1, f1, l1, m1⟩ := K1.out.rl)
  (try simp only [Act.put, List.getElem_toArray, List.getElem_cons_succ, List.getElem_cons_zero, List.setIfInBounds_toArray, List.set_cons_succ, List.set_cons_zero])
  refine S_oneL 3 (by kernel_rfl) rfl ?_
  gi_wp2_with fail
  (try simp only [oneQ])
  refine ⟨fun _ => ⟨by rw [(((P0.out.far (p := ⟨r + 1, 0, none⟩) (by simp) _).far (p := ⟨r + 1, 1, none⟩) (by simp) _).far (p := ⟨r + 1, 2, none⟩) (by simp) _).cell]; rfl, by rw [(((P0.out.far (p := ⟨r + 1, 0, none⟩) (by simp) _).far (p := ⟨r + 1, 1, none⟩) (by simp) _).far (p := ⟨r + 1, 2, none⟩) (by simp) _).cell]; rfl, by rw [(((P0.out.far (p := ⟨r + 1, 0, none⟩) (by simp) _).far (p := ⟨r + 1, 1, none⟩) (by simp) _).far (p := ⟨r + 1, 2, none⟩) (by simp) _).cell]; rfl⟩, ?_⟩
  refine S_end 4 (ls := [_]) rfl (fun j hj => by simp; omega) (by kernel_rfl) ?_
  gi_wp2_with fail
  refine ⟨rfl, ?_⟩
  go_wp2_with fail
  refine bodyPost_ret (v := .tuple #[itV vf vt vA vn vc, .bool true]) (by simp (maxDischargeDepth := 9) [results, Tryz.results34, go_sem, *]) rfl ⟨⟨vf, vt, vA, vn, vc⟩, some ⟨ab, ao, none⟩, c - 1, rfl, ?_, ?_, by omega, fun a o e => by injection e with e; injection e with e1 _; exact ⟨ao, by rw [e1]⟩, ?_, ?_⟩
  ·exact RV9.out.keep2 (by simp) fun b' hb' hl' _ => ⟨by omega, by rw [Below.heap_setCell _ _ _ _ (by simp; omega), Below.heap_setCell _ _ _ _ (by simp; omega), Below.heap_setCell _ _ _ _ (by simp; omega)]⟩
  ·exact ((K2.out.far (by simp; omega) _).far (by simp; omega) _).far (by simp; omega) _
  ·intro h0
   obtain ⟨b', o', ha, hb', hcs⟩ := hT9.out h0
   injection ha with ha
   injection ha with e1 e2
   subst e1 e2
   exact ⟨_, _, rfl, by simpa using hb', fun i x hx => (World.cell?_of_block (a := ⟨ab, _, none⟩) (by rw [Below.heap_setCell _ _ _ _ (by simp; omega), Below.heap_setCell _ _ _ _ (by simp; omega), Below.heap_setCell _ _ _ _ (by simp; omega)])).trans (hcs i x hx)⟩
  ·exact ((HG.out.far3 (by rw [hr0.out]; omega)))
 ·have hTl := htail
  refine S_tk 6 (.slice (some ⟨ab, ao + 1, none⟩) n (c - 1)) rfl hS0 (fun w' h => by obtain ⟨h1, h2⟩ := h; go_simp) ?_
  (obtain ⟨k0, f0, l0, m0⟩ := K0.out.rl; obtain ⟨k2, f2, l2, m2⟩ := K2.out.rl)
  (try simp only [Act.put, List.getElem_toArray, List.getElem_cons_succ, List.getElem_cons_zero, List.setIfInBounds_toArray, List.set_cons_succ, List.set_cons_zero])
  refine S_oneL 7 (by kernel_rfl) rfl ?_
  gi_wp2_with fail
  (try simp only [oneQ])
  have HW6 : ∃ W6, (((V5.setCell ⟨r, 0, none⟩ (.bool vf)).setCell ⟨r, 1, none⟩ (.string (bs vt))).setCell ⟨r, 2, none⟩ (.slice vA vn vc)) = W6 := ⟨_, rfl⟩
  obtain ⟨W6, hW6⟩ := HW6
  have Q0 : Blk W6 r 52 #[.bool vf, .string (bs vt), .slice vA vn vc] := by rw [← hW6]; exact Blk.to (Blk.set_ (Blk.set_ (Blk.set_ K0.out 0 _) 1 _) 2 _) rfl
  have Q1 : Blk W6 (r + 1) 52 #[.bool false, .string ⟨#[]⟩, .slice none 0 0] := by rw [← hW6]; exact ((K1.out.far (by simp) _).far (by simp) _).far (by simp) _
  have Q2 : Blk W6 b 93 #[.string (bs q), .slice (some ⟨ab, ao, none⟩) (n + 1) c, .string (bs vv)] := by rw [← hW6]; exact ((K2.out.far (by simp; omega) _).far (by simp; omega) _).far (by simp; omega) _
  have Q6 : Blk W6 r6 52 #[.bool vf, .string (bs vt), .slice vA vn vc] := by rw [← hW6]; exact ((K6.out.far (by simp; omega) _).far (by simp; omega) _).far (by simp; omega) _
  have HB7 : Below w.heap.size w W6 := by rw [← hW6]; exact (((HB6.out.setCell (by rw [hr0.out]; exact Nat.le_refl _) _).setCell (by rw [hr0.out]; exact Nat.le_refl _) _).setCell (by rw [hr0.out]; exact Nat.le_refl _) _)
  have RV7 : RepS (fun b => w3.heap.size ≤ b) W6 x ⟨vf, vt, vA, vn, vc⟩ := RV6.out.keep (by rw [← hW6]; simp) fun b' hb' hl' => ⟨hb', by rw [← hW6, Below.heap_setCell _ _ _ _ (by simp; omega), Below.heap_setCell _ _ _ _ (by simp; omega), Below.heap_setCell _ _ _ _ (by simp; omega)]⟩
  refine ⟨fun _ => by rw [hW6]; exact ⟨Q2.cell 1, Q6.cell 0, Q6.cell 1, Q6.cell 2⟩, ?_⟩
  rw [hW6]
  clear k0 f0 l0 m0 K0 k2 f2 l2 m2 K2 K1 K6 HB6 RV6 hW6 hS0
  have K0 := Lib.hid Q0
  have K1 := Lib.hid Q1
  have K2 := Lib.hid Q2
  replace HB7 := Lib.hid HB7
  replace RV7 := Lib.hid RV7
  clear Q0 Q1 Q2 Q6
  (obtain ⟨k2, f2, l2, m2⟩ := K2.out.rl)
  refine S_end 8 (ls := [_, _, _]) rfl (fun j hj => by simp; omega) (by kernel_rfl) ?_
  gi_wp2_with fail
  refine ⟨rfl, ?_⟩
  have HW8 : ∃ W8, W6.setCell ⟨b, 1, none⟩ (.slice (some ⟨ab, ao + 1, none⟩) n (c - 1)) = W8 := ⟨_, rfl⟩
  obtain ⟨W8, hW8⟩ := HW8
  have Q0 : Blk W8 r 52 #[.bool vf, .string (bs vt), .slice vA vn vc] := by rw [← hW8]; exact K0.out.far (by simp; omega) _
  have Q1 : Blk W8 (r + 1) 52 #[.bool false, .string ⟨#[]⟩, .slice none 0 0] := by rw [← hW8]; exact K1.out.far (by simp; omega) _
  have Q2 : Blk W8 b 93 #[.string (bs q), .slice (some ⟨ab, ao + 1, none⟩) n (c - 1), .string (bs vv)] := by rw [← hW8]; exact Blk.to (Blk.set_ K2.out 1 _) rfl
  have HB8 : w.grownBy W8 (some b) := by rw [← hW8]; exact grown_set (grown_of HB7.out)
  have RV8 : RepS (fun b => w3.heap.size ≤ b) W8 x ⟨vf, vt, vA, vn, vc⟩ := RV7.out.keep (by rw [← hW8]; simp) fun b' hb' hl' => ⟨hb', by rw [← hW8, Below.heap_setCell _ _ _ _ (by simp; omega)]⟩
  have hT8 : Txts W8 (some ⟨ab, ao + 1, none⟩) rest := by
   intro h0
   obtain ⟨b', o', ha, hb', hcs⟩ := hTl.out h0
   injection ha with ha
   injection ha with e1 e2
   subst e1 e2
   exact ⟨_, _, rfl, Nat.lt_of_lt_of_le hb' HB8.size, fun i x hx => (World.cell?_of_block (a := ⟨ab, _, none⟩) (HB8.block ab hb' (by intro e; injection e with e; exact habb e))).trans (hcs i x hx)⟩
  rw [hW8]
  clear k2 f2 l2 m2 K2 K0 K1 HB7 RV7 hW8 hTl
  have K0 := Lib.hid Q0
  have K1 := Lib.hid Q1
  have K2 := Lib.hid Q2
  replace HB8 := Lib.hid HB8
  replace RV8 := Lib.hid RV8
  replace hT8 := Lib.hid hT8
  have n4 := fun W' (hB : Below W8.heap.size W8 W') => n3.out ⟨vf, vt, vA, vn, vc⟩ W' (RV8.out.rep.on hB)
  replace n4 := Lib.hid n4
  clear Q0 Q1 Q2 n3
  (obtain ⟨k0, f0, l0, m0⟩ := K0.out.rl; obtain ⟨k1, f1, l1, m1⟩ := K1.out.rl)
  go_upto_region 8 with fail
  refine (wpIn_wide (n := 9)).1 ?_
  refine wpIn_round_held (fun W' => W'.cell? ⟨r, 0, none⟩ = some (.bool vf) ∧ W'.cell? ⟨r, 1, none⟩ = some (.string (bs vt)) ∧ W'.cell? ⟨r, 2, none⟩ = some (.slice vA vn vc)) (fun j => decide (j < 4)) (by kernel_rfl) ?_
  have HS : ∀ W', Below W8.heap.size W8 W' → W'.cell? ⟨r, 0, none⟩ = some (.bool vf) ∧ W'.cell? ⟨r, 1, none⟩ = some (.string (bs vt)) ∧ W'.cell? ⟨r, 2, none⟩ = some (.slice vA vn vc) := fun W' hB => ⟨(K0.out.below hB).cell 0, (K0.out.below hB).cell 1, (K0.out.below hB).cell 2⟩
  have hS0 := HS _ ((Below.refl _ W8).drew)
  refine S_tk 0 (.agg #[.bool vf, .string (bs vt), .slice vA vn vc]) rfl hS0 (fun w' h => by obtain ⟨h1, h2⟩ := h; go_simp) ?_
  refine S_tk 1 (.agg #[.bool vf, .string (bs vt), .slice vA vn vc]) rfl hS0 (fun w' h => by obtain ⟨h1, h2⟩ := h; go_simp) ?_
  (try simp only [Act.put, List.getElem_toArray, List.getElem_cons_succ, List.getElem_cons_zero, List.setIfInBounds_toArray, List.set_cons_succ, List.set_cons_zero])
  refine S_one 2 (by kernel_rfl) rfl (fun K hK => ?_)
  go_simp
  gi_wp2_with (gi_at_call 54; refine (callsIn_wide.2 (n4.out _ ((Below.refl _ W8).drew))).mono ?_; rintro e w9 ⟨rfl, hN⟩)
  have hB9 : Below W8.heap.size W8 w9 := Below.on hN ((Below.refl _ W8).drew)
  refine ⟨fun _ => HS _ hB9, ?_⟩
  have P0 := Lib.hid (K0.out.below hB9)
  have P1 := Lib.hid (K1.out.below hB9)
  have P2 := Lib.hid (K2.out.below hB9)
  have HG := Lib.hid (show w.grownBy w9 (some b) from grown_on HB8.out hB9)
  have RV9 := Lib.hid (RV8.out.on hB9)
  have hT9 := Lib.hid (Txts.below hT8.out hB9)
  clear hS0 HS hN hB9 k0 f0 l0 m0 K0 k1 f1 l1 m1 K1 K2 HB8 RV8 hT8 n4
  have K1 := P1
  have K2 := P2
  clear P1 P2
  (obtain ⟨k1, f1, l1, m1⟩ := K1.out.rl)
  (try simp only [Act.put, List.getElem_toArray, List.getElem_cons_succ, List.getElem_cons_zero, List.setIfInBounds_toArray, List.set_cons_succ, List.set_cons_zero])
  refine S_oneL 3 (by kernel_rfl) rfl ?_
  gi_wp2_with fail
  (try simp only [oneQ])
  refine ⟨fun _ => ⟨by rw [(((P0.out.far (p := ⟨r + 1, 0, none⟩) (by simp) _).far (p := ⟨r + 1, 1, none⟩) (by simp) _).far (p := ⟨r + 1, 2, none⟩) (by simp) _).cell]; rfl, by rw [(((P0.out.far (p := ⟨r + 1, 0, none⟩) (by simp) _).far (p := ⟨r + 1, 1, none⟩) (by simp) _).far (p := ⟨r + 1, 2, none⟩) (by simp) _).cell]; rfl, by rw [(((P0.out.far (p := ⟨r + 1, 0, none⟩) (by simp) _).far (p := ⟨r + 1, 1, none⟩) (by simp) _).far (p := ⟨r + 1, 2, none⟩) (by simp) _).cell]; rfl⟩, ?_⟩
  refine S_end 4 (ls := [_]) rfl (fun j hj => by simp; omega) (by kernel_rfl) ?_
  gi_wp2_with fail
  refine ⟨rfl, ?_⟩
  go_wp2_with fail
  refine bodyPost_ret (v := .tuple #[itV vf vt vA vn vc, .bool true]) (by simp (maxDischargeDepth := 9) [results, Tryz.results34, go_sem, *]) rfl ⟨⟨vf, vt, vA, vn, vc⟩, some ⟨ab, ao + 1, none⟩, c - 1, rfl, ?_, ?_, by omega, fun a o e => by injection e with e; injection e with e1 _; exact ⟨ao, by rw [e1]⟩, ?_, ?_⟩
  ·exact RV9.out.keep2 (by simp) fun b' hb' hl' _ => ⟨by omega, by rw [Below.heap_setCell _ _ _ _ (by simp; omega), Below.heap_setCell _ _ _ _ (by simp; omega), Below.heap_setCell _ _ _ _ (by simp; omega)]⟩
  ·exact ((K2.out.far (by simp; omega) _).far (by simp; omega) _).far (by simp; omega) _
  ·intro h0
   obtain ⟨b', o', ha, hb', hcs⟩ := hT9.out h0
   injection ha with ha
   injection ha with e1 e2
   subst e1 e2
   exact ⟨_, _, rfl, by simpa using hb', fun i x hx => (World.cell?_of_block (a := ⟨ab, _, none⟩) (by rw [Below.heap_setCell _ _ _ _ (by simp; omega), Below.heap_setCell _ _ _ _ (by simp; omega), Below.heap_setCell _ _ _ _ (by simp; omega)])).trans (hcs i x hx)⟩
  ·exact ((HG.out.far3 (by rw [hr0.out]; omega)))
end Go.Proofs.YthhlbdgladhdkaaGreatDoor
end
section
namespace Go.Proofs.YthhlbdgladhdkaaGreatDoor
open BigFrame Go.RowKit Go.Phx Go.Shelf
attribute [local go_sem] Oper.semAt_some

set_option maxRecDepth 100000 in
set_option maxHeartbeats 16000000 in
theorem wnode_list (S : Nat → Prop) (d : Nd) (hg : GoodN d) (p : Value) (v : Iv) (hv : v.f = true) (w : World) (R : RepS S w (itemN kecc d) v) :
  Calls Tryz.prog 34 #[p, v.val] w (fun e w' => e = .returned (.tuple #[v.val, .bool true]) ∧ RepS S w' (itemN kecc d) v ∧ Below w.heap.size w w') := by
 have n3 := fun W (hB : Below w.heap.size w W) => isNode_good d hg v W (R.rep.on hB)
 obtain ⟨vf, vt, vA, vn, vc⟩ := v
 obtain rfl : vf = true := hv
 replace n3 := Lib.hid n3
 replace R := Lib.hid R
 clear hg
 obtain ⟨r, hr0⟩ : ∃ r, w.heap.size = r := ⟨_, rfl⟩
 have K0a := (Blk.new0 w 52 #[.bool true, .string (bs vt), .slice vA vn vc]).alloc (.cells #[.bool false, .string ⟨#[]⟩, .slice none 0 0] 52)
 have K1a := Blk.new1 w (.cells #[.bool true, .string (bs vt), .slice vA vn vc] 52) 52 #[.bool false, .string ⟨#[]⟩, .slice none 0 0]
 have HBa : Below w.heap.size w ((w.alloc (.cells #[.bool true, .string (bs vt), .slice vA vn vc] 52)).alloc (.cells #[.bool false, .string ⟨#[]⟩, .slice none 0 0] 52)) := bel
 rw [hr0] at K0a K1a
 replace hr0 := Lib.hid hr0
 go_enter Tryz.func34, Tryz.ntmps34
 go_upto_region 8 with fail
 rw [hr0.out]
 obtain ⟨W8, hW⟩ : ∃ W, (w.alloc (.cells #[.bool true, .string (bs vt), .slice vA vn vc] 52)).alloc (.cells #[.bool false, .string ⟨#[]⟩, .slice none 0 0] 52) = W := ⟨_, rfl⟩
 rw [hW] at K0a K1a HBa ⊢
 clear hW
 have hwf : ∀ f, Fence.wide.fn f := fun _ => trivial
 refine (wpIn_wide (n := 9)).1 ?_
 refine wpIn_round_held (fun W' => W'.cell? ⟨r, 0, none⟩ = some (.bool true) ∧ W'.cell? ⟨r, 1, none⟩ = some (.string (bs vt)) ∧ W'.cell? ⟨r, 2, none⟩ = some (.slice vA vn vc)) (fun j => decide (j < 4)) (by kernel_rfl) ?_
 have HS : ∀ W', Below W8.heap.size W8 W' → W'.cell? ⟨r, 0, none⟩ = some (.bool true) ∧ W'.cell? ⟨r, 1, none⟩ = some (.string (bs vt)) ∧ W'.cell? ⟨r, 2, none⟩ = some (.slice vA vn vc) := fun W' hB => ⟨(K0a.below hB).cell 0, (K0a.below hB).cell 1, (K0a.below hB).cell 2⟩
 have hS0 := HS _ ((Below.refl _ W8).drew)
 refine S_tk 0 (.agg #[.bool true, .string (bs vt), .slice vA vn vc]) rfl hS0 (fun w' h => by obtain ⟨h1, h2⟩ := h; go_simp) ?_
 refine S_tk 1 (.agg #[.bool true, .string (bs vt), .slice vA vn vc]) rfl hS0 (fun w' h => by obtain ⟨h1, h2⟩ := h; go_simp) ?_
 (try simp only [Act.put, List.getElem_toArray, List.getElem_cons_succ, List.getElem_cons_zero, List.setIfInBounds_toArray, List.set_cons_succ, List.set_cons_zero])
 refine S_one 2 (by kernel_rfl) rfl (fun K hK => ?_)
 go_simp
 gi_wp2_with (gi_at_call 54; refine (callsIn_wide.2 (n3.out _ (HBa.drew))).mono ?_; rintro e w9 ⟨rfl, hN⟩)
 have hB9 : Below W8.heap.size W8 w9 := Below.on hN ((Below.refl _ W8).drew)
 refine ⟨fun _ => HS _ hB9, ?_⟩
 have P0 := Lib.hid (K0a.below hB9)
 have P1 := Lib.hid (K1a.below hB9)
 have HB := Lib.hid (HBa.trans (hB9.mono HBa.size))
 clear hS0 HS hN hB9 K0a K1a HBa n3
 have K1 := P1
 clear P1
 (obtain ⟨k1, f1, l1, m1⟩ := K1.out.rl)
 (try simp only [Act.put, List.getElem_toArray, List.getElem_cons_succ, List.getElem_cons_zero, List.setIfInBounds_toArray, List.set_cons_succ, List.set_cons_zero])
 refine S_oneL 3 (by kernel_rfl) rfl ?_
 gi_wp2_with fail
 (try simp only [oneQ])
 refine ⟨fun _ => ⟨by rw [(((P0.out.far (p := ⟨r + 1, 0, none⟩) (by simp) _).far (p := ⟨r + 1, 1, none⟩) (by simp) _).far (p := ⟨r + 1, 2, none⟩) (by simp) _).cell]; rfl, by rw [(((P0.out.far (p := ⟨r + 1, 0, none⟩) (by simp) _).far (p := ⟨r + 1, 1, none⟩) (by simp) _).far (p := ⟨r + 1, 2, none⟩) (by simp) _).cell]; rfl, by rw [(((P0.out.far (p := ⟨r + 1, 0, none⟩) (by simp) _).far (p := ⟨r + 1, 1, none⟩) (by simp) _).far (p := ⟨r + 1, 2, none⟩) (by simp) _).cell]; rfl⟩, ?_⟩
 refine S_end 4 (ls := [_]) rfl (fun j hj => by simp; omega) (by kernel_rfl) ?_
 gi_wp2_with fail
 refine ⟨rfl, ?_⟩
 go_wp2_with fail
 have hBe : Below w.heap.size w (((w9.setCell ⟨r + 1, 0, none⟩ (.bool true)).setCell ⟨r + 1, 1, none⟩ (.string (bs vt))).setCell ⟨r + 1, 2, none⟩ (.slice vA vn vc)) := ((HB.out.setCell (by rw [hr0.out]; simp) _).setCell (by rw [hr0.out]; simp) _).setCell (by rw [hr0.out]; simp) _
 refine bodyPost_ret (v := .tuple #[itV true vt vA vn vc, .bool true]) (by simp (maxDischargeDepth := 9) [results, Tryz.results34, go_sem, *]) rfl ⟨rfl, R.out.on hBe, hBe⟩
end Go.Proofs.YthhlbdgladhdkaaGreatDoor
end
section
namespace Go.Proofs.YthhlbdgladhdkaaGreatDoor
open BigFrame Go.RowKit Go.Phx Go.Shelf
attribute [local go_sem] Oper.semAt_some

theorem parts_calls (A : Option Addr) (n c : Nat) (w : World) : Calls Tryz.prog 74 #[.slice A n c] w (fun e w' => e = .returned (.func (.func 93) #[] #[.pointer (some ⟨w.heap.size, 0, none⟩)]) ∧ w' = w.alloc (.cells #[.slice A n c] 109)) := by
 go_enter Tryz.func74, Tryz.ntmps74
 go_wp2
 go_ret
 exact ⟨rfl, rfl⟩
end Go.Proofs.YthhlbdgladhdkaaGreatDoor
end
