/- What the later texts stand on (Stp3, Chk, Prn, Wrd): plain laws and walks, each by its own conditions. -/
import Derived.Test.YthhlbdgladhdkaaGreatDoorUs19
import Derived.Deep.LoopGhost
import Derived.Test.YthhlbdgladhdkaaGreatDoorUs13
set_option linter.unusedSimpArgs false
set_option linter.unusedVariables false
section
namespace Go.Proofs.YthhlbdgladhdkaaGreatDoor
open BigFrame Go.RowKit Go.Phx Go.Shelf
attribute [local go_sem] Oper.semAt_some

set_option maxRecDepth 100000 in
set_option maxHeartbeats 16000000 in
theorem step_br_end (S : Nat → Prop) (ch : Ch) (hg : GoodN (.br ch)) (b : Nat) (A : Option Addr) (n c : Nat) (v : Iv) (w : World) (KW : Blk w b 93 #[.string ⟨#[]⟩, .slice A n c, .string ⟨#[]⟩]) (R : RepS S w (itemN kecc (.br ch)) v) :
  Calls Tryz.prog 35 #[.pointer (some ⟨b, 0, none⟩), v.val] w (StepP S w (.br ch) b [] A n c) := by
 have hpk : pickN (kidsN (.br ch)) [] = none := by rw [GoodN] at hg; exact pick_kidsC_nil ch hg
 have hfd : findN (.br ch) [] = [] := by rw [findN, findC_pick, show pickN (kidsC ch) [] = none from hpk]
 rw [itemN] at R
 obtain ⟨h1, h2, h3, h4, h5, h6⟩ := R.row
 have hl17 : ((List.range 16).map (fun h => atC kecc ch h) ++ [It.text []]).length = 17 := by simp
 obtain ⟨b1, o1, u, hA, hb1, c0, c1, c2, hu⟩ := h6.at 16 (.text []) (by simp)
 obtain rfl := hu.txt
 obtain ⟨f, t, A9, m9, c9⟩ := v
 simp only at h1 h2 h3 h4 h5 h6 hA c0 c1 c2
 rw [hl17] at h3
 subst h1 h3 hA
 replace hpk := Lib.hid hpk
 replace hfd := Lib.hid hfd
 simp only [Nat.reduceMul] at c0 c1 c2
 clear R h6 h2 h4 h5 hg hu hl17
 obtain ⟨r, hr0⟩ : ∃ r, w.heap.size = r := ⟨_, rfl⟩
 have K0a := (Blk.new0 w 52 #[.bool true, .string (bs t), .slice (some ⟨b1, o1, none⟩) 17 c9]).alloc (.cells #[.bool false, .string ⟨#[]⟩, .slice none 0 0] 52)
 have K1a := Blk.new1 w (.cells #[.bool true, .string (bs t), .slice (some ⟨b1, o1, none⟩) 17 c9] 52) 52 #[.bool false, .string ⟨#[]⟩, .slice none 0 0]
 have KWa := (KW.alloc (.cells #[.bool true, .string (bs t), .slice (some ⟨b1, o1, none⟩) 17 c9] 52)).alloc (.cells #[.bool false, .string ⟨#[]⟩, .slice none 0 0] 52)
 have HBa : Below w.heap.size w ((w.alloc (.cells #[.bool true, .string (bs t), .slice (some ⟨b1, o1, none⟩) 17 c9] 52)).alloc (.cells #[.bool false, .string ⟨#[]⟩, .slice none 0 0] 52)) := bel
 have hbr : b < r := by rw [← hr0]; exact KW.lt
 rw [hr0] at K0a K1a
 replace hr0 := Lib.hid hr0
 go_enter Tryz.func35, Tryz.ntmps35
 go_upto_region 2 with fail
 rw [hr0.out]
 obtain ⟨W, hW⟩ : ∃ W, (w.alloc (.cells #[.bool true, .string (bs t), .slice (some ⟨b1, o1, none⟩) 17 c9] 52)).alloc (.cells #[.bool false, .string ⟨#[]⟩, .slice none 0 0] 52) = W := ⟨_, rfl⟩
 rw [hW] at K0a K1a KWa HBa ⊢
 clear hW
 have d0 := (HBa.cell (p := ⟨b1, o1 + 48, none⟩) hb1).trans c0
 have d1 := (HBa.cell (p := ⟨b1, o1 + 48 + 1, none⟩) hb1).trans c1
 have d2 := (HBa.cell (p := ⟨b1, o1 + 48 + 2, none⟩) hb1).trans c2
 have hb1W : b1 < W.heap.size := Nat.lt_of_lt_of_le hb1 HBa.size
 have K0 := Lib.hid K0a
 have K1 := Lib.hid K1a
 have K2 := Lib.hid KWa
 have HB := Lib.hid HBa
 clear c0 c1 c2 K0a K1a KWa HBa
 (obtain ⟨k0, f0, l0, m0⟩ := K0.out.rl; obtain ⟨k1, f1, l1, m1⟩ := K1.out.rl; obtain ⟨k2, f2, l2, m2⟩ := K2.out.rl)
 go_wp2_with fail
 refine bodyPost_ret (v := .tuple #[itV false [] none 0 0, .bool false]) (by simp (maxDischargeDepth := 9) [results, Tryz.results35, go_sem, *] <;> rfl) rfl ⟨?_, .inr (.inl ⟨hpk.out, [], rfl, ?_⟩)⟩
 ·exact (grown_set (grown_of HB.out)).far3 (by rw [hr0.out]; simp)
 ·rw [hfd.out]
  exact ((((Blk.set_ K2.out 2 _).to rfl).far (by simp; omega) _).far (by simp; omega) _).far (by simp; omega) _
set_option maxRecDepth 100000 in
set_option maxHeartbeats 16000000 in
theorem step_br_on (S : Nat → Prop) (ch : Ch) (hg : GoodN (.br ch)) (b : Nat) (a : UInt8) (q : Bytes) (ha : a.toNat < 16) (hq : q.length ≤ 200) (A : Option Addr) (n c : Nat) (v : Iv) (w : World) (KW : Blk w b 93 #[.string (bs (a :: q)), .slice A n c, .string ⟨#[]⟩]) (R : RepS S w (itemN kecc (.br ch)) v) :
  Calls Tryz.prog 35 #[.pointer (some ⟨b, 0, none⟩), v.val] w (StepP S w (.br ch) b (a :: q) A n c) := by
 have R0 := rep_away R KW
 rw [GoodN] at hg
 rw [itemN] at R0
 have hnone := Lib.hid (show pickN (kidsC ch) (a :: q) = none → atC kecc ch a.toNat = .text [] ∧ findN (.br ch) (a :: q) = [] from fun h => by
  have h1 := atC_pick kecc a q ch
  have h2 := findC_pick (a :: q) ch
  rw [h] at h1 h2
  exact ⟨h1, by rw [findN]; exact h2⟩)
 have hsome := Lib.hid (show ∀ x, pickN (kidsC ch) (a :: q) = some x → atC kecc ch a.toNat = refI kecc (itemN kecc x.2) from fun x h => by
  have h1 := atC_pick kecc a q ch
  rw [h] at h1
  exact h1)
 obtain ⟨h1, h2, h3, h4, h5, h6⟩ := R0.row
 have hl17 : ((List.range 16).map (fun h => atC kecc ch h) ++ [It.text []]).length = 17 := by simp
 obtain ⟨b1, o1, u, hA, hb1, c0, c1, c2, hu⟩ := h6.at a.toNat (atC kecc ch a.toNat) (by rw [List.getElem?_append_left (by simpa using ha)]; simp [ha])
 obtain ⟨f, t, A9, m9, c9⟩ := v
 obtain ⟨uf, ut, uA, un, uc⟩ := u
 simp only at h1 h2 h3 h4 h5 h6 hA c0 c1 c2
 rw [hl17] at h3
 subst h1 h3 hA
 have hb1b : b1 ≠ b := fun e => by
  subst e
  rw [KW.cell] at c0
  match h9 : o1 + a.toNat * 3, c0 with
  | 0, c0 => simp at c0
  | 1, c0 => simp at c0
  | 2, c0 => simp at c0
  | o + 3, c0 => simp at c0
 have hix := fun W => index0 a q (by simp; omega) W
 have hqe : (a :: q).isEmpty = false := rfl
 have hqn : ¬ (a :: q) = [] := by simp
 have hqd : Hid ((a :: q).drop 1 = (a :: q).tail) := Lib.hid rfl
 have ha17 : (a.toNat : Int) < 17 := by omega
 have hq1 : (1 : Int) ≤ ((a :: q).length : Int) := by simp; omega
 have hgc := Lib.hid (good_kidsC ch hg)
 replace hu := Lib.hid hu
 have hpd : Hid (pickN (kidsN (.br ch)) (a :: q) = pickN (kidsC ch) (a :: q)) := Lib.hid rfl
 clear R R0 h6 h2 h4 h5 hg hl17
 generalize haq : a :: q = aq at *
 obtain ⟨r, hr0⟩ : ∃ r, w.heap.size = r := ⟨_, rfl⟩
 have K0a := (Blk.new0 w 52 #[.bool true, .string (bs t), .slice (some ⟨b1, o1, none⟩) 17 c9]).alloc (.cells #[.bool false, .string ⟨#[]⟩, .slice none 0 0] 52)
 have K1a := Blk.new1 w (.cells #[.bool true, .string (bs t), .slice (some ⟨b1, o1, none⟩) 17 c9] 52) 52 #[.bool false, .string ⟨#[]⟩, .slice none 0 0]
 have KWa := (KW.alloc (.cells #[.bool true, .string (bs t), .slice (some ⟨b1, o1, none⟩) 17 c9] 52)).alloc (.cells #[.bool false, .string ⟨#[]⟩, .slice none 0 0] 52)
 have HBa : Below w.heap.size w ((w.alloc (.cells #[.bool true, .string (bs t), .slice (some ⟨b1, o1, none⟩) 17 c9] 52)).alloc (.cells #[.bool false, .string ⟨#[]⟩, .slice none 0 0] 52)) := bel
 have hbr : b < r := by rw [← hr0]; exact KW.lt
 rw [hr0] at K0a K1a
 replace hr0 := Lib.hid hr0
 go_enter Tryz.func35, Tryz.ntmps35
 go_upto_region 2 with fail
 rw [hr0.out]
 obtain ⟨W, hW⟩ : ∃ W, (w.alloc (.cells #[.bool true, .string (bs t), .slice (some ⟨b1, o1, none⟩) 17 c9] 52)).alloc (.cells #[.bool false, .string ⟨#[]⟩, .slice none 0 0] 52) = W := ⟨_, rfl⟩
 rw [hW] at K0a K1a KWa HBa ⊢
 clear hW
 have d0 := (HBa.cell (p := ⟨b1, o1 + a.toNat * 3, none⟩) hb1).trans c0
 have d1 := (HBa.cell (p := ⟨b1, o1 + a.toNat * 3 + 1, none⟩) hb1).trans c1
 have d2 := (HBa.cell (p := ⟨b1, o1 + a.toNat * 3 + 2, none⟩) hb1).trans c2
 have hb1W : b1 < W.heap.size := Nat.lt_of_lt_of_le hb1 HBa.size
 have K0 := Lib.hid K0a
 have K1 := Lib.hid K1a
 have K2 := Lib.hid KWa
 have HB := Lib.hid HBa
 clear c0 c1 c2 K0a K1a KWa HBa
 (obtain ⟨k0, f0, l0, m0⟩ := K0.out.rl; obtain ⟨k1, f1, l1, m1⟩ := K1.out.rl; obtain ⟨k2, f2, l2, m2⟩ := K2.out.rl)
 have hwf : ∀ f, Fence.wide.fn f := fun _ => trivial
 go_upto_region 5 with fail
 refine (wpIn_wide (n := 9)).1 ?_
 refine wpIn_round_held (fun W' => W'.cell? ⟨r, 2, none⟩ = some (.slice (some ⟨b1, o1, none⟩) 17 c9) ∧ W'.cell? ⟨b, 0, none⟩ = some (.string (bs aq)) ∧ W'.cell? ⟨b1, o1 + a.toNat * 3, none⟩ = some (.bool uf) ∧ W'.cell? ⟨b1, o1 + a.toNat * 3 + 1, none⟩ = some (.string (bs ut)) ∧ W'.cell? ⟨b1, o1 + a.toNat * 3 + 2, none⟩ = some (.slice uA un uc)) (fun j => decide (j < 10)) (by kernel_rfl) ?_
 have HS : ∀ W', Below W.heap.size W W' → W'.cell? ⟨r, 2, none⟩ = some (.slice (some ⟨b1, o1, none⟩) 17 c9) ∧ W'.cell? ⟨b, 0, none⟩ = some (.string (bs aq)) ∧ W'.cell? ⟨b1, o1 + a.toNat * 3, none⟩ = some (.bool uf) ∧ W'.cell? ⟨b1, o1 + a.toNat * 3 + 1, none⟩ = some (.string (bs ut)) ∧ W'.cell? ⟨b1, o1 + a.toNat * 3 + 2, none⟩ = some (.slice uA un uc) := fun W' hB => ⟨(K0.out.below hB).cell 2, (K2.out.below hB).cell 0, (hB.cell (p := ⟨b1, o1 + a.toNat * 3, none⟩) hb1W).trans d0, (hB.cell (p := ⟨b1, o1 + a.toNat * 3 + 1, none⟩) hb1W).trans d1, (hB.cell (p := ⟨b1, o1 + a.toNat * 3 + 2, none⟩) hb1W).trans d2⟩
 have hS0 := HS _ ((Below.refl _ W).drew)
 refine S_tk 0 (.pointer (some ⟨r, 2, none⟩)) rfl hS0 (fun w' h => by obtain ⟨h1, h2⟩ := h; go_simp) ?_
 refine S_tk 1 (.slice (some ⟨b1, o1, none⟩) 17 c9) rfl hS0 (fun w' h => by obtain ⟨h1, h2⟩ := h; go_simp) ?_
 refine S_tk 2 (.pointer (some ⟨b, 0, none⟩)) rfl hS0 (fun w' h => by obtain ⟨h1, h2⟩ := h; go_simp) ?_
 (try simp only [Act.put, List.getElem_toArray, List.getElem_cons_succ, List.getElem_cons_zero, List.setIfInBounds_toArray, List.set_cons_succ, List.set_cons_zero])
 refine S_tk 3 (.pointer (some ⟨b, 0, none⟩)) rfl hS0 (fun w' h => by obtain ⟨h1, h2⟩ := h; go_simp) ?_
 refine S_tk 4 (.pointer (some ⟨b, 0, none⟩)) rfl hS0 (fun w' h => by obtain ⟨h1, h2⟩ := h; go_simp) ?_
 refine S_tk 5 (.string (bs aq)) rfl hS0 (fun w' h => by obtain ⟨h1, h2⟩ := h; go_simp) ?_
 (try simp only [Act.put, List.getElem_toArray, List.getElem_cons_succ, List.getElem_cons_zero, List.setIfInBounds_toArray, List.set_cons_succ, List.set_cons_zero])
 refine S_tk 6 (.int .u8 (a.toNat : Int)) rfl hS0 (fun w' h => by obtain ⟨h1, h2⟩ := h; go_simp) ?_
 refine S_tk 7 (.pointer (some ⟨b1, o1 + a.toNat * 3, none⟩)) rfl hS0 (fun w' h => by obtain ⟨h1, h2⟩ := h; go_simp) ?_
 refine S_tk 8 (.agg #[.bool uf, .string (bs ut), .slice uA un uc]) rfl hS0 (fun w' h => by obtain ⟨h1, h2⟩ := h; go_simp) ?_
 (try simp only [Act.put, List.getElem_toArray, List.getElem_cons_succ, List.getElem_cons_zero, List.setIfInBounds_toArray, List.set_cons_succ, List.set_cons_zero])
 have hBV : Below W.heap.size W W.drew := (Below.refl _ W).drew
 generalize W.drew = V at *
 have hB3 := hBV.alloc hBV.size (.cells #[.bool false, .string ⟨#[]⟩, .slice none 0 0] 52)
 have hzV := hBV.size
 refine S_go 9 (fun _ => trivial) (by kernel_rfl) (by kernel_rfl) rfl (by kernel_rfl) (.pointer (some ⟨V.heap.size, 0, none⟩)) (V.alloc (.cells #[.bool false, .string ⟨#[]⟩, .slice none 0 0] 52)) (by first | (go_simp; done) | (go_simp; rfl)) (fun _ => HS _ hB3) ?_
 have P6 := Blk.new0 V 52 #[.bool false, .string ⟨#[]⟩, .slice none 0 0]
 obtain ⟨r6, hr6⟩ : ∃ r6, V.heap.size = r6 := ⟨_, rfl⟩
 obtain ⟨V2, hV2⟩ : ∃ V2, V.alloc (.cells #[.bool false, .string ⟨#[]⟩, .slice none 0 0] 52) = V2 := ⟨_, rfl⟩
 rw [hr6] at P6 hzV ⊢
 rw [hV2] at P6 hB3 ⊢
 have Q0 := Lib.hid (K0.out.below hB3)
 have Q1 := Lib.hid (K1.out.below hB3)
 have Q2 := Lib.hid (K2.out.below hB3)
 have HB3 := Lib.hid (HB.out.trans (hB3.mono HB.out.size))
 have hrW : r + 1 < r6 := Nat.lt_of_lt_of_le K1.out.lt hzV
 clear hr6 hV2 hS0 HS hB3 hBV hzV k0 f0 l0 m0 K0 k1 f1 l1 m1 K1 k2 f2 l2 m2 K2 HB d0 d1 d2
 have K1 := Q1
 have K2 := Q2
 have K6 := Lib.hid P6
 clear P6 Q1 Q2
 (obtain ⟨k1, f1, l1, m1⟩ := K1.out.rl; obtain ⟨k2, f2, l2, m2⟩ := K2.out.rl; obtain ⟨k6, f6, l6, m6⟩ := K6.out.rl)
 (try simp only [Act.put, List.getElem_toArray, List.getElem_cons_succ, List.getElem_cons_zero, List.setIfInBounds_toArray, List.set_cons_succ, List.set_cons_zero])
 refine S_end 10 (ls := [_]) rfl (fun j hj => by simp; omega) (by kernel_rfl) ?_
 gi_wp2_with fail
 refine ⟨rfl, ?_⟩
 obtain ⟨W9, hW9⟩ : ∃ W9, ((((V2.setCell ⟨r6, 0, none⟩ (.bool uf)).setCell ⟨r6, 1, none⟩ (.string (bs ut))).setCell ⟨r6, 2, none⟩ (.slice uA un uc)).setCell ⟨b, 0, none⟩ (.string (bs aq.tail))) = W9 := ⟨_, rfl⟩
 have R1 : Blk W9 (r + 1) 52 #[.bool false, .string ⟨#[]⟩, .slice none 0 0] := by rw [← hW9]; exact (((K1.out.far (by simp; omega) _).far (by simp; omega) _).far (by simp; omega) _).far (by simp; omega) _
 have R2 : Blk W9 b 93 #[.string (bs aq.tail), .slice A n c, .string ⟨#[]⟩] := by rw [← hW9]; exact Blk.to (Blk.set_ (((K2.out.far (by simp; omega) _).far (by simp; omega) _).far (by simp; omega) _) 0 _) rfl
 have R6 : Blk W9 r6 52 #[.bool uf, .string (bs ut), .slice uA un uc] := by rw [← hW9]; exact (Blk.to (Blk.set_ (Blk.set_ (Blk.set_ K6.out 0 _) 1 _) 2 _) rfl : Blk _ r6 _ #[.bool uf, .string (bs ut), .slice uA un uc]).far (by simp; omega) _
 have HG : w.grownBy W9 (some b) := by rw [← hW9]; exact grown_set ((grown_of HB3.out).far3 (by rw [hr0.out]; omega))
 go_upto_region 7 with fail
 (try rw [hW9])
 have RU : RepS (fun j => (S j ∧ j ≠ b) ∧ j < r) W9 (atC kecc ch a.toNat) ⟨uf, ut, uA, un, uc⟩ := hu.out.keep HG.size fun b' hb' hl' => ⟨⟨hb', by rw [← hr0.out]; exact hl'⟩, HG.block b' hl' (by intro e; injection e with e; exact hb'.2 e)⟩
 clear hW9 k1 f1 l1 m1 K1 k2 f2 l2 m2 K2 k6 f6 l6 m6 K6 HB3 hu
 have K1 := Lib.hid R1
 have K2 := Lib.hid R2
 have K6 := Lib.hid R6
 replace HG := Lib.hid HG
 replace RU := Lib.hid RU
 clear R1 R2 R6
 refine (wpIn_wide (n := 9)).1 ?_
 refine wpIn_round_held (fun W' => W'.cell? ⟨r6, 0, none⟩ = some (.bool uf) ∧ W'.cell? ⟨r6, 1, none⟩ = some (.string (bs ut)) ∧ W'.cell? ⟨r6, 2, none⟩ = some (.slice uA un uc)) (fun j => decide (j < 9)) (by kernel_rfl) ?_
 have hS0 : W9.drew.cell? ⟨r6, 0, none⟩ = some (.bool uf) ∧ W9.drew.cell? ⟨r6, 1, none⟩ = some (.string (bs ut)) ∧ W9.drew.cell? ⟨r6, 2, none⟩ = some (.slice uA un uc) := ⟨K6.out.cell 0, K6.out.cell 1, K6.out.cell 2⟩
 refine S_tk 0 (.agg #[.bool uf, .string (bs ut), .slice uA un uc]) rfl hS0 (fun w' h => by obtain ⟨h1, h2⟩ := h; go_simp) ?_
 refine S_tk 1 (.pointer (some ⟨r6, 0, none⟩)) rfl hS0 (fun w' h => by obtain ⟨h1, h2⟩ := h; go_simp) ?_
 refine S_tk 2 (.bool uf) rfl hS0 (fun w' h => by obtain ⟨h1, h2⟩ := h; go_simp) ?_
 refine S_tk 3 (.bool uf) rfl hS0 (fun w' h => by obtain ⟨h1, h2⟩ := h; go_simp) ?_
 (try simp only [Act.put, List.getElem_toArray, List.getElem_cons_succ, List.getElem_cons_zero, List.setIfInBounds_toArray, List.set_cons_succ, List.set_cons_zero])
 cases hp : pickN (kidsC ch) aq with
 | none =>
  obtain ⟨e1, e2⟩ := hnone.out hp
  rw [e1] at RU
  have e3 := RU.out.txt
  injection e3 with e3 e4 e5 e6 e7
  subst e3 e4 e5 e6 e7
  have hp9 := Lib.hid (hpd.out.trans hp)
  replace e2 := Lib.hid e2
  clear hp e1 hnone hsome
  refine S_tk 4 (.pointer (some ⟨r6, 1, none⟩)) rfl hS0 (fun w' h => by obtain ⟨h1, h2⟩ := h; go_simp) ?_
  refine S_tk 5 (.string (bs [])) rfl hS0 (fun w' h => by obtain ⟨h1, h2⟩ := h; go_simp) ?_
  refine S_tk 6 (.bool false) rfl hS0 (fun w' h => by obtain ⟨h1, h2⟩ := h; go_simp) ?_
  refine S_tk 7 (.bool false) rfl hS0 (fun w' h => by obtain ⟨h1, h2⟩ := h; go_simp) ?_
  (try simp only [Act.put, List.getElem_toArray, List.getElem_cons_succ, List.getElem_cons_zero, List.setIfInBounds_toArray, List.set_cons_succ, List.set_cons_zero])
  have Q1 := Lib.hid (show Blk W9.drew (r + 1) 52 _ from K1.out)
  have Q2 := Lib.hid (show Blk W9.drew b 93 _ from K2.out)
  have Q6 := Lib.hid (show Blk W9.drew r6 52 _ from K6.out)
  have HGd := Lib.hid (show w.grownBy W9.drew (some b) from grown_on HG.out ((Below.refl _ W9).drew))
  have RUd := Lib.hid (RU.out.on ((Below.refl _ W9).drew))
  clear K1 K2 K6 HG RU
  generalize W9.drew = Wd at *
  have K1 := Q1
  have K2 := Q2
  have K6 := Q6
  clear Q1 Q2 Q6
  (obtain ⟨k1, f1, l1, m1⟩ := K1.out.rl)
  refine S_oneL 8 (by kernel_rfl) rfl ?_
  gi_wp2_with fail
  (try simp only [oneQ])
  have S8 := ((K6.out.far (p := ⟨r + 1, 0, none⟩) (by simp; omega) (.bool false)).far (p := ⟨r + 1, 1, none⟩) (by simp; omega) (.string (bs []))).far (p := ⟨r + 1, 2, none⟩) (by simp; omega) (.slice none 0 0)
  refine ⟨fun _ => ⟨S8.cell 0, S8.cell 1, S8.cell 2⟩, ?_⟩
  refine S_end 9 (ls := [_]) rfl (fun j hj => by simp; omega) (by kernel_rfl) ?_
  gi_wp2_with fail
  refine ⟨rfl, ?_⟩
  go_wp2_with fail
  refine bodyPost_ret (v := .tuple #[itV false [] none 0 0, .bool false]) (by simp (maxDischargeDepth := 9) [results, Tryz.results35, go_sem, *] <;> rfl) rfl ⟨?_, .inr (.inr ⟨hp9.out, e2.out, ⟨false, [], none, 0, 0⟩, aq.tail, rfl, ?_⟩)⟩
  ·exact HGd.out.far3 (by rw [hr0.out]; simp)
  ·exact ((K2.out.far (by simp; omega) _).far (by simp; omega) _).far (by simp; omega) _
 | some x =>
  have e1 := hsome.out x hp
  rw [e1] at RU
  have hx1 := (hgc.out x (pick_some hp).1).1
  have hp9 := Lib.hid (hpd.out.trans hp)
  have hdr : Hid (aq.drop x.1.length = aq.tail) := Lib.hid (by rw [hx1]; exact hqd.out)
  clear hp e1 hnone hsome
  rcases ref_full kecc kecc_len x.2 with ⟨l, e, _, _⟩ | ⟨e, _⟩
  ·have hfl := RU.out.flag
   rw [e] at hfl
   obtain rfl : uf = true := hfl
   clear e
   refine S_skip (fun _ => trivial) 4 (by kernel_rfl) rfl (by kernel_rfl) (by kernel_rfl) (by kernel_rfl) (by kernel_rfl) (onlyN_panic _ _) hS0 (by kernel_rfl) ?_
   refine S_skip (fun _ => trivial) 5 (by kernel_rfl) rfl (by kernel_rfl) (by kernel_rfl) (by kernel_rfl) (by kernel_rfl) (onlyN_panic _ _) hS0 (by kernel_rfl) ?_
   refine S_skip (fun _ => trivial) 6 (by kernel_rfl) rfl (by kernel_rfl) (by kernel_rfl) (by kernel_rfl) (by kernel_rfl) (onlyN_panic _ _) hS0 (by kernel_rfl) ?_
   (try simp only [Act.put, List.getElem_toArray, List.getElem_cons_succ, List.getElem_cons_zero, List.setIfInBounds_toArray, List.set_cons_succ, List.set_cons_zero])
   refine S_tk 7 (.bool true) rfl hS0 (fun w' h => by obtain ⟨h1, h2⟩ := h; go_simp) ?_
   (try simp only [Act.put, List.getElem_toArray, List.getElem_cons_succ, List.getElem_cons_zero, List.setIfInBounds_toArray, List.set_cons_succ, List.set_cons_zero])
   have Q1 := Lib.hid (show Blk W9.drew (r + 1) 52 _ from K1.out)
   have Q2 := Lib.hid (show Blk W9.drew b 93 _ from K2.out)
   have Q6 := Lib.hid (show Blk W9.drew r6 52 _ from K6.out)
   have HGd := Lib.hid (show w.grownBy W9.drew (some b) from grown_on HG.out ((Below.refl _ W9).drew))
   have RUd := Lib.hid (RU.out.on ((Below.refl _ W9).drew))
   clear K1 K2 K6 HG RU
   generalize W9.drew = Wd at *
   have K1 := Q1
   have K2 := Q2
   have K6 := Q6
   clear Q1 Q2 Q6
   (obtain ⟨k1, f1, l1, m1⟩ := K1.out.rl)
   refine S_oneL 8 (by kernel_rfl) rfl ?_
   gi_wp2_with fail
   (try simp only [oneQ])
   have S8 := ((K6.out.far (p := ⟨r + 1, 0, none⟩) (by simp; omega) (.bool true)).far (p := ⟨r + 1, 1, none⟩) (by simp; omega) (.string (bs ut))).far (p := ⟨r + 1, 2, none⟩) (by simp; omega) (.slice uA un uc)
   refine ⟨fun _ => ⟨S8.cell 0, S8.cell 1, S8.cell 2⟩, ?_⟩
   refine S_end 9 (ls := [_]) rfl (fun j hj => by simp; omega) (by kernel_rfl) ?_
   gi_wp2_with fail
   refine ⟨rfl, ?_⟩
   go_wp2_with fail
   refine bodyPost_ret (v := .tuple #[itV true ut uA un uc, .bool true]) (by simp (maxDischargeDepth := 9) [results, Tryz.results35, go_sem, *] <;> rfl) rfl ⟨?_, .inl ⟨x, ⟨true, ut, uA, un, uc⟩, hp9.out, rfl, ?_, ?_⟩⟩
   ·exact HGd.out.far3 (by rw [hr0.out]; simp)
   ·exact RUd.out.keep (by simp) fun b' hb' hl' => ⟨hb'.1.1, by have hb7 := hb'.2; rw [Below.heap_setCell _ _ _ _ (by simp; omega), Below.heap_setCell _ _ _ _ (by simp; omega), Below.heap_setCell _ _ _ _ (by simp; omega)]⟩
   ·rw [hdr.out]
    exact ((K2.out.far (by simp; omega) _).far (by simp; omega) _).far (by simp; omega) _
  ·have e3 := RU.out
   rw [e] at e3
   have e3 := e3.txt
   injection e3 with e3 e4 e5 e6 e7
   have hkl := kecc_len (bytesN kecc x.2)
   rw [← e4] at hkl
   clear e e4
   subst e3 e5 e6 e7
   have hune : ut.isEmpty = false := by
    cases ut with
    | nil => simp at hkl
    | cons _ _ => rfl
   have hun : ¬ ut = [] := fun h => by rw [h] at hkl; simp at hkl
   clear hkl
   refine S_tk 4 (.pointer (some ⟨r6, 1, none⟩)) rfl hS0 (fun w' h => by obtain ⟨h1, h2⟩ := h; go_simp) ?_
   refine S_tk 5 (.string (bs ut)) rfl hS0 (fun w' h => by obtain ⟨h1, h2⟩ := h; go_simp) ?_
   refine S_tk 6 (.bool true) rfl hS0 (fun w' h => by obtain ⟨h1, h2⟩ := h; go_simp) ?_
   refine S_tk 7 (.bool true) rfl hS0 (fun w' h => by obtain ⟨h1, h2⟩ := h; go_simp) ?_
   (try simp only [Act.put, List.getElem_toArray, List.getElem_cons_succ, List.getElem_cons_zero, List.setIfInBounds_toArray, List.set_cons_succ, List.set_cons_zero])
   have Q1 := Lib.hid (show Blk W9.drew (r + 1) 52 _ from K1.out)
   have Q2 := Lib.hid (show Blk W9.drew b 93 _ from K2.out)
   have Q6 := Lib.hid (show Blk W9.drew r6 52 _ from K6.out)
   have HGd := Lib.hid (show w.grownBy W9.drew (some b) from grown_on HG.out ((Below.refl _ W9).drew))
   have RUd := Lib.hid (RU.out.on ((Below.refl _ W9).drew))
   clear K1 K2 K6 HG RU
   generalize W9.drew = Wd at *
   have K1 := Q1
   have K2 := Q2
   have K6 := Q6
   clear Q1 Q2 Q6
   (obtain ⟨k1, f1, l1, m1⟩ := K1.out.rl)
   refine S_oneL 8 (by kernel_rfl) rfl ?_
   gi_wp2_with fail
   (try simp only [oneQ])
   have S8 := ((K6.out.far (p := ⟨r + 1, 0, none⟩) (by simp; omega) (.bool false)).far (p := ⟨r + 1, 1, none⟩) (by simp; omega) (.string (bs ut))).far (p := ⟨r + 1, 2, none⟩) (by simp; omega) (.slice none 0 0)
   refine ⟨fun _ => ⟨S8.cell 0, S8.cell 1, S8.cell 2⟩, ?_⟩
   refine S_end 9 (ls := [_]) rfl (fun j hj => by simp; omega) (by kernel_rfl) ?_
   gi_wp2_with fail
   refine ⟨rfl, ?_⟩
   go_wp2_with fail
   refine bodyPost_ret (v := .tuple #[itV false ut none 0 0, .bool true]) (by simp (maxDischargeDepth := 9) [results, Tryz.results35, go_sem, *] <;> rfl) rfl ⟨?_, .inl ⟨x, ⟨false, ut, none, 0, 0⟩, hp9.out, rfl, ?_, ?_⟩⟩
   ·exact HGd.out.far3 (by rw [hr0.out]; simp)
   ·exact RUd.out.keep (by simp) fun b' hb' hl' => ⟨hb'.1.1, by have hb7 := hb'.2; rw [Below.heap_setCell _ _ _ _ (by simp; omega), Below.heap_setCell _ _ _ _ (by simp; omega), Below.heap_setCell _ _ _ _ (by simp; omega)]⟩
   ·rw [hdr.out]
    exact ((K2.out.far (by simp; omega) _).far (by simp; omega) _).far (by simp; omega) _
end Go.Proofs.YthhlbdgladhdkaaGreatDoor
end
section
namespace Go.Proofs.YthhlbdgladhdkaaGreatDoor
open BigFrame Go.RowKit Go.Phx Go.Shelf
attribute [local go_sem] Oper.semAt_some

theorem wstep (S : Nat → Prop) (d : Nd) (hg : GoodN d) (b : Nat) (q : Bytes) (hq : NibP q) (hl : q.length ≤ 200) (A : Option Addr) (n c : Nat) (v : Iv) (w : World) (KW : Blk w b 93 #[.string (bs q), .slice A n c, .string ⟨#[]⟩]) (R : RepS S w (itemN kecc d) v) :
  Calls Tryz.prog 35 #[.pointer (some ⟨b, 0, none⟩), v.val] w (StepP S w d b q A n c) := by
 match d, hg, R with
 | .leaf p s, hg, R => exact step_leaf S p s hg b q A n c v w KW R
 | .ext p nd, hg, R => exact step_ext S p nd hg b q A n c v w KW R
 | .br ch, hg, R =>
  match q, hq, hl, KW with
  | [], _, _, KW => exact step_br_end S ch hg b A n c v w KW R
  | a :: q, hq, hl, KW => exact step_br_on S ch hg b a q hq.head (by simp at hl; omega) A n c v w KW R
theorem way_all (K : Bytes → Bytes) (hK : ∀ b, (K b).length = 32) : ∀ (n : Nat) (f : Bool) (d : Nd) (q : Bytes), q.length ≤ n → GoodN d → ∀ s ∈ wayN K f d q, s.length ≤ 2000
 | n, f, d, q, hn, hg, s, hs => by
  rw [way_pick, List.mem_append] at hs
  rcases hs with hs | hs
  ·unfold ownN at hs
   split at hs
   ·simp only [List.mem_singleton] at hs
    rw [hs]
    exact node_le K hK d hg
   ·cases hs
  ·unfold tailN at hs
   cases h : pickN (kidsN d) q with
   | none => rw [h] at hs; cases hs
   | some x =>
    rw [h] at hs
    obtain ⟨hm, ht⟩ := pick_some h
    obtain ⟨g1, g2, g3, g4⟩ := good_kids d hg x hm
    have hl : x.1.length ≤ q.length := by have := congrArg List.length ht; rw [List.length_take] at this; omega
    match n, hn with
    | 0, hn => omega
    | n + 1, hn => exact way_all K hK n false x.2 (q.drop x.1.length) (by rw [List.length_drop]; omega) g4 s hs
structure CkI (w : World) (bW bR N0 : Nat) (F : Bytes) (d : Nd) (q : Bytes) (u : Iv) (P : List Bytes) (A : Option Addr) (c : Nat) (wr : World) : Prop where
 walk : Blk wr bW 93 #[.string (bs q), .slice A P.length c, .string ⟨#[]⟩]
 cap : P.length ≤ c
 off : ∀ a o, A = some ⟨a, o, none⟩ → a < w.heap.size
 txts : Txts wr A P
 ref : Blk wr bR 52 #[.bool u.f, .string (bs u.t), .slice u.A u.n u.c]
 size : N0 ≤ wr.heap.size
 below : Below w.heap.size w wr
 at_ : (u = ⟨false, kecc (bytesN kecc d), none, 0, 0⟩ ∧ P = bytesN kecc d :: tailN kecc d q) ∨ (u.f = true ∧ RepS (fun j => N0 ≤ j) wr (itemN kecc d) u ∧ P = tailN kecc d q)
 good : GoodN d
 nib : NibP q
 len : q.length ≤ 128
 find : F = findN d q
 few : P.length ≤ 140
structure CkJ (w : World) (bW bR N0 : Nat) (d : Nd) (q : Bytes) (v : Iv) (u : Iv) (A : Option Addr) (c : Nat) (wr : World) : Prop where
 walk : Blk wr bW 93 #[.string (bs q), .slice A (tailN kecc d q).length c, .string ⟨#[]⟩]
 cap : (tailN kecc d q).length ≤ c
 off : ∀ a o, A = some ⟨a, o, none⟩ → a < w.heap.size
 txts : Txts wr A (tailN kecc d q)
 ref : Blk wr bR 52 #[.bool u.f, .string (bs u.t), .slice u.A u.n u.c]
 size : N0 ≤ wr.heap.size
 below : Below w.heap.size w wr
 rep : RepS (fun j => N0 ≤ j) wr (itemN kecc d) v
theorem wnode {w : World} {bW bR N0 : Nat} {F : Bytes} {d : Nd} {q : Bytes} {u : Iv} {P : List Bytes} {A : Option Addr} {c : Nat} {wr : World} (h : CkI w bW bR N0 F d q u P A c wr) (hT : HasT w) (hw : w.heap.size ≤ bW) (hne : bR ≠ bW) :
  Calls Tryz.prog 34 #[.pointer (some ⟨bW, 0, none⟩), u.val] wr (fun e w' => ∃ (v : Iv) (A' : Option Addr) (c' : Nat), e = .returned (.tuple #[v.val, .bool true]) ∧ CkJ w bW bR N0 d q v u A' c' w') := by
 rcases h.at_ with ⟨rfl, rfl⟩ | ⟨hu, hr, rfl⟩
 ·have hw' := h.walk
  have hcp := h.cap
  have hf := h.few
  rw [List.length_cons] at hw' hcp hf
  refine (wnode_text d h.good bW q [] A c (tailN kecc d q) (by omega) (by omega) wr (fun a o e => by have := h.off a o e; omega) hw' h.txts (hT.below h.below)).mono ?_
  rintro e w' ⟨v, A', c', rfl, h1, h2, h3, h4, h5, h6⟩
  exact ⟨v, A', c', rfl, h2, h3, fun a o e => by obtain ⟨o', e'⟩ := h4 a o e; exact h.off a o' e', h5, h.ref.grown h6 (by intro e; injection e with e; exact hne e), Nat.le_trans h.size h6.size, h.below.grown h6 h.below.size (fun j e => by injection e with e; omega), h1.weak fun b hb _ => Nat.le_trans h.size hb⟩
 ·refine (wnode_list (fun j => N0 ≤ j) d h.good _ u hu wr hr).mono ?_
  rintro e w' ⟨rfl, h1, h2⟩
  exact ⟨u, A, c, rfl, h.walk.below h2, h.cap, h.off, Txts.below h.txts h2, h.ref.below h2, Nat.le_trans h.size h2.size, h.below.trans (h2.mono h.below.size), h1⟩
theorem txts_gr {w w' : World} {A : Option Addr} {P : List Bytes} {b : Nat} (h : Txts w A P) (hA : ∀ a o, A = some ⟨a, o, none⟩ → a ≠ b) (hg : w.grownBy w' (some b)) : Txts w' A P := fun h0 => by
 obtain ⟨b1, o1, ha, hb1, hc⟩ := h h0
 exact ⟨b1, o1, ha, Nat.lt_of_lt_of_le hb1 hg.size, fun i x hx => (World.cell?_of_block (a := ⟨b1, _, none⟩) (hg.block b1 hb1 (by intro e; injection e with e; exact hA b1 o1 ha e))).trans (hc i x hx)⟩
set_option maxRecDepth 100000 in
set_option maxHeartbeats 16000000 in
theorem Check_calls (D : Nd) (hg : GoodN D) (key : Bytes) (hk0 : key ≠ []) (hk : key.length ≤ 64) (A : Option Addr) (c : Nat) (hc : (wayN kecc true D (pathOf key)).length ≤ c) (w : World) (hT : HasT w) (T : Txts w A (wayN kecc true D (pathOf key))) :
  Calls Tryz.prog 18 #[.string (bs (kecc (bytesN kecc D))), .string (bs key), .slice A (wayN kecc true D (pathOf key)).length c] w (Ret w (.tuple #[.string (bs (findN D (pathOf key))), .bool (!(findN D (pathOf key)).isEmpty), .int .i64 0])) := by
 have hql := pathOf_len key
 have hqn := pathOf_nib key
 have hwl := way_len kecc _ true D (pathOf key) (Nat.le_refl _) hg
 have hwa := way_all kecc kecc_len _ true D (pathOf key) (Nat.le_refl _) hg
 have hwp := way_pick kecc true D (pathOf key)
 have hown : ownN kecc true D = [bytesN kecc D] := by unfold ownN; rw [Bool.true_or, if_pos rfl]
 rw [hown] at hwp
 have n1 := fits_calls (kecc (bytesN kecc D)) (kecc_len _) A c (wayN kecc true D (pathOf key)) (by omega) (fun x hx => by have := hwa x hx; omega) w T
 have n2 := fun W => of_calls key (by omega) W
 obtain ⟨F, hF⟩ : ∃ F, findN D (pathOf key) = F := ⟨_, rfl⟩
 obtain ⟨ks, hks⟩ : ∃ ks, kecc (bytesN kecc D) = ks := ⟨_, rfl⟩
 have n3 := fun W => text_calls ks W
 have hn0 : 0 < (wayN kecc true D (pathOf key)).length := by rw [hwp]; simp
 rw [hks] at n1 ⊢
 rw [hF]
 generalize hQ : pathOf key = Q at *
 generalize hP : wayN kecc true D Q = P at *
 obtain ⟨n, hn⟩ : ∃ n, P.length = n := ⟨_, rfl⟩
 rw [hn] at n1 hc hwl hn0 ⊢
 have hke : key.isEmpty = false := by cases key with
  | nil => exact absurd rfl hk0
  | cons _ _ => rfl
 have hk1 : ¬ 64 < (key.length : Int) := by omega
 have hn1 : ¬ (n : Int) = 0 := by omega
 have hn2 : ((n : Int) == 0) = false := by rw [beq_eq_false_iff_ne]; exact hn1
 replace n1 := Lib.hid n1
 replace n2 := Lib.hid n2
 replace n3 := Lib.hid n3
 replace hT := Lib.hid hT
 replace T := Lib.hid T
 replace hg := Lib.hid hg
 replace hwp := Lib.hid hwp
 replace hF := Lib.hid hF
 replace hks := Lib.hid hks
 replace hqn := Lib.hid hqn
 have HN := Lib.hid hn
 clear hQ hP hn hwa hown
 go_enter Tryz.func18, Tryz.ntmps18
 go_wp2_with fail
 refine wp_scope_straight ?_
 go_wp2_with fail
 refine n1.out.mono ?_
 rintro e w1 ⟨rfl, hB1⟩
 replace hB1 := Lib.hid hB1
 go_wp2_with fail
 refine (n2.out _).mono ?_
 rintro e w2 ⟨rfl, hB2⟩
 have HB2 := Lib.hid (hB1.out.trans (hB2.mono hB1.out.size))
 clear hB1 hB2
 go_wp2_with fail
 refine (n3.out _).mono ?_
 rintro e w3 ⟨rfl, hB3⟩
 have KWa := (Blk.new0 w2 93 #[.string (bs Q), .slice A n c, .string ⟨#[]⟩]).below hB3
 have HB3 := HB2.out.trans ((Below.on hB3 ((Below.refl _ w2).alloc (Nat.le_refl _) _)).mono HB2.out.size)
 have hbWw : w.heap.size ≤ w2.heap.size := HB2.out.size
 have hbR : w2.heap.size < w3.heap.size := KWa.lt
 obtain ⟨bW, hbW⟩ : ∃ b, w2.heap.size = b := ⟨_, rfl⟩
 obtain ⟨bR, hbRe⟩ : ∃ b, w3.heap.size = b := ⟨_, rfl⟩
 rw [hbW] at KWa hbWw hbR ⊢
 rw [hbRe] at hbR
 have h0 : CkI w bW bR (bR + 1) F D Q ⟨false, ks, none, 0, 0⟩ P A c (w3.alloc (.cells #[.bool false, .string (bs ks), .slice none 0 0] 52)) :=
  ⟨by rw [HN.out]; exact KWa.alloc _, by rw [HN.out]; exact hc, fun a o e => by
    obtain ⟨a1, o1, e1, h1, _⟩ := T.out.at 0 (by rw [HN.out]; exact hn0)
    rw [e] at e1
    injection e1 with e1
    injection e1 with e1 _
    rw [e1]; exact h1, Txts.below T.out (HB3.alloc HB3.size _), by rw [← hbRe]; exact Blk.new0 w3 _ _, by rw [← hbRe]; simp, HB3.alloc HB3.size _, .inl ⟨by rw [hks.out], hwp.out⟩, hg.out, hqn.out, by omega, hF.out.symm, by rw [HN.out]; omega⟩
 replace h0 := Lib.hid h0
 replace hbRe := Lib.hid hbRe
 replace hbW := Lib.hid hbW
 clear KWa HB3 HB2 hB3 n1 n2 n3 T hwp hF hg hqn hks HN
 go_wp2_with fail
 go_step3
 go_wp2_with fail
 rw [hbRe.out]
 go_loopg [12] Q.length (fun g s12 wx => ∃ (d : Nd) (q : Bytes) (u : Iv) (P' : List Bytes) (A' : Option Addr) (c' : Nat), q.length ≤ g ∧ Hid (CkI w bW bR (bR + 1) F d q u P' A' c' wx))
 case atStart => exact ⟨D, Q, _, P, A, c, Nat.le_refl _, h0⟩
 case round =>
  obtain ⟨d, q, ⟨uf, ut, uA, un, uc⟩, P', A', c', hqg, H⟩ := hrel
  have n1 := Lib.hid (wnode H.out hT.out hbWw (by omega))
  have K0 := Lib.hid H.out.ref
  simp only at K0 n1
  have hgd := Lib.hid H.out.good
  have hnq := Lib.hid H.out.nib
  have hlq := Lib.hid H.out.len
  have hfq := Lib.hid H.out.find
  clear H h0
  (obtain ⟨k0, f0, l0, m0⟩ := K0.out.rl)
  go_wp2_with fail
  refine n1.out.mono ?_
  rintro e w4 ⟨v, A4, c4, rfl, HJ⟩
  obtain ⟨vf, vt, vA, vn, vc⟩ := v
  have hz4 := HJ.size
  have HB5 : Below w4.heap.size w4 (w4.alloc (.cells #[.bool vf, .string (bs vt), .slice vA vn vc] 52)) := (Below.refl _ w4).alloc (Nat.le_refl _) _
  have n2 := wstep (fun j => bR + 1 ≤ j) d hgd.out bW q hnq.out (by have := hlq.out; omega) A4 (tailN kecc d q).length c4 ⟨vf, vt, vA, vn, vc⟩ _ (HJ.walk.below HB5) (HJ.rep.on HB5)
  have hT5 := Txts.below HJ.txts HB5
  have hR5 := HJ.ref.below HB5
  have hB5 := HJ.below.trans (HB5.mono HJ.below.size)
  have hoff := HJ.off
  have hcap := HJ.cap
  have KXa := Blk.new0 w4 52 #[.bool vf, .string (bs vt), .slice vA vn vc]
  obtain ⟨w5, hw5⟩ : ∃ w5, w4.alloc (.cells #[.bool vf, .string (bs vt), .slice vA vn vc] 52) = w5 := ⟨_, rfl⟩
  rw [hw5] at n2 hT5 hR5 hB5 KXa HB5
  have hz5 := HB5.size
  have K1 := Lib.hid KXa
  replace n2 := Lib.hid n2
  replace hT5 := Lib.hid hT5
  replace hR5 := Lib.hid hR5
  replace hB5 := Lib.hid hB5
  replace hoff := Lib.hid hoff
  replace hcap := Lib.hid hcap
  replace hw5 := Lib.hid hw5
  have hbxR : bR < w4.heap.size := by omega
  (try simp only at n2)
  clear k0 f0 l0 m0 K0 HJ KXa HB5 n1
  (obtain ⟨k1, f1, l1, m1⟩ := K1.out.rl)
  go_wp2_with (first | rw [hw5.out])
  refine n2.out.mono ?_
  rintro e w6 ⟨hG6, hst⟩
  have hT6 := Lib.hid (txts_gr hT5.out (fun a o e => by have := hoff.out a o e; omega) hG6)
  have hR6 := Lib.hid (hR5.out.grown hG6 (by intro e; injection e with e; omega))
  have hB6 := Lib.hid (hB5.out.grown hG6 hB5.out.size (fun j e => by injection e with e; omega))
  have hz6 := hG6.size
  clear hT5 hR5 hB5 k1 f1 l1 m1 K1 hG6 n2 hw5
  rcases hst with ⟨x, ⟨zf, zt, zA, zn, zc⟩, hpk, rfl, RZ, KZ⟩ | ⟨hpk, q', rfl, KZ⟩ | ⟨hpk, hf0, ⟨zf, zt, zA, zn, zc⟩, q', rfl, KZ⟩
  ·have HB7 : Below w6.heap.size w6 (w6.alloc (.cells #[.bool zf, .string (bs zt), .slice zA zn zc] 52)) := (Below.refl _ w6).alloc (Nat.le_refl _) _
   have K3a := Blk.new0 w6 52 #[.bool zf, .string (bs zt), .slice zA zn zc]
   have K0a := hR6.out.below HB7
   have KWa := KZ.below HB7
   have hT7 := Txts.below hT6.out HB7
   have hB7 := hB6.out.trans (HB7.mono hB6.out.size)
   have RZ7 := RZ.on HB7
   have hz7 := HB7.size
   obtain ⟨w7, hw7⟩ : ∃ w7, w6.alloc (.cells #[.bool zf, .string (bs zt), .slice zA zn zc] 52) = w7 := ⟨_, rfl⟩
   rw [hw7] at K3a K0a KWa hT7 hB7 RZ7 hz7
   replace hw7 := Lib.hid hw7
   obtain ⟨hxm, hxt⟩ := pick_some hpk
   have hgx := good_kids d hgd.out x hxm
   have hxl : x.1.length ≤ q.length := by have := congrArg List.length hxt; rw [List.length_take] at this; omega
   have htl : tailN kecc d q = wayN kecc false x.2 (q.drop x.1.length) := by unfold tailN; rw [hpk]; rfl
   have hfn : findN d q = findN x.2 (q.drop x.1.length) := by
    match d, hpk with
    | .leaf _ _, hpk => cases hpk
    | .ext p nd, hpk =>
     rw [findN, kidsN] at *
     by_cases h : q.take p.length = p
     ·rw [if_pos h]
      rw [pick_yes (x := (p, nd)) h] at hpk
      injection hpk with hpk
      subst hpk
      rfl
     ·rw [pick_no (x := (p, nd)) h] at hpk
      cases hpk
    | .br ch, hpk =>
     rw [findN, findC_pick, show pickN (kidsC ch) q = some x from hpk]
   have hnew : ∀ W : World, (∀ b, b < w7.heap.size → b ≠ bR → W.heap[b]? = w7.heap[b]?) → w7.heap.size ≤ W.heap.size → Below w.heap.size w W → Blk W bR 52 #[.bool zf, .string (bs zt), .slice zA zn zc] →
     CkI w bW bR (bR + 1) F x.2 (q.drop x.1.length) ⟨zf, zt, zA, zn, zc⟩ (tailN kecc d q) A4 c4 W := fun W hk hz hB hR => by
    refine ⟨(hk bW (Nat.lt_of_lt_of_le KWa.lt (Nat.le_refl _)) (by omega)).trans KWa, hcap.out, hoff.out, ?_, hR, by omega, hB, ?_, hgx.2.2.2, hnq.out.drop _, by rw [List.length_drop]; have := hlq.out; omega, by rw [hfq.out, hfn], ?_⟩
    ·intro h0
     obtain ⟨b1, o1, ha1, hb1, hc1⟩ := hT7 h0
     exact ⟨b1, o1, ha1, by omega, fun i y hy => (World.cell?_of_block (a := ⟨b1, _, none⟩) (hk b1 hb1 (by have := hoff.out b1 o1 ha1; omega))).trans (hc1 i y hy)⟩
    ·rw [htl, way_pick]
     rcases ref_full kecc kecc_len x.2 with ⟨l, e, e2, hl⟩ | ⟨e, hl⟩
     ·refine .inr ⟨?_, ?_, ?_⟩
      ·have := RZ7.flag
       rw [e] at this
       exact this
      ·rw [e2, ← e]
       exact RZ7.keep hz fun b hb hlt => ⟨hb, hk b hlt (by omega)⟩
      ·have : ownN kecc false x.2 = [] := by unfold ownN; rw [if_neg (by simp; omega)]
       rw [this, List.nil_append]
     ·refine .inl ⟨?_, ?_⟩
      ·have h9 := RZ7
       rw [e] at h9
       exact h9.txt
      ·have : ownN kecc false x.2 = [bytesN kecc x.2] := by unfold ownN; rw [if_pos (by simp; omega)]
       rw [this, List.singleton_append]
    ·rw [htl]
     have := way_len kecc _ false x.2 (q.drop x.1.length) (Nat.le_refl _) hgx.2.2.2
     rw [List.length_drop] at this
     have := hlq.out
     omega
   replace hnew := Lib.hid hnew
   have K0 := Lib.hid K0a
   have K3 := Lib.hid K3a
   have hlen : Hid ((q.drop x.1.length).length < gk) := Lib.hid (by rw [List.length_drop]; have := hgx.1; omega)
   replace hB7 := Lib.hid hB7
   clear K0a K3a KWa hT7 RZ7 RZ KZ hpk hxm hxt hgx hxl htl hfn HB7 hT6 hR6 hB6 hgd hnq hlq hfq hoff hcap
   (obtain ⟨k0, f0, l0, m0⟩ := K0.out.rl; obtain ⟨k3, f3, l3, m3⟩ := K3.out.rl)
   go_wp2_with (first | rw [hw7.out])
   go_roundg (q.drop x.1.length).length
   case measure => exact hlen.out
   case rel => exact ⟨x.2, q.drop x.1.length, ⟨zf, zt, zA, zn, zc⟩, tailN kecc d q, A4, c4, Nat.le_refl _, Lib.hid (hnew.out _ (fun b hb hn => by rw [Below.heap_setCell _ _ _ _ (by simpa using hn), Below.heap_setCell _ _ _ _ (by simpa using hn), Below.heap_setCell _ _ _ _ (by simpa using hn)]) (by simp) (((hB7.out.setCell (by simp; omega) _).setCell (by simp; omega) _).setCell (by simp; omega) _) (Blk.to (Blk.set_ (Blk.set_ (Blk.set_ K0.out 0 _) 1 _) 2 _) rfl))⟩
  ·have htl : tailN kecc d q = [] := by unfold tailN; rw [hpk]; rfl
   rw [htl] at KZ
   have hF9 := Lib.hid hfq.out
   rw [← hfq.out] at KZ
   have K2a := KZ.alloc (.cells #[.bool false, .string (bs []), .slice none 0 0] 52)
   have HBe := hB6.out.alloc hB6.out.size (.cells #[.bool false, .string (bs []), .slice none 0 0] 52)
   obtain ⟨w8, hw8⟩ : ∃ w8, w6.alloc (.cells #[.bool false, .string (bs []), .slice none 0 0] 52) = w8 := ⟨_, rfl⟩
   rw [hw8] at K2a HBe
   have K2 := Lib.hid K2a
   replace HBe := Lib.hid HBe
   replace hw8 := Lib.hid hw8
   clear KZ htl hpk hT6 hR6 hB6 hgd hnq hlq hfq hoff hcap K2a
   (obtain ⟨k2, f2, l2, m2⟩ := K2.out.rl)
   go_wp2_with (first | rw [hw8.out])
   (refine wp_region_later (by kernel_rfl) (by kernel_rfl) ?_; (repeat (go_big_quiet_step (fail))); refine wpQuiet_nil ?_; intro w' hB)
   have HBf := Lib.hid (HBe.out.trans (hB.mono HBe.out.size))
   clear hB
   go_wp2_with fail
   rw [Exit.noGoto_ret]
   exact bodyPost_ret (v := .tuple #[.string (bs F), .bool (!List.isEmpty F), .int .i64 0]) (by simp (maxDischargeDepth := 9) [results, Tryz.results18, go_sem] <;> rfl) rfl ⟨rfl, HBf.out⟩
  ·have htl : tailN kecc d q = [] := by unfold tailN; rw [hpk]; rfl
   rw [htl] at KZ
   obtain rfl : F = [] := by rw [hfq.out, hf0]
   clear hf0
   have K2a := KZ.alloc (.cells #[.bool zf, .string (bs zt), .slice zA zn zc] 52)
   have HBe := hB6.out.alloc hB6.out.size (.cells #[.bool zf, .string (bs zt), .slice zA zn zc] 52)
   obtain ⟨w8, hw8⟩ : ∃ w8, w6.alloc (.cells #[.bool zf, .string (bs zt), .slice zA zn zc] 52) = w8 := ⟨_, rfl⟩
   rw [hw8] at K2a HBe
   have K2 := Lib.hid K2a
   replace HBe := Lib.hid HBe
   replace hw8 := Lib.hid hw8
   clear KZ htl hpk hT6 hR6 hB6 hgd hnq hlq hfq hoff hcap K2a
   (obtain ⟨k2, f2, l2, m2⟩ := K2.out.rl)
   go_wp2_with (first | rw [hw8.out])
   (refine wp_region_later (by kernel_rfl) (by kernel_rfl) ?_; (repeat (go_big_quiet_step (fail))); refine wpQuiet_nil ?_; intro w' hB)
   have HBf := Lib.hid (HBe.out.trans (hB.mono HBe.out.size))
   clear hB
   go_wp2_with fail
   rw [Exit.noGoto_ret]
   exact bodyPost_ret (v := .tuple #[.string (bs ([] : Bytes)), .bool (!List.isEmpty ([] : Bytes)), .int .i64 0]) (by simp (maxDischargeDepth := 9) [results, Tryz.results18, go_sem] <;> rfl) rfl ⟨rfl, HBf.out⟩
end Go.Proofs.YthhlbdgladhdkaaGreatDoor
end
section
namespace Go.Proofs.YthhlbdgladhdkaaGreatDoor
open BigFrame Go.RowKit Go.Phx Go.Shelf
attribute [local go_sem] Oper.semAt_some

set_option maxRecDepth 100000 in
set_option maxHeartbeats 4000000 in
theorem proven_calls (A : Option Addr) (c : Nat) (l : List (Bytes × Bytes)) (K : Nat) (G : GoodL l K) (key : Bytes) (hk : key.length = K) (w : World) (R : Cs w A (PrL l)) (hT : HasT w) :
  Calls Tryz.prog 9 #[.slice A l.length c, .string (bs key)] w (Ret w (.tuple #[.string (bs (lookP l key)), .bool (!(lookP l key).isEmpty), .bool true])) := by
 have hle := G.le
 have hone := G.one
 have n1 := Root_calls A c l K G w R hT
 have n2 := fun W (hB : Below w.heap.size w W) => Prove_calls A c l K G key hk W (R.below hB) (hT.below hB)
 replace n1 := Lib.hid n1
 replace n2 := Lib.hid n2
 replace hT := Lib.hid hT
 obtain ⟨rt, hrt⟩ : ∃ rt, kecc (bytesN kecc (trieL l)) = rt := ⟨_, rfl⟩
 rw [hrt] at n1
 have HR := Lib.hid hrt
 clear hrt R
 go_enter Tryz.func9, Tryz.ntmps9
 go_wp2_with fail
 refine n1.out.mono ?_
 rintro e w1 ⟨rfl, hB1⟩
 replace hB1 := Lib.hid hB1
 go_wp2_with fail
 refine (n2.out _ hB1.out).mono ?_
 rintro e w2 ⟨A', c', rfl, hc', T, hB2, hg, hf⟩
 have HB2 := Lib.hid (hB1.out.trans (hB2.mono hB1.out.size))
 have n3 := Check_calls (trieL l) hg key (fun e => by rw [e] at hk; simp at hk; omega) (by omega) A' c' hc' w2 (hT.out.below HB2.out) T
 rw [hf, HR.out] at n3
 obtain ⟨n, hn⟩ : ∃ n, (wayN kecc true (trieL l) (pathOf key)).length = n := ⟨_, rfl⟩
 rw [hn] at n3 ⊢
 obtain ⟨F, hF⟩ : ∃ F, lookP l key = F := ⟨_, rfl⟩
 rw [hF] at n3
 have HF := Lib.hid hF
 replace n3 := Lib.hid n3
 clear hc' T hg hf hB2 hB1 n1 n2 hn hF
 go_wp2_with fail
 refine n3.out.mono ?_
 rintro e w3 ⟨rfl, hB3⟩
 replace hB3 := Lib.hid (HB2.out.trans (hB3.mono HB2.out.size))
 go_wp2_with fail
 refine bodyPost_ret (v := .tuple #[.string (bs F), .bool (!F.isEmpty), .bool true]) (by simp (maxDischargeDepth := 9) [results, Tryz.results9, go_sem]) rfl ⟨by rw [HF.out], hB3.out⟩
end Go.Proofs.YthhlbdgladhdkaaGreatDoor
end
section
namespace Go.Proofs.YthhlbdgladhdkaaGreatDoor
open BigFrame Go.RowKit Go.Phx Go.Shelf
attribute [local go_sem] Oper.semAt_some

def wbK (L : List Int) : Bytes := (List.range 32).map fun i => UInt8.ofNat (L.getD (3 - i / 8) 0 / 2 ^ (56 - 8 * (i % 8)) % 256).toNat
noncomputable def wbF (L : List Int) : Bytes := shutV (wbK L)
theorem wbF_len (L : List Int) : (wbF L).length = 32 := by unfold wbF; rw [shutV_eq]; simp [wbK]
theorem wbK_at (A : List Int) (k : Nat) (hk : k < 32) : (((wbK A).getD k 0).toNat : Int) = A.getD (3 - k / 8) 0 / 2 ^ (56 - 8 * (k % 8)) % 256 := by
 unfold wbK
 rw [List.getD, List.getElem?_map, List.getElem?_range hk]
 simp only [Option.map_some, Option.getD_some, UInt8.toNat_ofNat']
 generalize A.getD (3 - k / 8) 0 / 2 ^ (56 - 8 * (k % 8)) = x
 omega
abbrev wdV (a b c d : Int) : Value := .agg #[.int .u64 a, .int .u64 b, .int .u64 c, .int .u64 d]
set_option maxRecDepth 100000 in
set_option maxHeartbeats 16000000 in
theorem wbytes_calls (a b c d : Int) (w : World) : Calls Tryz.prog 6 #[wdV a b c d] w (Ret w (.string (bs (wbF [a, b, c, d])))) := by
 have hDl := wbF_len [a, b, c, d]
 have hDk : ∀ k, k < 32 → (((wbF [a, b, c, d]).getD k 0).toNat : Int) = [a, b, c, d].getD (3 - k / 8) 0 / 2 ^ (56 - 8 * (k % 8)) % 256 := fun k hk => by unfold wbF; rw [shutV_eq]; exact wbK_at _ k hk
 generalize wbF [a, b, c, d] = D at *
 obtain ⟨S, hS⟩ : ∃ S, [a, b, c, d] = S := ⟨_, rfl⟩
 have hSl : S.length = 4 := by rw [← hS]; rfl
 have hcs : (#[.int .u64 a, .int .u64 b, .int .u64 c, .int .u64 d] : Array Value) = c6 S := by rw [← hS]; rfl
 rw [hS] at hDk
 replace hDk := Lib.hid hDk
 replace hcs := Lib.hid hcs
 clear hS
 go_enter Tryz.func6, Tryz.ntmps6
 go_wp2_with fail
 have HB0 : Below w.heap.size w ((w.alloc (.cells #[.int .u64 a, .int .u64 b, .int .u64 c, .int .u64 d] 25)).alloc (.cells (bcells 32 D 0) 47)) := bel
 have KA := (Blk.new0 w 25 #[.int .u64 a, .int .u64 b, .int .u64 c, .int .u64 d]).alloc (.cells (bcells 32 D 0) 47)
 have KQ := Blk.new1 w (.cells #[.int .u64 a, .int .u64 b, .int .u64 c, .int .u64 d] 25) 47 (bcells 32 D 0)
 have KA2 : Blk ((w.alloc (.cells #[.int .u64 a, .int .u64 b, .int .u64 c, .int .u64 d] 25)).alloc (.cells (bcells 32 D 0) 47)) w.heap.size 25 (c6 S) := by rw [← hcs.out]; exact KA
 go_loopw [5] (fun i wr => ∃ k : Nat, k ≤ 32 ∧ i = .int .i64 k ∧ Blk wr w.heap.size 25 (c6 S) ∧ Blk wr (w.heap.size + 1) 47 (bcells 32 D k) ∧ Below w.heap.size w wr) (fun i _ => (32 - intOf i).toNat)
 case atStart => exact ⟨0, Nat.zero_le _, rfl, KA2, KQ, HB0⟩
 case round =>
  clear KA KQ HB0 KA2
  obtain ⟨k, hk, rfl, K1, K0, HB⟩ := hrel
  by_cases hkt : k < 32
  ·have hd := hDk.out k hkt
   have g0 := c6_get (L := S) (i := 3 - k / 8) (by omega)
   have g1 := bcells_at 32 D k hkt hDl
   have hset := bcells_set 32 D k hkt hDl _ hd.symm
   generalize S.getD (3 - k / 8) 0 = x0 at *
   have e0 : (3 - (k : Int) / 8).toNat = 3 - k / 8 := by omega
   have e00 : (0 : Int) ≤ 3 - (k : Int) / 8 := by omega
   have e01 : 3 - (k : Int) / 8 < 4 := by omega
   have e1 : (56 - 8 * ((k : Int) % 8)).toNat = 56 - 8 * (k % 8) := by omega
   have e2 : (0 : Int) ≤ 56 - 8 * ((k : Int) % 8) := by omega
   replace hset := Lib.hid hset
   replace hd := Lib.hid hd
   replace K0 := Lib.hid K0
   replace K1 := Lib.hid K1
   replace HB := Lib.hid HB
   (obtain ⟨k0, f0, l0, m0⟩ := K0.out.rl; obtain ⟨k1, f1, l1, m1⟩ := K1.out.rl)
   go_wp2_with fail
   go_roundw
   case rel => exact ⟨k + 1, by omega, by go_num, K1.out.over2 (by omega), by rw [← hset.out]; exact K0.out.set_ _ _, HB.out.setCell (by simp) _⟩
   case measure => simp [intOf]; omega
  ·obtain rfl : k = 32 := by omega
   rw [bcells_all 32 D hDl] at K0
   have hcv := fun c => conv_row _ (w.heap.size + 1) _ D 32 c K0 hDl
   replace K0 := Lib.hid K0
   replace HB := Lib.hid HB
   clear K1 hDk
   simp only [show ((32 : Nat) : Int) = 32 from rfl]
   go_wp2_with fail
   go_ret
   exact ⟨rfl, HB.out⟩
end Go.Proofs.YthhlbdgladhdkaaGreatDoor
end
