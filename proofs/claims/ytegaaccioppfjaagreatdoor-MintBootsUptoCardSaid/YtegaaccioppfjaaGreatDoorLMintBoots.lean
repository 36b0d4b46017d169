/- The Boot of a slot, secrets and roots, by the program and by the reference: any of these (the first twenty secrets), their bulk bounded. -/
import Derived.Test.YtegaaccioppfjaaGreatDoorFm25
import Derived.Test.YtegaaccioppfjaaGreatDoorFm27
import Derived.Test.YtegaaccioppfjaaGreatDoorFm11
import Derived.Test.YtegaaccioppfjaaGreatDoorFm16
import Derived.WalkKit
import Derived.ProofKit
import Derived.OpenShut
set_option linter.unusedSimpArgs false
set_option linter.unusedVariables false
namespace Go.Proofs.YtegaaccioppfjaaGreatDoor
open BigFrame Go.RowKit Go.Phx Go.Shelf
attribute [local go_sem] Oper.semAt_some
namespace lawMintBoots

set_option maxRecDepth 100000 in
set_option maxHeartbeats 4000000 in
theorem walk (sl : Int) (h0 : 0 ≤ sl) (h1 : sl ≤ 18446744073709551615) (A : Option Addr) (c : Nat) (l : List Nat) (a r : Bytes) (w : World) (hl : NumsAll w A c l) (hk : HasK w) :
    Calls Tryz.prog 15 #[.int .u64 sl, .slice A l.length c, .string (bs a), .string (bs r)] w (Ret w (.bool true)) := by
  obtain ⟨slot, rfl⟩ : ∃ n : Nat, sl = n := ⟨sl.toNat, (Int.toNat_of_nonneg h0).symm⟩
  have hn : slot < 18446744073709551616 := by omega
  obtain ⟨L, hL⟩ : ∃ L, l.take 20 = L := ⟨_, rfl⟩
  have hLl : L.length = min l.length 20 := by rw [← hL, List.length_take]; omega
  have hi := hl.cut
  rw [hL] at hi
  have e1 : min (l.length : Int) 20 = (L.length : Int) := by omega
  have hyn : L.length ≤ l.length := by omega
  have hcc : l.length ≤ c := hl.2.1
  have hyc : L.length ≤ c := by omega
  have n1 := Lib.hid (fun W (hB : Below w.heap.size w W) => shown15_calls W (hk.on hB))
  have n2 := Lib.hid (fun W (hB : Below w.heap.size w W) => mboot_calls slot A c L a r hn W (hk.on hB) (hi.below hB))
  have n3 := Lib.hid (fun W (hB : Below w.heap.size w W) => rmboot_calls slot A c L a r hn W (hi.below hB))
  have n6 := Lib.hid (fun x y W (hx : BtIn W x) (hy : BtIn W y) => rsameBt_calls x y W hx hy)
  obtain ⟨be, hbe⟩ : ∃ be, bootE L a r = be := ⟨_, rfl⟩
  obtain ⟨rt, hrt⟩ : ∃ rt, bootR slot L a r = rt := ⟨_, rfl⟩
  rw [hbe, hrt] at n2 n3
  clear hbe hrt hk hi hl hL hLl h0 h1 hn
  have HB := Below.refl w.heap.size w
  go_enter Tryz.func15, Tryz.ntmps15
  go_wp2_with fail
  (refine (n1.out _ HB).mono ?_; rintro e w1 ⟨rfl, hN⟩; have HBn : Below w.heap.size w w1 := Below.on hN HB; clear hN HB ; have HB := HBn; clear HBn)
  clear n1
  go_wp2_with fail
  (refine (n2.out _ HB).mono ?_; rintro e w2 ⟨bt, rfl, hbt, hN⟩; have HBn : Below w.heap.size w w2 := Below.on hN HB; clear hN HB ; have HB := HBn; clear HBn)
  have B1 := Lib.hid hbt.1
  replace hbt := Lib.hid hbt
  clear n2
  (go_wp2_with (first | (with_reducible refine wpList_store_halt (o := ⟨_, .store 45 _ _, _, _, _, none⟩) (stBt (Bt.zero) (Blk.new0 w2 45 (btA (Bt.zero))) (bt)) rfl _ _ rfl rfl rfl ?_)); generalize hWN : setRow _ _ _ _ = WN; have N0 := (show Blk WN (World.heap w2).size 45 (btA (bt)) by rw [← hWN]; exact Blk.row (by simp)); have HBn : Below w.heap.size w WN := (by rw [← hWN]; exact Below.row (HB.alloc HB.size _) HB.size (by have := HB.size; simp; omega)); have HBx : Below (World.heap w2).size w2 WN := (by rw [← hWN]; exact Below.row ((Below.refl _ _).alloc (Nat.le_refl _) _) (Nat.le_refl _) (by simp)); have NB1 := Lib.hid (B1.out.below HBx); obtain ⟨g0, hgj⟩ : ∃ g, (World.heap w2).size = g := ⟨_, rfl⟩; have hgl0 : w.heap.size ≤ g0 := (by rw [← hgj]; exact HB.size); rw [hgj] at N0 ⊢; replace N0 := Lib.hid N0; clear hWN hgj HB HBx  B1; have K0 := N0; clear N0; have B1 := NB1; clear NB1; have HB := HBn; clear HBn; (have k0 := Blk.cell K0.out; have f0 := Blk.free K0.out; have l0 := Blk.lt K0.out; have m0 := Nat.le_of_lt l0); unfold Halted)
  obtain ⟨w3, rfl⟩ : ∃ w', w' = WN := ⟨_, rfl⟩
  go_wp2_with fail
  (refine (n3.out _ HB).mono ?_; rintro e w4 ⟨bt2, rfl, hbt2, hN⟩; have N0 := Lib.hid (K0.out.below hN); have NB1 := Lib.hid (B1.out.below hN); have HBn : Below w.heap.size w w4 := Below.on hN HB; clear hN HB K0 k0 f0 l0 m0 B1; have K0 := N0; clear N0; have B1 := NB1; clear NB1; have HB := HBn; clear HBn; (have k0 := Blk.cell K0.out; have f0 := Blk.free K0.out; have l0 := Blk.lt K0.out; have m0 := Nat.le_of_lt l0))
  have B2 := Lib.hid hbt2.1
  replace hbt2 := Lib.hid hbt2
  clear n3
  (go_wp2_with (first | (with_reducible refine wpList_store_halt (o := ⟨_, .store 45 _ _, _, _, _, none⟩) (stBt (Bt.zero) (Blk.new0 w4 45 (btA (Bt.zero))) (bt2)) rfl _ _ rfl rfl rfl ?_)); generalize hWN : setRow _ _ _ _ = WN; have N0 := Lib.hid (show Blk WN _ _ _ by rw [← hWN]; exact Blk.rowOver (Nat.ne_of_lt K0.out.lt) (K0.out.alloc _)); have N1 := (show Blk WN (World.heap w4).size 45 (btA (bt2)) by rw [← hWN]; exact Blk.row (by simp)); have HBn : Below w.heap.size w WN := (by rw [← hWN]; exact Below.row (HB.alloc HB.size _) HB.size (by have := HB.size; simp; omega)); have HBx : Below (World.heap w4).size w4 WN := (by rw [← hWN]; exact Below.row ((Below.refl _ _).alloc (Nat.le_refl _) _) (Nat.le_refl _) (by simp)); have NB1 := Lib.hid (B1.out.below HBx); have NB2 := Lib.hid (B2.out.below HBx); obtain ⟨g1, hgj⟩ : ∃ g, (World.heap w4).size = g := ⟨_, rfl⟩; have hg0_1 : _ < g1 := (by rw [← hgj]; exact l0); have hgl1 : w.heap.size ≤ g1 := (by rw [← hgj]; exact HB.size); rw [hgj] at N1 ⊢; replace N1 := Lib.hid N1; clear hWN hgj HB HBx K0 k0 f0 l0 m0 B1 B2; have K0 := N0; clear N0; have K1 := N1; clear N1; have B1 := NB1; clear NB1; have B2 := NB2; clear NB2; have HB := HBn; clear HBn; (have k0 := Blk.cell K0.out; have f0 := Blk.free K0.out; have l0 := Blk.lt K0.out; have m0 := Nat.le_of_lt l0; have k1 := Blk.cell K1.out; have f1 := Blk.free K1.out; have l1 := Blk.lt K1.out; have m1 := Nat.le_of_lt l1); unfold Halted)
  obtain ⟨w5, rfl⟩ : ∃ w', w' = WN := ⟨_, rfl⟩
  have n62 := n6.out bt bt2
  rw [sameBt_bare (hbt.out.same hbt2.out)] at n62
  replace n62 := Lib.hid n62
  clear n6 hbt hbt2
  go_wp2_with (first | (with_reducible refine wpList_load_run (o := ⟨_, .load 45 _, _, _, _, none⟩) (ldBt _ K0.out) rfl _ rfl rfl ?_) | (with_reducible refine wpList_load_run_g (o := ⟨_, .load 45 _, _, _, _, some _⟩) (ldBt _ K0.out) (by with_unfolding_all rfl) _ rfl rfl ?_) | (with_reducible refine wpList_load_run (o := ⟨_, .load 45 _, _, _, _, none⟩) (ldBt _ K1.out) rfl _ rfl rfl ?_) | (with_reducible refine wpList_load_run_g (o := ⟨_, .load 45 _, _, _, _, some _⟩) (ldBt _ K1.out) (by with_unfolding_all rfl) _ rfl rfl ?_))
  (refine (n62.out _ B1.out B2.out).mono ?_; rintro e w6 ⟨rfl, hN⟩; have N0 := Lib.hid (K0.out.below hN); have N1 := Lib.hid (K1.out.below hN); have HBn : Below w.heap.size w w6 := Below.on hN HB; clear hN HB K0 k0 f0 l0 m0 K1 k1 f1 l1 m1; have K0 := N0; clear N0; have K1 := N1; clear N1; have HB := HBn; clear HBn; (have k0 := Blk.cell K0.out; have f0 := Blk.free K0.out; have l0 := Blk.lt K0.out; have m0 := Nat.le_of_lt l0; have k1 := Blk.cell K1.out; have f1 := Blk.free K1.out; have l1 := Blk.lt K1.out; have m1 := Nat.le_of_lt l1))
  go_wp2_with fail
  go_ret
  exact ⟨by simp, HB⟩
open Go.ChangeShapes Go.WideShapes Go.ChangeAt Go.Joins

set_option maxRecDepth 100000 in
theorem contract (H : Type) (enc : TypeId × Value → H) (W : World) (base : Nat) (args : Array Value) (ds gs : List (DataW H)) (before : List MemPlace)
    (hval0 : ∀ (j : Nat) t v, Tryz.f15.params[j]? = some t → args[j]? = some v → Value.okWide Tryz.prog W .any base t v)
    (hW : DataW.Whole enc Tryz.prog Tryz.f15.params.toList Rows.mintBootsSpec.vars false W args.toList ds gs before) (hsmall : Rows.uptoSmall H (ds ++ gs) = true)
    (hL : laidMetH Tryz.prog Rows.mintBootsUptoRow.laid W) :
    Calls Tryz.prog 15 args W fun e W' => ∃ v, e = .returned v ∧ Rows.mintBootsSpec.post enc Tryz.prog Tryz.f15 false true false false W args v W' := by
  have hval := hval0
  have hW' := hW
  obtain ⟨p, q, hA0, hV, rfl, hfz, hnd⟩ := hW
  have hA : DataW.TrodAll enc Tryz.prog W 0 (fun _ => true) true Tryz.f15.params.toList args.toList ds p := hA0
  rw [Tryz.params15] at hA hval
  have hAk := hA
  obtain ⟨v0, vs0, d0, ds0, p0, q0, hargs, hds0, hps0, h0, r0⟩ := trodAll_cons hA
  obtain ⟨v1, vs1, d1, ds1, p1, q1, hvs1, hds1, hps1, h1, r1⟩ := trodAll_cons r0
  subst hvs1
  obtain ⟨v2, vs2, d2, ds2, p2, q2, hvs2, hds2, hps2, h2, r2⟩ := trodAll_cons r1
  subst hvs2
  obtain ⟨v3, vs3, d3, ds3, p3, q3, hvs3, hds3, hps3, h3, r3⟩ := trodAll_cons r2
  subst hvs3
  obtain ⟨hv9, hds9, hps9⟩ := trodAll_nil r3
  subst hv9
  subst hds9
  subst hds3
  subst hds2
  subst hds1
  subst hds0
  obtain rfl : args = #[v0, v1, v2, v3] := by cases args; simp_all
  obtain ⟨rfl, rfl⟩ := trodVars_none hV
  obtain ⟨a0, rfl, hd0, hp0, wa0⟩ := openU64 (hval 0 22 v0 rfl rfl) h0
  obtain ⟨A1, c1, l1, rfl, hs1⟩ := openNums (hval 1 61 v1 rfl rfl) h1
  obtain ⟨s2, rfl, hd2, hp2, ws2⟩ := openString (hval 2 9 v2 rfl rfl) h2
  obtain ⟨s3, rfl, hd3, hp3, ws3⟩ := openString (hval 3 9 v3 rfl rfl) h3
  have hb2 := bulk_string (hd2 ▸ bulk_of hsmall (d := d2) (by simp))
  have hb3 := bulk_string (hd3 ▸ bulk_of hsmall (d := d3) (by simp))
  have hK := hasK_of hL
  refine (walk a0 (bounds_u64 wa0).1 (bounds_u64 wa0).2 A1 c1 l1 s2.data.toList s3.data.toList W hs1 hK).mono fun e W' ⟨he, hg⟩ => ?_
  subst he
  have hlt : ∀ x ∈ p, x.block < W.heap.size := fun x hx => hW'.lt x (by simp [hx])
  exact ⟨_, rfl, post_below (pa := p) (pv := []) hW' (fun _ _ _ => (trodAll_cons_mk (shut_bool Tryz.underlying4 _) trodAll_mk0)) (fun sp hsp => by have := stays_all laidOut hg (by kernel_rfl) hAk hlt sp (fun x hx => hsp x (by simp [hx])); rw [← Tryz.params15] at this; exact this) (fun _ _ => rfl) rfl hg (ok_one (by kernel_rfl) rfl (okWide_bool_mk Tryz.underlying4 _))⟩
theorem laid_met (os : Os) : laidMet Tryz.prog Rows.mintBootsUptoRow.laid ((laidWorld os).forCall (fun _ _ => 0) ⟨#[], #[.int .u64 0, .slice none 0 0, .string ByteArray.empty, .string ByteArray.empty], []⟩).memory :=
  laidMet_of_run' 8 (by kernel_rfl) (by kernel_rfl)
theorem reads (os : Os) {H : Type} (enc : TypeId × Value → H) : ∃ places, DataW.whole enc Tryz.prog ((laidWorld os).forCall (fun _ _ => 0) ⟨#[], #[.int .u64 0, .slice none 0 0, .string ByteArray.empty, .string ByteArray.empty], []⟩).memory Tryz.f15.params.toList Rows.mintBootsSpec.vars false #[.int .u64 0, .slice none 0 0, .string ByteArray.empty, .string ByteArray.empty].toList 8 = some ([.lit (.int .u64 0), .nil, .lit (.string []), .lit (.string [])], [], places) :=
  ⟨[], by kernel_rfl⟩
set_option maxRecDepth 100000 in
theorem lifted (os : Os) (started : os.Started) (H : Type) (enc : TypeId × Value → H) (F : Stop.Interp) :
    ReturnsInHanded {} Tryz.checked os 15 .any ((Rows.OpenSpec.upto Rows.mintBootsSpec).preRow enc Tryz.prog Tryz.f15 Rows.mintBootsUptoRow.domain false Rows.mintBootsUptoRow.laid) (((Rows.OpenSpec.upto Rows.mintBootsSpec).at F).post enc Tryz.prog Tryz.f15 false true false false) := by
  obtain ⟨places, hx⟩ := reads os enc
  refine returnsInHanded_of_row (C := Tryz.checked) (s := Rows.OpenSpec.upto Rows.mintBootsSpec) own started (by kernel_rfl) Tryz.func15
    (witness_row_at (enc := enc) (C := Tryz.checked) false (laidWorld os) #[.int .u64 0, .slice none 0 0, .string ByteArray.empty, .string ByteArray.empty] rfl (by kernel_rfl) (by kernel_rfl) (by kernel_rfl)
      (OpenSpec.preRow_of_cond 8 hx (by kernel_rfl) (fun k hk => by cases hk; kernel_rfl) (by kernel_rfl) (laid_met os))) ?_
  intro W base args ds gs before hval hW _ hcond hreach hL _ _
  exact contract H enc W base args ds gs before hval hW (hcond _ rfl) hL
theorem and_mk {a b : Bool} (h : a = true) (k : b = true) : (a && b) = true := by rw [h, k]; rfl
set_option maxHeartbeats 40000000 in
theorem facts : joinedFacts Tryz.pinned.checked.prog 15 Tryz.f15 (Rows.OpenSpec.upto Rows.mintBootsSpec).bare Rows.mintBootsUptoRow = true := by
  unfold joinedFacts
  repeat' (with_reducible refine and_mk ?_ ?_)
  all_goals (as_aux_lemma => kernel_rfl)
theorem said : Rows.MintBootsUptoSaid :=
  OpenClaim.holds_of_cond 15 Tryz.f15 rfl rfl rfl rfl rfl rfl rfl ⟨rfl, rfl, rfl, rfl, rfl⟩ rfl rfl rfl rfl rfl (by kernel_rfl) Tryz.func15 facts
    (of_decide_eq_true (by kernel_rfl)) (by unfold Func.isWrapper; first | (rw [if_pos (by decide +kernel)]; kernel_rfl) | (rw [if_neg (by decide +kernel)]; exact ⟨rfl, rfl⟩))
    (fun os started H enc _ F => by rw [OpenClaim.pre_eq_preRow]; exact lifted os started H enc F)
theorem plain (f : FuncId) (fn : Func) (hf : Tryz.pinned.checked.prog.funcNamed "pharos/pharoslaw15.MintBoots" = some f) (hfn : Tryz.pinned.checked.prog.funcs[f]? = some fn) :
    false = Tryz.pinned.checked.prog.looks [] ∧ ∀ (j : Nat) t, fn.params[j]? = some t → Tryz.pinned.checked.prog.wantsStandIn t = false := by
  obtain rfl : f = 15 := Option.some.inj ((show Tryz.prog.funcNamed "pharos/pharoslaw15.MintBoots" = some 15 by kernel_rfl).symm.trans hf) |>.symm
  obtain rfl : fn = Tryz.f15 := (Option.some.inj (Tryz.func15.symm.trans hfn)).symm
  refine ⟨by kernel_rfl, fun j t ht => ?_⟩
  rw [Tryz.params15] at ht
  have hm : t ∈ [22, 61, 9, 9] := by simpa using Array.mem_of_getElem? ht
  have hall : ∀ t ∈ [22, 61, 9, 9], Tryz.prog.wantsStandIn t = false := by
    intro t h
    simp only [List.mem_cons, List.not_mem_nil, or_false] at h
    rcases h with rfl | rfl | rfl | rfl <;> kernel_rfl
  exact hall t hm

/-- THE STATEMENT'S CARD -/
theorem proved : Rows.MintBootsUptoCardSaid :=
  Claim7.holds_tied_plain_at .later [] _ _ _ _ said (fun _ h => by cases h) (by kernel_rfl) (fun _ h => by cases h) mintBootsUpto_row_tie rfl ⟨rfl, rfl⟩ (by kernel_rfl) rfl plain (by kernel_rfl)

end lawMintBoots
end Go.Proofs.YtegaaccioppfjaaGreatDoor
