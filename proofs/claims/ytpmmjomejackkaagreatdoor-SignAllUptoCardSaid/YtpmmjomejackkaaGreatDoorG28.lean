/- What the later texts stand on (SgnK, SgnL, SgnM): plain laws and walks, each by its own conditions. -/
import Derived.Test.YtpmmjomejackkaaGreatDoorG23
import Derived.Test.YtpmmjomejackkaaGreatDoorG27
section
set_option linter.unusedSimpArgs false
set_option linter.unusedVariables false
namespace Go.Proofs.YtpmmjomejackkaaGreatDoor
open BigFrame Go.RowKit Go.Phx Go.Shelf
attribute [local go_sem] Oper.semAt_some

set_option maxRecDepth 100000 in
set_option maxHeartbeats 4000000 in
theorem rholds_go (k s : E) (t : List UInt8) (L1 L2 : F2) (hk : pf k = false) (r : Bool) (G H : E)
    (n2 : ∀ w, Calls Tryz.prog 31 #[] w (Ret w (.agg #[.int .u64 (px G), .int .u64 (py G), .bool (pf G)])))
    (n3 : ∀ w, Calls Tryz.prog 32 #[.string (bs t)] w (Ret w (.agg #[.int .u64 (px H), .int .u64 (py H), .bool (pf H)])))
    (n4 : ∀ w, Calls Tryz.prog 30 #[.agg #[.int .u64 (px s), .int .u64 (py s), .bool (pf s)], .agg #[.int .u64 (px G), .int .u64 (py G), .bool (pf G)]] w (Ret w (v2' L1)))
    (n5 : ∀ w, Calls Tryz.prog 30 #[.agg #[.int .u64 (px H), .int .u64 (py H), .bool (pf H)], .agg #[.int .u64 (px k), .int .u64 (py k), .bool (pf k)]] w (Ret w (v2' L2)))
    (hr : sameF L1 L2 = r) (w : World) :
    Calls Tryz.prog 15 #[.agg #[.int .u64 (px k), .int .u64 (py k), .bool (pf k)], .string (bs t), .agg #[.int .u64 (px s), .int .u64 (py s), .bool (pf s)]] w (Ret w (.bool r)) := by
  replace n2 := Lib.hid n2
  replace n3 := Lib.hid n3
  rw [hk] at n5
  replace n4 := Lib.hid n4
  replace n5 := Lib.hid n5
  unfold sameF at hr
  cases e1 : (vz L1.1 == vz L2.1)
  · rw [e1] at hr
    obtain rfl : false = r := hr
    go_enter Tryz.func15, Tryz.ntmps15
    go_wp2_with fail
    have hB := Below.refl w.heap.size w
    have K0 := Lib.hid (Blk.new0 w 32 #[.int .u64 (px k), .int .u64 (py k), .bool (pf k)])
    have K1 := Lib.hid (K0.out.alloc (.cells #[.int .u64 (px s), .int .u64 (py s), .bool (pf s)] 32))
    have K2 := Lib.hid (Blk.new1 w (.cells #[.int .u64 (px k), .int .u64 (py k), .bool (pf k)] 32) 32 #[.int .u64 (px s), .int .u64 (py s), .bool (pf s)])
    have hBz := (hB.alloc (Nat.le_refl _) (.cells #[.int .u64 (px k), .int .u64 (py k), .bool (pf k)] 32)).alloc (by simp) (.cells #[.int .u64 (px s), .int .u64 (py s), .bool (pf s)] 32)
    rw [hk] at K0 K1 K2 hBz
    obtain ⟨W1, hW1⟩ : ∃ W1, (w.alloc (.cells #[.int .u64 (px k), .int .u64 (py k), .bool false] 32)).alloc (.cells #[.int .u64 (px s), .int .u64 (py s), .bool (pf s)] 32) = W1 := ⟨_, rfl⟩
    rw [hW1] at K1 K2 hBz ⊢
    clear K0 hW1 hB
    (have k1 := Blk.cell K1.out; have f1 := Blk.free K1.out; have l1 := Blk.lt K1.out; have m1 := Nat.le_of_lt l1; have k2 := Blk.cell K2.out; have f2 := Blk.free K2.out; have l2 := Blk.lt K2.out; have m2 := Nat.le_of_lt l2)
    go_wp2_with fail
    have hwf : ∀ f, Fence.wide.fn f := fun _ => trivial
    refine (wpIn_wide (n := 9)).1 ?_
    refine wpIn_round_held (fun w' => Below W1.heap.size W1 w') (fun j => true) (by kernel_rfl) ?_
    have hS0 : Below W1.heap.size W1 W1.drew := (Below.refl _ _).drew
    clear k1 f1 l1 m1 k2 f2 l2 m2
    refine S_take (fun _ => trivial) 0 (.agg #[.int .u64 (px s), .int .u64 (py s), .bool (pf s)]) (by kernel_rfl) rfl (by kernel_rfl) (by kernel_rfl) (by kernel_rfl) (by kernel_rfl) (onlyN_panic _ _) hS0 (by rfl) (fun w' h => ?_) ?_
    · have K7 := Lib.hid (K2.out.below h)
      (have k7 := Blk.cell K7.out; have f7 := Blk.free K7.out; have l7 := Blk.lt K7.out; have m7 := Nat.le_of_lt l7)
      go_simp
    refine S_take (fun _ => trivial) 3 (.string (bs t)) (by kernel_rfl) rfl (by kernel_rfl) (by kernel_rfl) (by kernel_rfl) (by kernel_rfl) (onlyN_panic _ _) hS0 (by rfl) (fun w' h => by first | (go_simp; done) | (have d1' := (h.cell (p := _) hgr).trans d1; have d2' := (h.cell (p := _) hgr).trans d2; go_simp)) ?_
    refine S_take (fun _ => trivial) 5 (.agg #[.int .u64 (px k), .int .u64 (py k), .bool false]) (by kernel_rfl) rfl (by kernel_rfl) (by kernel_rfl) (by kernel_rfl) (by kernel_rfl) (onlyN_panic _ _) hS0 (by rfl) (fun w' h => ?_) ?_
    · have K7 := Lib.hid (K1.out.below h)
      (have k7 := Blk.cell K7.out; have f7 := Blk.free K7.out; have l7 := Blk.lt K7.out; have m7 := Nat.le_of_lt l7)
      go_simp
    refine S_one 1 (by kernel_rfl) rfl (fun K hK => ?_)
    go_simp
    gi_wp2_with (gi_at_call 31; refine (callsIn_wide.2 (n2.out _)).mono ?_; rintro e w5 ⟨rfl, h5⟩)
    have hS1 := hS0.trans (h5.mono hS0.size)
    refine ⟨fun _ => hS1, ?_⟩
    clear hS0 h5
    refine S_one 2 (by kernel_rfl) rfl (fun K hK => ?_)
    go_simp
    gi_wp2_with (gi_at_call 30; refine (callsIn_wide.2 (n4.out _)).mono ?_; rintro e w6 ⟨rfl, h6⟩)
    have hS2 := hS1.trans (h6.mono hS1.size)
    refine ⟨fun _ => hS2, ?_⟩
    clear hS1 h6
    refine S_one 4 (by kernel_rfl) rfl (fun K hK => ?_)
    go_simp
    gi_wp2_with (gi_at_call 32; refine (callsIn_wide.2 (n3.out _)).mono ?_; rintro e w7 ⟨rfl, h7⟩)
    have hS3 := hS2.trans (h7.mono hS2.size)
    refine ⟨fun _ => hS3, ?_⟩
    clear hS2 h7
    refine S_one 6 (by kernel_rfl) rfl (fun K hK => ?_)
    go_simp
    gi_wp2_with (gi_at_call 30; refine (callsIn_wide.2 (n5.out _)).mono ?_; rintro e w8 ⟨rfl, h8⟩)
    have hS4 := hS3.trans (h8.mono hS3.size)
    refine ⟨fun _ => hS4, ?_⟩
    clear hS3 h8
    have hS0 := hS4
    clear hS4
    refine S_take (fun _ => trivial) 7 (.bool false) (by kernel_rfl) rfl (by kernel_rfl) (by kernel_rfl) (by kernel_rfl) (by kernel_rfl) (onlyN_panic _ _) hS0 (by rfl) (fun w' h => by first | (go_simp; done) | (have d1' := (h.cell (p := _) hgr).trans d1; have d2' := (h.cell (p := _) hgr).trans d2; go_simp)) ?_
    refine S_take (fun _ => trivial) 8 (.bool false) (by kernel_rfl) rfl (by kernel_rfl) (by kernel_rfl) (by kernel_rfl) (by kernel_rfl) (onlyN_panic _ _) hS0 (by rfl) (fun w' h => by first | (go_simp; done) | (have d1' := (h.cell (p := _) hgr).trans d1; have d2' := (h.cell (p := _) hgr).trans d2; go_simp)) ?_
    refine ⟨by kernel_rfl, rfl, ?_⟩
    go_wp2_with fail
    go_ret
    exact ⟨rfl, Below.on hS0 hBz⟩
  · cases e2 : (vz L1.2 == vz L2.2)
    · rw [e1, e2] at hr
      obtain rfl : false = r := hr
      go_enter Tryz.func15, Tryz.ntmps15
      go_wp2_with fail
      have hB := Below.refl w.heap.size w
      have K0 := Lib.hid (Blk.new0 w 32 #[.int .u64 (px k), .int .u64 (py k), .bool (pf k)])
      have K1 := Lib.hid (K0.out.alloc (.cells #[.int .u64 (px s), .int .u64 (py s), .bool (pf s)] 32))
      have K2 := Lib.hid (Blk.new1 w (.cells #[.int .u64 (px k), .int .u64 (py k), .bool (pf k)] 32) 32 #[.int .u64 (px s), .int .u64 (py s), .bool (pf s)])
      have hBz := (hB.alloc (Nat.le_refl _) (.cells #[.int .u64 (px k), .int .u64 (py k), .bool (pf k)] 32)).alloc (by simp) (.cells #[.int .u64 (px s), .int .u64 (py s), .bool (pf s)] 32)
      rw [hk] at K0 K1 K2 hBz
      obtain ⟨W1, hW1⟩ : ∃ W1, (w.alloc (.cells #[.int .u64 (px k), .int .u64 (py k), .bool false] 32)).alloc (.cells #[.int .u64 (px s), .int .u64 (py s), .bool (pf s)] 32) = W1 := ⟨_, rfl⟩
      rw [hW1] at K1 K2 hBz ⊢
      clear K0 hW1 hB
      (have k1 := Blk.cell K1.out; have f1 := Blk.free K1.out; have l1 := Blk.lt K1.out; have m1 := Nat.le_of_lt l1; have k2 := Blk.cell K2.out; have f2 := Blk.free K2.out; have l2 := Blk.lt K2.out; have m2 := Nat.le_of_lt l2)
      go_wp2_with fail
      have hwf : ∀ f, Fence.wide.fn f := fun _ => trivial
      refine (wpIn_wide (n := 9)).1 ?_
      refine wpIn_round_held (fun w' => Below W1.heap.size W1 w') (fun j => true) (by kernel_rfl) ?_
      have hS0 : Below W1.heap.size W1 W1.drew := (Below.refl _ _).drew
      clear k1 f1 l1 m1 k2 f2 l2 m2
      refine S_take (fun _ => trivial) 0 (.agg #[.int .u64 (px s), .int .u64 (py s), .bool (pf s)]) (by kernel_rfl) rfl (by kernel_rfl) (by kernel_rfl) (by kernel_rfl) (by kernel_rfl) (onlyN_panic _ _) hS0 (by rfl) (fun w' h => ?_) ?_
      · have K7 := Lib.hid (K2.out.below h)
        (have k7 := Blk.cell K7.out; have f7 := Blk.free K7.out; have l7 := Blk.lt K7.out; have m7 := Nat.le_of_lt l7)
        go_simp
      refine S_take (fun _ => trivial) 3 (.string (bs t)) (by kernel_rfl) rfl (by kernel_rfl) (by kernel_rfl) (by kernel_rfl) (by kernel_rfl) (onlyN_panic _ _) hS0 (by rfl) (fun w' h => by first | (go_simp; done) | (have d1' := (h.cell (p := _) hgr).trans d1; have d2' := (h.cell (p := _) hgr).trans d2; go_simp)) ?_
      refine S_take (fun _ => trivial) 5 (.agg #[.int .u64 (px k), .int .u64 (py k), .bool false]) (by kernel_rfl) rfl (by kernel_rfl) (by kernel_rfl) (by kernel_rfl) (by kernel_rfl) (onlyN_panic _ _) hS0 (by rfl) (fun w' h => ?_) ?_
      · have K7 := Lib.hid (K1.out.below h)
        (have k7 := Blk.cell K7.out; have f7 := Blk.free K7.out; have l7 := Blk.lt K7.out; have m7 := Nat.le_of_lt l7)
        go_simp
      refine S_one 1 (by kernel_rfl) rfl (fun K hK => ?_)
      go_simp
      gi_wp2_with (gi_at_call 31; refine (callsIn_wide.2 (n2.out _)).mono ?_; rintro e w5 ⟨rfl, h5⟩)
      have hS1 := hS0.trans (h5.mono hS0.size)
      refine ⟨fun _ => hS1, ?_⟩
      clear hS0 h5
      refine S_one 2 (by kernel_rfl) rfl (fun K hK => ?_)
      go_simp
      gi_wp2_with (gi_at_call 30; refine (callsIn_wide.2 (n4.out _)).mono ?_; rintro e w6 ⟨rfl, h6⟩)
      have hS2 := hS1.trans (h6.mono hS1.size)
      refine ⟨fun _ => hS2, ?_⟩
      clear hS1 h6
      refine S_one 4 (by kernel_rfl) rfl (fun K hK => ?_)
      go_simp
      gi_wp2_with (gi_at_call 32; refine (callsIn_wide.2 (n3.out _)).mono ?_; rintro e w7 ⟨rfl, h7⟩)
      have hS3 := hS2.trans (h7.mono hS2.size)
      refine ⟨fun _ => hS3, ?_⟩
      clear hS2 h7
      refine S_one 6 (by kernel_rfl) rfl (fun K hK => ?_)
      go_simp
      gi_wp2_with (gi_at_call 30; refine (callsIn_wide.2 (n5.out _)).mono ?_; rintro e w8 ⟨rfl, h8⟩)
      have hS4 := hS3.trans (h8.mono hS3.size)
      refine ⟨fun _ => hS4, ?_⟩
      clear hS3 h8
      have hS0 := hS4
      clear hS4
      refine S_take (fun _ => trivial) 7 (.bool false) (by kernel_rfl) rfl (by kernel_rfl) (by kernel_rfl) (by kernel_rfl) (by kernel_rfl) (onlyN_panic _ _) hS0 (by rfl) (fun w' h => by first | (go_simp; done) | (have d1' := (h.cell (p := _) hgr).trans d1; have d2' := (h.cell (p := _) hgr).trans d2; go_simp)) ?_
      refine S_take (fun _ => trivial) 8 (.bool false) (by kernel_rfl) rfl (by kernel_rfl) (by kernel_rfl) (by kernel_rfl) (by kernel_rfl) (onlyN_panic _ _) hS0 (by rfl) (fun w' h => by first | (go_simp; done) | (have d1' := (h.cell (p := _) hgr).trans d1; have d2' := (h.cell (p := _) hgr).trans d2; go_simp)) ?_
      refine ⟨by kernel_rfl, rfl, ?_⟩
      go_wp2_with fail
      go_ret
      exact ⟨rfl, Below.on hS0 hBz⟩
    · rw [e1, e2] at hr
      obtain rfl : true = r := hr
      go_enter Tryz.func15, Tryz.ntmps15
      go_wp2_with fail
      have hB := Below.refl w.heap.size w
      have K0 := Lib.hid (Blk.new0 w 32 #[.int .u64 (px k), .int .u64 (py k), .bool (pf k)])
      have K1 := Lib.hid (K0.out.alloc (.cells #[.int .u64 (px s), .int .u64 (py s), .bool (pf s)] 32))
      have K2 := Lib.hid (Blk.new1 w (.cells #[.int .u64 (px k), .int .u64 (py k), .bool (pf k)] 32) 32 #[.int .u64 (px s), .int .u64 (py s), .bool (pf s)])
      have hBz := (hB.alloc (Nat.le_refl _) (.cells #[.int .u64 (px k), .int .u64 (py k), .bool (pf k)] 32)).alloc (by simp) (.cells #[.int .u64 (px s), .int .u64 (py s), .bool (pf s)] 32)
      rw [hk] at K0 K1 K2 hBz
      obtain ⟨W1, hW1⟩ : ∃ W1, (w.alloc (.cells #[.int .u64 (px k), .int .u64 (py k), .bool false] 32)).alloc (.cells #[.int .u64 (px s), .int .u64 (py s), .bool (pf s)] 32) = W1 := ⟨_, rfl⟩
      rw [hW1] at K1 K2 hBz ⊢
      clear K0 hW1 hB
      (have k1 := Blk.cell K1.out; have f1 := Blk.free K1.out; have l1 := Blk.lt K1.out; have m1 := Nat.le_of_lt l1; have k2 := Blk.cell K2.out; have f2 := Blk.free K2.out; have l2 := Blk.lt K2.out; have m2 := Nat.le_of_lt l2)
      go_wp2_with fail
      have hwf : ∀ f, Fence.wide.fn f := fun _ => trivial
      refine (wpIn_wide (n := 9)).1 ?_
      refine wpIn_round_held (fun w' => Below W1.heap.size W1 w') (fun j => true) (by kernel_rfl) ?_
      have hS0 : Below W1.heap.size W1 W1.drew := (Below.refl _ _).drew
      clear k1 f1 l1 m1 k2 f2 l2 m2
      refine S_take (fun _ => trivial) 0 (.agg #[.int .u64 (px s), .int .u64 (py s), .bool (pf s)]) (by kernel_rfl) rfl (by kernel_rfl) (by kernel_rfl) (by kernel_rfl) (by kernel_rfl) (onlyN_panic _ _) hS0 (by rfl) (fun w' h => ?_) ?_
      · have K7 := Lib.hid (K2.out.below h)
        (have k7 := Blk.cell K7.out; have f7 := Blk.free K7.out; have l7 := Blk.lt K7.out; have m7 := Nat.le_of_lt l7)
        go_simp
      refine S_take (fun _ => trivial) 3 (.string (bs t)) (by kernel_rfl) rfl (by kernel_rfl) (by kernel_rfl) (by kernel_rfl) (by kernel_rfl) (onlyN_panic _ _) hS0 (by rfl) (fun w' h => by first | (go_simp; done) | (have d1' := (h.cell (p := _) hgr).trans d1; have d2' := (h.cell (p := _) hgr).trans d2; go_simp)) ?_
      refine S_take (fun _ => trivial) 5 (.agg #[.int .u64 (px k), .int .u64 (py k), .bool false]) (by kernel_rfl) rfl (by kernel_rfl) (by kernel_rfl) (by kernel_rfl) (by kernel_rfl) (onlyN_panic _ _) hS0 (by rfl) (fun w' h => ?_) ?_
      · have K7 := Lib.hid (K1.out.below h)
        (have k7 := Blk.cell K7.out; have f7 := Blk.free K7.out; have l7 := Blk.lt K7.out; have m7 := Nat.le_of_lt l7)
        go_simp
      refine S_one 1 (by kernel_rfl) rfl (fun K hK => ?_)
      go_simp
      gi_wp2_with (gi_at_call 31; refine (callsIn_wide.2 (n2.out _)).mono ?_; rintro e w5 ⟨rfl, h5⟩)
      have hS1 := hS0.trans (h5.mono hS0.size)
      refine ⟨fun _ => hS1, ?_⟩
      clear hS0 h5
      refine S_one 2 (by kernel_rfl) rfl (fun K hK => ?_)
      go_simp
      gi_wp2_with (gi_at_call 30; refine (callsIn_wide.2 (n4.out _)).mono ?_; rintro e w6 ⟨rfl, h6⟩)
      have hS2 := hS1.trans (h6.mono hS1.size)
      refine ⟨fun _ => hS2, ?_⟩
      clear hS1 h6
      refine S_one 4 (by kernel_rfl) rfl (fun K hK => ?_)
      go_simp
      gi_wp2_with (gi_at_call 32; refine (callsIn_wide.2 (n3.out _)).mono ?_; rintro e w7 ⟨rfl, h7⟩)
      have hS3 := hS2.trans (h7.mono hS2.size)
      refine ⟨fun _ => hS3, ?_⟩
      clear hS2 h7
      refine S_one 6 (by kernel_rfl) rfl (fun K hK => ?_)
      go_simp
      gi_wp2_with (gi_at_call 30; refine (callsIn_wide.2 (n5.out _)).mono ?_; rintro e w8 ⟨rfl, h8⟩)
      have hS4 := hS3.trans (h8.mono hS3.size)
      refine ⟨fun _ => hS4, ?_⟩
      clear hS3 h8
      have hS0 := hS4
      clear hS4
      refine S_take (fun _ => trivial) 7 (.bool true) (by kernel_rfl) rfl (by kernel_rfl) (by kernel_rfl) (by kernel_rfl) (by kernel_rfl) (onlyN_panic _ _) hS0 (by rfl) (fun w' h => by first | (go_simp; done) | (have d1' := (h.cell (p := _) hgr).trans d1; have d2' := (h.cell (p := _) hgr).trans d2; go_simp)) ?_
      refine S_take (fun _ => trivial) 8 (.bool true) (by kernel_rfl) rfl (by kernel_rfl) (by kernel_rfl) (by kernel_rfl) (by kernel_rfl) (onlyN_panic _ _) hS0 (by rfl) (fun w' h => by first | (go_simp; done) | (have d1' := (h.cell (p := _) hgr).trans d1; have d2' := (h.cell (p := _) hgr).trans d2; go_simp)) ?_
      refine ⟨by kernel_rfl, rfl, ?_⟩
      go_wp2_with fail
      go_ret
      exact ⟨rfl, Below.on hS0 hBz⟩
theorem rholds_calls (k s : E) (t : List UInt8) (ht : t.length ≤ 1048576) (w : World) :
    Calls Tryz.prog 15 #[.agg #[.int .u64 (px k), .int .u64 (py k), .bool (pf k)], .string (bs t), .agg #[.int .u64 (px s), .int .u64 (py s), .bool (pf s)]] w (Ret w (.bool (if pf k then false else sameF (pairE s genE) (pairE (hashE t) k)))) := by
  cases h : pf k with
  | true =>
    go_enter Tryz.func15, Tryz.ntmps15
    go_wp2_with fail
    go_ret
    exact ⟨rfl, (by repeat (first | assumption | exact Below.refl _ _ | refine Below.setCell ?_ (by first | exact Nat.le_refl _ | (simp; done) | omega | (simp; omega)) _ | refine Below.alloc ?_ (by first | exact Nat.le_refl _ | (simp; done) | omega | (simp; omega)) _ | refine below_drewN ?_ _ | refine Below.drew ?_ | refine Below.on (by assumption) ?_ | refine Below.via (by assumption) (by first | exact Nat.le_refl _ | (simp; done) | omega | (simp; omega)) ?_))⟩
  | false =>
    have := rholds_go k s t _ _ h _ genE (hashE t) rgen_x (rhash_calls t ht) (paired_calls s genE) (paired_calls (hashE t) k) rfl w
    rw [h] at this
    exact this
end Go.Proofs.YtpmmjomejackkaaGreatDoor
end
section
set_option linter.unusedSimpArgs false
set_option linter.unusedVariables false
namespace Go.Proofs.YtpmmjomejackkaaGreatDoor
open BigFrame Go.RowKit Go.Phx Go.Shelf
attribute [local go_sem] Oper.semAt_some

theorem allB_none_s {L : List (List UInt8)} {t sg : List UInt8} (h : fromL sg = none) : allB L t sg = false := by
  unfold allB holdsB
  rw [h]
  split
  · rfl
  · split
    · rfl
    · split <;> rfl
theorem allB_none_k {L : List (List UInt8)} {t sg : List UInt8} (h : sumE L = none) : allB L t sg = false := by
  unfold allB
  rw [h]
set_option maxRecDepth 100000 in
set_option maxHeartbeats 4000000 in
theorem rall_no_s (A : Option Addr) (c : Nat) (L : List (List UInt8)) (hL : L.length ≤ 1048576) (t sg : List UInt8) (hf : fromL sg = none) (w : World) (hs : Lsts w A L) :
    Calls Tryz.prog 6 #[.slice A L.length c, .string (bs t), .string (bs sg)] w (Ret w (.bool (allB L t sg))) := by
  rw [allB_none_s hf]
  have n1 := rfrom_of (bs sg)
  rw [bs_list, hf, outV_none] at n1
  have n2 := fun W (hB : Below w.heap.size w W) => rsums_calls A c L hL W (hs.below hB)
  replace n1 := Lib.hid n1
  replace hf := Lib.hid hf
  clear hs
  cases hk : sumE L with
  | none =>
    rw [hk] at n2
    replace n2 : ∀ W, Below w.heap.size w W → Calls Tryz.prog 14 #[.slice A L.length c] W (Ret W (.tuple #[.agg #[.int .u64 0, .int .u64 0, .bool false], .bool false])) := n2
    replace n2 := Lib.hid n2
    replace hk := Lib.hid hk
    go_enter Tryz.func6, Tryz.ntmps6
    go_wp2_with fail
    refine (n1.out _).mono ?_
    rintro e w1 ⟨rfl, h1⟩
    have hB : Below w.heap.size w w1 := Below.on h1 (by repeat (first | assumption | exact Below.refl _ _ | refine Below.setCell ?_ (by first | exact Nat.le_refl _ | (simp; done) | omega | (simp; omega)) _ | refine Below.alloc ?_ (by first | exact Nat.le_refl _ | (simp; done) | omega | (simp; omega)) _ | refine below_drewN ?_ _ | refine Below.drew ?_ | refine Below.on (by assumption) ?_ | refine Below.via (by assumption) (by first | exact Nat.le_refl _ | (simp; done) | omega | (simp; omega)) ?_))
    go_wp2_with fail
    refine (n2.out _ (hB.alloc hB.size _)).mono ?_
    rintro e w2 ⟨rfl, h2⟩
    have hB2 := Below.on h2 (hB.alloc hB.size _)
    go_wp2_with fail
    go_ret
    exact ⟨rfl, hB2.alloc hB2.size _⟩
  | some p =>
    rw [hk] at n2
    replace n2 : ∀ W, Below w.heap.size w W → Calls Tryz.prog 14 #[.slice A L.length c] W (Ret W (.tuple #[.agg #[.int .u64 (px p), .int .u64 (py p), .bool (pf p)], .bool true])) := n2
    replace n2 := Lib.hid n2
    replace hk := Lib.hid hk
    go_enter Tryz.func6, Tryz.ntmps6
    go_wp2_with fail
    refine (n1.out _).mono ?_
    rintro e w1 ⟨rfl, h1⟩
    have hB : Below w.heap.size w w1 := Below.on h1 (by repeat (first | assumption | exact Below.refl _ _ | refine Below.setCell ?_ (by first | exact Nat.le_refl _ | (simp; done) | omega | (simp; omega)) _ | refine Below.alloc ?_ (by first | exact Nat.le_refl _ | (simp; done) | omega | (simp; omega)) _ | refine below_drewN ?_ _ | refine Below.drew ?_ | refine Below.on (by assumption) ?_ | refine Below.via (by assumption) (by first | exact Nat.le_refl _ | (simp; done) | omega | (simp; omega)) ?_))
    go_wp2_with fail
    refine (n2.out _ (hB.alloc hB.size _)).mono ?_
    rintro e w2 ⟨rfl, h2⟩
    have hB2 := Below.on h2 (hB.alloc hB.size _)
    go_wp2_with fail
    go_ret
    exact ⟨rfl, hB2.alloc hB2.size _⟩
set_option maxRecDepth 100000 in
set_option maxHeartbeats 4000000 in
theorem rall_no_k (A : Option Addr) (c : Nat) (L : List (List UInt8)) (hL : L.length ≤ 1048576) (t sg : List UInt8) (s : E) (hf : fromL sg = some s) (hk : sumE L = none) (w : World) (hs : Lsts w A L) :
    Calls Tryz.prog 6 #[.slice A L.length c, .string (bs t), .string (bs sg)] w (Ret w (.bool (allB L t sg))) := by
  rw [allB_none_k hk]
  have n1 := rfrom_of (bs sg)
  rw [bs_list, hf, outV_some] at n1
  have n2 := fun W (hB : Below w.heap.size w W) => rsums_calls A c L hL W (hs.below hB)
  rw [hk] at n2
  replace n2 : ∀ W, Below w.heap.size w W → Calls Tryz.prog 14 #[.slice A L.length c] W (Ret W (.tuple #[.agg #[.int .u64 0, .int .u64 0, .bool false], .bool false])) := n2
  replace n1 := Lib.hid n1
  replace n2 := Lib.hid n2
  replace hf := Lib.hid hf
  replace hk := Lib.hid hk
  clear hs
  go_enter Tryz.func6, Tryz.ntmps6
  go_wp2_with fail
  refine (n1.out _).mono ?_
  rintro e w1 ⟨rfl, h1⟩
  have hB : Below w.heap.size w w1 := Below.on h1 (by repeat (first | assumption | exact Below.refl _ _ | refine Below.setCell ?_ (by first | exact Nat.le_refl _ | (simp; done) | omega | (simp; omega)) _ | refine Below.alloc ?_ (by first | exact Nat.le_refl _ | (simp; done) | omega | (simp; omega)) _ | refine below_drewN ?_ _ | refine Below.drew ?_ | refine Below.on (by assumption) ?_ | refine Below.via (by assumption) (by first | exact Nat.le_refl _ | (simp; done) | omega | (simp; omega)) ?_))
  go_wp2_with fail
  refine (n2.out _ (hB.alloc hB.size _)).mono ?_
  rintro e w2 ⟨rfl, h2⟩
  have hB2 := Below.on h2 (hB.alloc hB.size _)
  go_wp2_with fail
  go_ret
  exact ⟨rfl, hB2.alloc hB2.size _⟩
end Go.Proofs.YtpmmjomejackkaaGreatDoor
end
section
set_option linter.unusedSimpArgs false
set_option linter.unusedVariables false
namespace Go.Proofs.YtpmmjomejackkaaGreatDoor
open BigFrame Go.RowKit Go.Phx Go.Shelf
attribute [local go_sem] Oper.semAt_some

theorem allB_some {L : List (List UInt8)} {t sg : List UInt8} {s k : E} (hf : fromL sg = some s) (hk : sumE L = some k) (h0 : L.length ≠ 0) (hz : [0, 0, 0, 0, 0] ∉ L) : allB L t sg = (if pf k then false else sameF (pairE s genE) (pairE (hashE t) k)) := by
  unfold allB holdsB
  rw [hf, hk]
  dsimp only
  rw [if_neg h0, if_neg hz]
theorem allB_zero {L : List (List UInt8)} {t sg : List UInt8} (hz : [0, 0, 0, 0, 0] ∈ L) : allB L t sg = false := by
  unfold allB
  split
  · rfl
  · split
    · rfl
    · first | rfl | rw [if_pos hz]
set_option maxRecDepth 100000 in
set_option maxHeartbeats 8000000 in
theorem rall_some (A : Option Addr) (c : Nat) (L : List (List UInt8)) (hL : L.length ≤ 1048576) (t sg : List UInt8) (ht : t.length ≤ 1048576) (s p : E) (hf : fromL sg = some s) (hk : sumE L = some p) (h0 : L.length ≠ 0) (w : World) (hs : Lsts w A L) :
    Calls Tryz.prog 6 #[.slice A L.length c, .string (bs t), .string (bs sg)] w (Ret w (.bool (allB L t sg))) := by
  have n1 := rfrom_of (bs sg)
  rw [bs_list, hf, outV_some] at n1
  have n2 := fun W (hB : Below w.heap.size w W) => rsums_calls A c L hL W (hs.below hB)
  rw [hk] at n2
  replace n2 : ∀ W, Below w.heap.size w W → Calls Tryz.prog 14 #[.slice A L.length c] W (Ret W (.tuple #[.agg #[.int .u64 (px p), .int .u64 (py p), .bool (pf p)], .bool true])) := n2
  have n3 := rholds_calls p s t ht
  have hend := fun hz => allB_some (t := t) hf hk h0 hz
  obtain ⟨r, hr⟩ : ∃ r, (if pf p then false else sameF (pairE s genE) (pairE (hashE t) p)) = r := ⟨_, rfl⟩
  rw [hr] at n3 hend
  have g1 : ¬ (L.length : Int) = 0 := by omega
  have g2 : ((L.length : Int) == 0) = false := by simpa using h0
  replace n1 := Lib.hid n1
  replace n2 := Lib.hid n2
  replace n3 := Lib.hid n3
  replace hend := Lib.hid hend
  replace hs := Lib.hid hs
  clear hf hk hr
  go_enter Tryz.func6, Tryz.ntmps6
  go_wp2_with fail
  refine (n1.out _).mono ?_
  rintro e w1 ⟨rfl, h1⟩
  have hB : Below w.heap.size w w1 := Below.on h1 (by repeat (first | assumption | exact Below.refl _ _ | refine Below.setCell ?_ (by first | exact Nat.le_refl _ | (simp; done) | omega | (simp; omega)) _ | refine Below.alloc ?_ (by first | exact Nat.le_refl _ | (simp; done) | omega | (simp; omega)) _ | refine below_drewN ?_ _ | refine Below.drew ?_ | refine Below.on (by assumption) ?_ | refine Below.via (by assumption) (by first | exact Nat.le_refl _ | (simp; done) | omega | (simp; omega)) ?_))
  go_wp2_with fail
  have KS1 := Blk.new0 w1 32 #[.int .u64 (px s), .int .u64 (py s), .bool (pf s)]
  refine (n2.out _ (hB.alloc hB.size _)).mono ?_
  rintro e w2 ⟨rfl, h2⟩
  have hB2 := Below.on h2 (hB.alloc hB.size _)
  have KS2 := (KS1.below h2).alloc (.cells #[.int .u64 (px p), .int .u64 (py p), .bool (pf p)] 32)
  have KP2 := Blk.new0 w2 32 #[.int .u64 (px p), .int .u64 (py p), .bool (pf p)]
  have hB3 := hB2.alloc hB2.size (.cells #[.int .u64 (px p), .int .u64 (py p), .bool (pf p)] 32)
  go_wp2_with fail
  clear h1 h2 hB hB2 KS1
  obtain ⟨W0, hW0⟩ : ∃ W0, w2.alloc (.cells #[.int .u64 (px p), .int .u64 (py p), .bool (pf p)] 32) = W0 := ⟨_, rfl⟩
  rw [hW0] at KS2 KP2 hB3 ⊢
  obtain ⟨a7, ha7⟩ : ∃ a, w1.heap.size = a := ⟨_, rfl⟩
  obtain ⟨a9, ha9⟩ : ∃ a, w2.heap.size = a := ⟨_, rfl⟩
  rw [ha7] at KS2
  rw [ha9] at KP2
  simp only [ha7, ha9]
  clear hW0 ha7 ha9
  have K7 := Lib.hid KS2
  have K9 := Lib.hid KP2
  clear KS2 KP2
  go_loopw [11] (fun n wr => ∃ k : Nat, k ≤ L.length ∧ n = .int .i64 k ∧ wr = W0 ∧ ∀ j, j < k → L.getD j [] ≠ [0, 0, 0, 0, 0]) (fun n _ => (L.length - intOf n).toNat)
  case atStart => exact ⟨0, by omega, rfl, rfl, fun j hj => by omega⟩
  case round =>
    obtain ⟨k, hk, rfl, rfl, hall⟩ := hrel
    by_cases hlt : k < L.length
    · obtain ⟨b, o, rfl, hb, hc⟩ := (hs.out.below hB3).at k hlt
      have hin : L.getD k [] ∈ L := by rw [List.getD, List.getElem?_eq_getElem hlt]; exact List.getElem_mem hlt
      obtain ⟨x, hx⟩ : ∃ x, L.getD k [] = x := ⟨_, rfl⟩
      rw [hx] at hc hin
      by_cases hxz : x = [0, 0, 0, 0, 0]
      · rw [hxz] at hc hin
        rw [allB_zero hin]
        clear hin
        replace hc : wr.cell? ⟨b, o + k, none⟩ = some (.string { data := #[0, 0, 0, 0, 0] }) := hc
        go_wp2_with fail
        go_ret
        exact ⟨rfl, hB3⟩
      · have e1 : (x == [0, 0, 0, 0, 0]) = false := beq_eq_false_iff_ne.2 hxz
        have hn := fun h => hxz (hx.symm.trans h)
        replace hn := Lib.hid hn
        replace hall := Lib.hid hall
        clear hin hx hxz
        go_wp2_with fail
        refine ⟨⟨k + 1, by omega, by go_num, trivial, fun j hj => ?_⟩, by simp [intOf]; omega⟩
        rcases Nat.lt_or_eq_of_le (Nat.le_of_lt_succ hj) with h | h
        · exact hall.out j h
        · rw [h]
          exact hn.out
    · obtain rfl : k = L.length := by omega
      have hnz : [0, 0, 0, 0, 0] ∉ L := fun h => by
        obtain ⟨j, hj, he⟩ := List.getElem_of_mem h
        exact hall j hj (by rw [List.getD, List.getElem?_eq_getElem hj]; exact he)
      have hfin := hend.out hnz
      replace hfin := Lib.hid hfin
      clear hall hnz
      (have k7 := Blk.cell K7.out; have f7 := Blk.free K7.out; have l7 := Blk.lt K7.out; have m7 := Nat.le_of_lt l7; have k9 := Blk.cell K9.out; have f9 := Blk.free K9.out; have l9 := Blk.lt K9.out; have m9 := Nat.le_of_lt l9)
      go_wp2_with fail
      refine (n3.out _).mono ?_
      rintro e w4 ⟨rfl, h4⟩
      go_wp2_with fail
      go_ret
      exact ⟨by rw [hfin.out]; rfl, Below.on h4 hB3⟩
set_option maxRecDepth 100000 in
set_option maxHeartbeats 4000000 in
theorem rall_empty (A : Option Addr) (c : Nat) (t sg : List UInt8) (s : E) (hf : fromL sg = some s) (w : World) (hs : Lsts w A []) :
    Calls Tryz.prog 6 #[.slice A 0 c, .string (bs t), .string (bs sg)] w (Ret w (.bool false)) := by
  have n1 := rfrom_of (bs sg)
  rw [bs_list, hf, outV_some] at n1
  have n2 : ∀ W, Below w.heap.size w W → Calls Tryz.prog 14 #[.slice A 0 c] W (Ret W (.tuple #[.agg #[.int .u64 0, .int .u64 0, .bool true], .bool true])) := fun W hB => rsums_calls A c [] (by simp) W (hs.below hB)
  replace n1 := Lib.hid n1
  replace n2 := Lib.hid n2
  replace hf := Lib.hid hf
  clear hs
  go_enter Tryz.func6, Tryz.ntmps6
  go_wp2_with fail
  refine (n1.out _).mono ?_
  rintro e w1 ⟨rfl, h1⟩
  have hB : Below w.heap.size w w1 := Below.on h1 (by repeat (first | assumption | exact Below.refl _ _ | refine Below.setCell ?_ (by first | exact Nat.le_refl _ | (simp; done) | omega | (simp; omega)) _ | refine Below.alloc ?_ (by first | exact Nat.le_refl _ | (simp; done) | omega | (simp; omega)) _ | refine below_drewN ?_ _ | refine Below.drew ?_ | refine Below.on (by assumption) ?_ | refine Below.via (by assumption) (by first | exact Nat.le_refl _ | (simp; done) | omega | (simp; omega)) ?_))
  go_wp2_with fail
  refine (n2.out _ (hB.alloc hB.size _)).mono ?_
  rintro e w2 ⟨rfl, h2⟩
  have hB2 := Below.on h2 (hB.alloc hB.size _)
  go_wp2_with fail
  go_ret
  exact ⟨rfl, hB2.alloc hB2.size _⟩
theorem rall_calls (A : Option Addr) (c : Nat) (L : List (List UInt8)) (hL : L.length ≤ 1048576) (t sg : List UInt8) (ht : t.length ≤ 1048576) (w : World) (hs : Lsts w A L) :
    Calls Tryz.prog 6 #[.slice A L.length c, .string (bs t), .string (bs sg)] w (Ret w (.bool (allB L t sg))) := by
  cases hf : fromL sg with
  | none => exact rall_no_s A c L hL t sg hf w hs
  | some s =>
    cases hk : sumE L with
    | none => exact rall_no_k A c L hL t sg s hf hk w hs
    | some p =>
      by_cases h0 : L.length = 0
      · obtain rfl := List.length_eq_zero_iff.1 h0
        exact rall_empty A c t sg s hf w hs
      · exact rall_some A c L hL t sg ht s p hf hk h0 w hs
end Go.Proofs.YtpmmjomejackkaaGreatDoor
end
