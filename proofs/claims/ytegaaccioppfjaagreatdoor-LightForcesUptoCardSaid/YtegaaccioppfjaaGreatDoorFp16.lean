/- What the later texts stand on (Hed1): plain laws and walks, each by its own conditions. -/
import Derived.Test.YtegaaccioppfjaaGreatDoorFp13
import Derived.Test.YtegaaccioppfjaaGreatDoorFp15
import Derived.Test.YtegaaccioppfjaaGreatDoorFp12
import Derived.Test.YtegaaccioppfjaaGreatDoorFp11
set_option linter.unusedSimpArgs false
set_option linter.unusedVariables false
section
set_option linter.unusedSimpArgs false
set_option linter.unusedVariables false
namespace Go.Proofs.YtegaaccioppfjaaGreatDoor
open BigFrame Go.RowKit Go.Phx Go.Shelf
attribute [local go_sem] Oper.semAt_some

/-- a row of texts, just made -/
theorem txts_new (w : World) (l : List Bytes) : Txts (w.alloc (.cells (l.map tv).toArray 9)) (some ⟨w.heap.size, 0, none⟩) l :=
  Strs.mk (by simp) fun i x hx => by
    rw [(Blk.new0 w _ _).cell, Nat.zero_add]
    rw [List.getElem?_map] at hx
    cases h : l[i]? with
    | none => rw [h] at hx; cases hx
    | some y =>
      rw [h] at hx
      simp only [Option.map_some, Option.some.injEq] at hx
      simp [h, tv, hx]
/-- a root, or none -/
def rootedV (L : List Bytes) (d : Nat) : Value := .tuple #[.string (bs (if RightP L d then rootP L d else [])), .int .i64 (if RightP L d then 0 else 130)]
set_option maxRecDepth 100000 in
theorem rooted_calls (A : Option Addr) (c : Nat) (L : List Bytes) (d : Nat) (hL : L.length ≤ 9223372036854775807) (hx : ∀ x ∈ L, x.length ≤ 9223372036854775807) (w : World) (hk : HasK w) (hs : Txts w A L) :
    Calls Tryz.prog 112 #[.int .i64 d, .slice A L.length c] w (Ret w (rootedV L d)) := by
  have n1 := zroot_calls A c L d hL hx w hk hs
  unfold rootV at n1
  unfold rootedV
  rw [Int.toNat_natCast] at n1
  clear hs hk hx hL
  by_cases hR : RightP L d
  · rw [if_pos hR] at n1
    rw [if_pos hR, if_pos hR]
    generalize rootP L d = r at *
    replace n1 := Lib.hid n1
    clear hR
    go_enter Tryz.func112, Tryz.ntmps112
    go_wp2_with fail
    refine n1.out.mono ?_
    rintro e w1 ⟨rfl, h1⟩
    go_wp2_with fail
    go_ret2
    exact ⟨rfl, Below.on h1 (by repeat (first | assumption | exact Below.refl _ _ | refine Below.setCell ?_ (by first | exact Nat.le_refl _ | (simp; done) | omega | (simp; omega)) _ | refine Below.alloc ?_ (by first | exact Nat.le_refl _ | (simp; done) | omega | (simp; omega)) _ | refine below_drewN ?_ _ | refine Below.drew ?_ | refine Below.on (by assumption) ?_ | refine Below.via (by assumption) (by first | exact Nat.le_refl _ | (simp; done) | omega | (simp; omega)) ?_))⟩
  · rw [if_neg hR] at n1
    rw [if_neg hR, if_neg hR]
    replace n1 := Lib.hid n1
    clear hR
    go_enter Tryz.func112, Tryz.ntmps112
    go_wp2_with fail
    refine n1.out.mono ?_
    rintro e w1 ⟨rfl, h1⟩
    go_wp2_with fail
    go_ret2
    exact ⟨rfl, Below.on h1 (by repeat (first | assumption | exact Below.refl _ _ | refine Below.setCell ?_ (by first | exact Nat.le_refl _ | (simp; done) | omega | (simp; omega)) _ | refine Below.alloc ?_ (by first | exact Nat.le_refl _ | (simp; done) | omega | (simp; omega)) _ | refine below_drewN ?_ _ | refine Below.drew ?_ | refine Below.on (by assumption) ?_ | refine Below.via (by assumption) (by first | exact Nat.le_refl _ | (simp; done) | omega | (simp; omega)) ?_))⟩
def hdE (h : Hd) : Int := if hdOk h then 0 else 130
def exE (x : Ex) : Int := if exOk x then 0 else 130
theorem rooted_hd (h : Hd) : rootedV (hdL h) 3 = .tuple #[.string (bs (hdRoot h)), .int .i64 (hdE h)] := by
  unfold rootedV hdRoot hdE hdOk
  by_cases hR : RightP (hdL h) 3
  · rw [if_pos (show RightP (hdL h) ((3 : Nat) : Int) from hR), if_pos (show RightP (hdL h) ((3 : Nat) : Int) from hR), decide_eq_true hR, if_pos rfl, if_pos rfl]
  · rw [if_neg (show ¬ RightP (hdL h) ((3 : Nat) : Int) from hR), if_neg (show ¬ RightP (hdL h) ((3 : Nat) : Int) from hR), decide_eq_false hR]
    rfl
theorem rooted_ex (x : Ex) : rootedV (exL x) 2 = .tuple #[.string (bs (exRoot x)), .int .i64 (exE x)] := by
  unfold rootedV exRoot exE exOk
  by_cases hR : RightP (exL x) 2
  · rw [if_pos (show RightP (exL x) ((2 : Nat) : Int) from hR), if_pos (show RightP (exL x) ((2 : Nat) : Int) from hR), decide_eq_true hR, if_pos rfl, if_pos rfl]
  · rw [if_neg (show ¬ RightP (exL x) ((2 : Nat) : Int) from hR), if_neg (show ¬ RightP (exL x) ((2 : Nat) : Int) from hR), decide_eq_false hR]
    rfl
theorem hdL_le {w : World} {h : Hd} (hh : HdIn w h) : ∀ x ∈ hdL h, x.length ≤ 9223372036854775807 := fun x hx => by
  obtain ⟨_, _, h1, h2, h3⟩ := hh
  simp only [hdL, List.mem_cons, List.not_mem_nil, or_false] at hx
  rcases hx with rfl | rfl | rfl | rfl | rfl
  · rw [numP_len]; omega
  · rw [numP_len]; omega
  · omega
  · omega
  · omega
theorem exL_le {w : World} {x : Ex} (hh : ExIn w x) : ∀ y ∈ exL x, y.length ≤ 9223372036854775807 := fun y hy => by
  obtain ⟨h1, h2, _⟩ := hh
  simp only [exL, List.mem_cons, List.not_mem_nil, or_false] at hy
  rcases hy with rfl | rfl | rfl
  · omega
  · omega
  · rw [numP_len]; omega
set_option maxRecDepth 100000 in
set_option maxHeartbeats 1000000 in
theorem hroot_calls (h : Hd) (w : World) (hk : HasK w) (hh : HdIn w h) : Calls Tryz.prog 53 #[hdV h] w (Ret w (.tuple #[.string (bs (hdRoot h)), .int .i64 (hdE h)])) := by
  have n1 := fun W => number_calls h.slot hh.1 W
  have n2 := fun W => number_calls h.prop hh.2.1 W
  have hx := hdL_le hh
  have n3 : ∀ W : World, Below w.heap.size w (W.alloc (.cells #[.string (bs (numP h.slot)), .string (bs (numP h.prop)), .string (bs h.parent), .string (bs h.state), .string (bs h.body)] 9)) → Calls Tryz.prog 112 #[.int .i64 3, .slice (some ⟨W.heap.size, 0, none⟩) 5 5] (W.alloc (.cells #[.string (bs (numP h.slot)), .string (bs (numP h.prop)), .string (bs h.parent), .string (bs h.state), .string (bs h.body)] 9)) (Ret (W.alloc (.cells #[.string (bs (numP h.slot)), .string (bs (numP h.prop)), .string (bs h.parent), .string (bs h.state), .string (bs h.body)] 9)) (rootedV (hdL h) 3)) := fun W hB =>
    rooted_calls (some ⟨W.heap.size, 0, none⟩) 5 (hdL h) 3 (by show 5 ≤ 9223372036854775807; decide) hx _ (hk.on hB) (txts_new W (hdL h))
  rw [rooted_hd] at n3
  generalize hdRoot h = r at *
  generalize hdE h = e at *
  generalize numP h.slot = a at *
  generalize numP h.prop = b at *
  have K0 := Lib.hid (Blk.new0 w 24 (hdA h))
  replace n1 := Lib.hid n1
  replace n2 := Lib.hid n2
  replace n3 := Lib.hid n3
  clear hx hk hh
  go_enter Tryz.func53, Tryz.ntmps53
  go_wp2_with fail
  have hB0 : Below w.heap.size w (w.alloc (.cells (hdA h) 24)) := (by repeat (first | assumption | exact Below.refl _ _ | refine Below.setCell ?_ (by first | exact Nat.le_refl _ | (simp; done) | omega | (simp; omega)) _ | refine Below.alloc ?_ (by first | exact Nat.le_refl _ | (simp; done) | omega | (simp; omega)) _ | refine below_drewN ?_ _ | refine Below.drew ?_ | refine Below.on (by assumption) ?_ | refine Below.via (by assumption) (by first | exact Nat.le_refl _ | (simp; done) | omega | (simp; omega)) ?_))
  obtain ⟨W, hW⟩ : ∃ W, w.alloc (.cells (hdA h) 24) = W := ⟨_, rfl⟩
  rw [hW] at K0 hB0 ⊢
  obtain ⟨g, hg⟩ : ∃ g, w.heap.size = g := ⟨_, rfl⟩
  have hgl : g ≤ W.heap.size := by rw [← hg]; exact hB0.size
  rw [hg] at K0 ⊢
  replace hB0 := Lib.hid hB0
  clear hW
  replace hg := Lib.hid hg
  have hwf : ∀ f, Fence.wide.fn f := fun _ => trivial
  refine (wpIn_wide (n := 9)).1 ?_
  refine wpIn_round_held (fun w' => Below W.heap.size W w') (fun j => true) (by kernel_rfl) ?_
  have hS0 : (fun w' => Below W.heap.size W w') W.drew := (Below.refl _ _).drew
  refine S_take (fun _ => trivial) 0 (.pointer (some ⟨g, 0, none⟩)) (by kernel_rfl) rfl (by kernel_rfl) (by kernel_rfl) (by kernel_rfl) (by kernel_rfl) (onlyN_panic _ _) hS0 (by kernel_rfl) (fun w' hw => by go_simp) ?_
  refine S_take (fun _ => trivial) 1 (.int .u64 (h.slot : Int)) (by kernel_rfl) rfl (by kernel_rfl) (by kernel_rfl) (by kernel_rfl) (by kernel_rfl) (onlyN_panic _ _) hS0 (by kernel_rfl) (fun w' hw => exec_load rfl (by kernel_rfl) (run_load_cell (i := 0) (K0.out.below hw) rfl szU64 nrU64)) ?_
  refine S_take (fun _ => trivial) 3 (.pointer (some ⟨g, 1, none⟩)) (by kernel_rfl) rfl (by kernel_rfl) (by kernel_rfl) (by kernel_rfl) (by kernel_rfl) (onlyN_panic _ _) hS0 (by kernel_rfl) (fun w' hw => by go_simp) ?_
  refine S_take (fun _ => trivial) 4 (.int .u64 (h.prop : Int)) (by kernel_rfl) rfl (by kernel_rfl) (by kernel_rfl) (by kernel_rfl) (by kernel_rfl) (onlyN_panic _ _) hS0 (by kernel_rfl) (fun w' hw => exec_load rfl (by kernel_rfl) (run_load_cell (i := 1) (K0.out.below hw) rfl szU64 nrU64)) ?_
  refine S_take (fun _ => trivial) 6 (.pointer (some ⟨g, 2, none⟩)) (by kernel_rfl) rfl (by kernel_rfl) (by kernel_rfl) (by kernel_rfl) (by kernel_rfl) (onlyN_panic _ _) hS0 (by kernel_rfl) (fun w' hw => by go_simp) ?_
  refine S_take (fun _ => trivial) 7 (.string (bs h.parent)) (by kernel_rfl) rfl (by kernel_rfl) (by kernel_rfl) (by kernel_rfl) (by kernel_rfl) (onlyN_panic _ _) hS0 (by kernel_rfl) (fun w' hw => exec_load rfl (by kernel_rfl) (run_load_cell (i := 2) (K0.out.below hw) rfl szStr nrStr)) ?_
  refine S_take (fun _ => trivial) 8 (.pointer (some ⟨g, 3, none⟩)) (by kernel_rfl) rfl (by kernel_rfl) (by kernel_rfl) (by kernel_rfl) (by kernel_rfl) (onlyN_panic _ _) hS0 (by kernel_rfl) (fun w' hw => by go_simp) ?_
  refine S_take (fun _ => trivial) 9 (.string (bs h.state)) (by kernel_rfl) rfl (by kernel_rfl) (by kernel_rfl) (by kernel_rfl) (by kernel_rfl) (onlyN_panic _ _) hS0 (by kernel_rfl) (fun w' hw => exec_load rfl (by kernel_rfl) (run_load_cell (i := 3) (K0.out.below hw) rfl szStr nrStr)) ?_
  refine S_take (fun _ => trivial) 10 (.pointer (some ⟨g, 4, none⟩)) (by kernel_rfl) rfl (by kernel_rfl) (by kernel_rfl) (by kernel_rfl) (by kernel_rfl) (onlyN_panic _ _) hS0 (by kernel_rfl) (fun w' hw => by go_simp) ?_
  refine S_take (fun _ => trivial) 11 (.string (bs h.body)) (by kernel_rfl) rfl (by kernel_rfl) (by kernel_rfl) (by kernel_rfl) (by kernel_rfl) (onlyN_panic _ _) hS0 (by kernel_rfl) (fun w' hw => exec_load rfl (by kernel_rfl) (run_load_cell (i := 4) (K0.out.below hw) rfl szStr nrStr)) ?_
  refine S_one 2 (by kernel_rfl) rfl (fun K hK => ?_)
  go_simp
  gi_wp2_with (gi_at_call 100; refine (callsIn_wide.2 (n1.out _)).mono ?_; rintro e Wh1 ⟨rfl, hN⟩)
  have hS1 : (fun w' => Below W.heap.size W w') Wh1 := hS0.trans (hN.mono hS0.size)
  clear hS0
  have hS0 := hS1
  clear hS1
  clear hN
  refine ⟨(fun _ => hS0), ?_⟩
  refine S_one 5 (by kernel_rfl) rfl (fun K hK => ?_)
  go_simp
  gi_wp2_with (gi_at_call 100; refine (callsIn_wide.2 (n2.out _)).mono ?_; rintro e Wh2 ⟨rfl, hN⟩)
  have hS1 : (fun w' => Below W.heap.size W w') Wh2 := hS0.trans (hN.mono hS0.size)
  clear hS0
  have hS0 := hS1
  clear hS1
  clear hN
  refine ⟨(fun _ => hS0), ?_⟩
  have hS1 : (fun w' => Below W.heap.size W w') (Wh2.alloc (.cells #[.string (bs a), .string (bs b), .string (bs h.parent), .string (bs h.state), .string (bs h.body)] 9)) := hS0.alloc hS0.size _
  clear hS0
  have hS0 := hS1
  clear hS1
  refine S_go 12 (fun _ => trivial) (by kernel_rfl) (by kernel_rfl) rfl (by kernel_rfl) (.slice (some ⟨Wh2.heap.size, 0, none⟩) 5 5) (Wh2.alloc (.cells #[.string (bs a), .string (bs b), .string (bs h.parent), .string (bs h.state), .string (bs h.body)] 9)) (by go_simp) (fun _ => hS0) ?_
  refine S_one 13 (by kernel_rfl) rfl (fun K hK => ?_)
  go_simp
  gi_wp2_with (gi_at_call 112; refine (callsIn_wide.2 (n3.out _ (Below.on hS0 hB0.out))).mono ?_; rintro e Wh3 ⟨rfl, hN⟩)
  have hS1 : (fun w' => Below W.heap.size W w') Wh3 := hS0.trans (hN.mono hS0.size)
  clear hS0
  have hS0 := hS1
  clear hS1
  clear hN
  refine ⟨(fun _ => hS0), ?_⟩
  refine S_take (fun _ => trivial) 14 (.string (bs r)) (by kernel_rfl) rfl (by kernel_rfl) (by kernel_rfl) (by kernel_rfl) (by kernel_rfl) (onlyN_panic _ _) hS0 (by kernel_rfl) (fun w' hw => by go_simp) ?_
  refine S_take (fun _ => trivial) 15 (.int .i64 e) (by kernel_rfl) rfl (by kernel_rfl) (by kernel_rfl) (by kernel_rfl) (by kernel_rfl) (onlyN_panic _ _) hS0 (by kernel_rfl) (fun w' hw => by go_simp) ?_
  refine S_take (fun _ => trivial) 16 (.string (bs r)) (by kernel_rfl) rfl (by kernel_rfl) (by kernel_rfl) (by kernel_rfl) (by kernel_rfl) (onlyN_panic _ _) hS0 (by kernel_rfl) (fun w' hw => by go_simp) ?_
  refine S_take (fun _ => trivial) 17 (.int .i64 e) (by kernel_rfl) rfl (by kernel_rfl) (by kernel_rfl) (by kernel_rfl) (by kernel_rfl) (onlyN_panic _ _) hS0 (by kernel_rfl) (fun w' hw => by go_simp) ?_
  refine ⟨by kernel_rfl, rfl, ?_⟩
  go_wp2_with fail
  go_ret2
  exact ⟨rfl, Below.on hS0 hB0.out⟩
set_option maxRecDepth 100000 in
set_option maxHeartbeats 1000000 in
theorem eroot_calls (x : Ex) (w : World) (hk : HasK w) (hh : ExIn w x) : Calls Tryz.prog 99 #[exV x] w (Ret w (.tuple #[.string (bs (exRoot x)), .int .i64 (exE x)])) := by
  have n1 := fun W => number_calls x.num hh.2.2 W
  have hx := exL_le hh
  have n3 : ∀ W : World, Below w.heap.size w (W.alloc (.cells #[.string (bs x.acc), .string (bs x.rcp), .string (bs (numP x.num))] 9)) → Calls Tryz.prog 112 #[.int .i64 2, .slice (some ⟨W.heap.size, 0, none⟩) 3 3] (W.alloc (.cells #[.string (bs x.acc), .string (bs x.rcp), .string (bs (numP x.num))] 9)) (Ret (W.alloc (.cells #[.string (bs x.acc), .string (bs x.rcp), .string (bs (numP x.num))] 9)) (rootedV (exL x) 2)) := fun W hB =>
    rooted_calls (some ⟨W.heap.size, 0, none⟩) 3 (exL x) 2 (by show 3 ≤ 9223372036854775807; decide) hx _ (hk.on hB) (txts_new W (exL x))
  rw [rooted_ex] at n3
  generalize exRoot x = r at *
  generalize exE x = e at *
  generalize numP x.num = a at *
  have K0 := Lib.hid (Blk.new0 w 26 (exA x))
  replace n1 := Lib.hid n1
  replace n3 := Lib.hid n3
  clear hx hk hh
  go_enter Tryz.func99, Tryz.ntmps99
  go_wp2_with fail
  have hB0 : Below w.heap.size w (w.alloc (.cells (exA x) 26)) := (by repeat (first | assumption | exact Below.refl _ _ | refine Below.setCell ?_ (by first | exact Nat.le_refl _ | (simp; done) | omega | (simp; omega)) _ | refine Below.alloc ?_ (by first | exact Nat.le_refl _ | (simp; done) | omega | (simp; omega)) _ | refine below_drewN ?_ _ | refine Below.drew ?_ | refine Below.on (by assumption) ?_ | refine Below.via (by assumption) (by first | exact Nat.le_refl _ | (simp; done) | omega | (simp; omega)) ?_))
  obtain ⟨W, hW⟩ : ∃ W, w.alloc (.cells (exA x) 26) = W := ⟨_, rfl⟩
  rw [hW] at K0 hB0 ⊢
  obtain ⟨g, hg⟩ : ∃ g, w.heap.size = g := ⟨_, rfl⟩
  rw [hg] at K0 ⊢
  replace hB0 := Lib.hid hB0
  clear hW
  replace hg := Lib.hid hg
  have hwf : ∀ f, Fence.wide.fn f := fun _ => trivial
  refine (wpIn_wide (n := 9)).1 ?_
  refine wpIn_round_held (fun w' => Below W.heap.size W w') (fun j => true) (by kernel_rfl) ?_
  have hS0 : (fun w' => Below W.heap.size W w') W.drew := (Below.refl _ _).drew
  refine S_take (fun _ => trivial) 0 (.pointer (some ⟨g, 0, none⟩)) (by kernel_rfl) rfl (by kernel_rfl) (by kernel_rfl) (by kernel_rfl) (by kernel_rfl) (onlyN_panic _ _) hS0 (by kernel_rfl) (fun w' hw => by go_simp) ?_
  refine S_take (fun _ => trivial) 1 (.string (bs x.acc)) (by kernel_rfl) rfl (by kernel_rfl) (by kernel_rfl) (by kernel_rfl) (by kernel_rfl) (onlyN_panic _ _) hS0 (by kernel_rfl) (fun w' hw => exec_load rfl (by kernel_rfl) (run_load_cell (i := 0) (K0.out.below hw) rfl szStr nrStr)) ?_
  refine S_take (fun _ => trivial) 2 (.pointer (some ⟨g, 1, none⟩)) (by kernel_rfl) rfl (by kernel_rfl) (by kernel_rfl) (by kernel_rfl) (by kernel_rfl) (onlyN_panic _ _) hS0 (by kernel_rfl) (fun w' hw => by go_simp) ?_
  refine S_take (fun _ => trivial) 3 (.string (bs x.rcp)) (by kernel_rfl) rfl (by kernel_rfl) (by kernel_rfl) (by kernel_rfl) (by kernel_rfl) (onlyN_panic _ _) hS0 (by kernel_rfl) (fun w' hw => exec_load rfl (by kernel_rfl) (run_load_cell (i := 1) (K0.out.below hw) rfl szStr nrStr)) ?_
  refine S_take (fun _ => trivial) 4 (.pointer (some ⟨g, 2, none⟩)) (by kernel_rfl) rfl (by kernel_rfl) (by kernel_rfl) (by kernel_rfl) (by kernel_rfl) (onlyN_panic _ _) hS0 (by kernel_rfl) (fun w' hw => by go_simp) ?_
  refine S_take (fun _ => trivial) 5 (.int .u64 (x.num : Int)) (by kernel_rfl) rfl (by kernel_rfl) (by kernel_rfl) (by kernel_rfl) (by kernel_rfl) (onlyN_panic _ _) hS0 (by kernel_rfl) (fun w' hw => exec_load rfl (by kernel_rfl) (run_load_cell (i := 2) (K0.out.below hw) rfl szU64 nrU64)) ?_
  refine S_one 6 (by kernel_rfl) rfl (fun K hK => ?_)
  go_simp
  gi_wp2_with (gi_at_call 100; refine (callsIn_wide.2 (n1.out _)).mono ?_; rintro e Wh1 ⟨rfl, hN⟩)
  have hS1 : (fun w' => Below W.heap.size W w') Wh1 := hS0.trans (hN.mono hS0.size)
  clear hS0
  have hS0 := hS1
  clear hS1
  clear hN
  refine ⟨(fun _ => hS0), ?_⟩
  have hS1 : (fun w' => Below W.heap.size W w') (Wh1.alloc (.cells #[.string (bs x.acc), .string (bs x.rcp), .string (bs a)] 9)) := hS0.alloc hS0.size _
  clear hS0
  have hS0 := hS1
  clear hS1
  refine S_go 7 (fun _ => trivial) (by kernel_rfl) (by kernel_rfl) rfl (by kernel_rfl) (.slice (some ⟨Wh1.heap.size, 0, none⟩) 3 3) (Wh1.alloc (.cells #[.string (bs x.acc), .string (bs x.rcp), .string (bs a)] 9)) (by go_simp) (fun _ => hS0) ?_
  refine S_one 8 (by kernel_rfl) rfl (fun K hK => ?_)
  go_simp
  gi_wp2_with (gi_at_call 112; refine (callsIn_wide.2 (n3.out _ (Below.on hS0 hB0.out))).mono ?_; rintro e Wh2 ⟨rfl, hN⟩)
  have hS1 : (fun w' => Below W.heap.size W w') Wh2 := hS0.trans (hN.mono hS0.size)
  clear hS0
  have hS0 := hS1
  clear hS1
  clear hN
  refine ⟨(fun _ => hS0), ?_⟩
  refine S_take (fun _ => trivial) 9 (.string (bs r)) (by kernel_rfl) rfl (by kernel_rfl) (by kernel_rfl) (by kernel_rfl) (by kernel_rfl) (onlyN_panic _ _) hS0 (by kernel_rfl) (fun w' hw => by go_simp) ?_
  refine S_take (fun _ => trivial) 10 (.int .i64 e) (by kernel_rfl) rfl (by kernel_rfl) (by kernel_rfl) (by kernel_rfl) (by kernel_rfl) (onlyN_panic _ _) hS0 (by kernel_rfl) (fun w' hw => by go_simp) ?_
  refine S_take (fun _ => trivial) 11 (.string (bs r)) (by kernel_rfl) rfl (by kernel_rfl) (by kernel_rfl) (by kernel_rfl) (by kernel_rfl) (onlyN_panic _ _) hS0 (by kernel_rfl) (fun w' hw => by go_simp) ?_
  refine S_take (fun _ => trivial) 12 (.int .i64 e) (by kernel_rfl) rfl (by kernel_rfl) (by kernel_rfl) (by kernel_rfl) (by kernel_rfl) (onlyN_panic _ _) hS0 (by kernel_rfl) (fun w' hw => by go_simp) ?_
  refine ⟨by kernel_rfl, rfl, ?_⟩
  go_wp2_with fail
  go_ret2
  exact ⟨rfl, Below.on hS0 hB0.out⟩
theorem rootP_len {c : List Bytes} {d : Nat} (hc : ∀ x ∈ c, x.length = 32) : (rootP c d).length = 32 := by
  unfold rootP atP
  by_cases h : 0 < (levP c d).length
  · rw [List.getD, List.getElem?_eq_getElem h]
    exact lev_all c hc d _ (List.getElem_mem h)
  · rw [List.getD, List.getElem?_eq_none (by omega)]
    exact zeroH_len d
theorem exRoot_len (x : Ex) : (exRoot x).length ≤ 32 := by
  unfold exRoot exOk
  split
  · rename_i h
    rw [rootP_len (of_decide_eq_true h).2.2.2.2]
    exact Nat.le_refl _
  · simp
set_option maxRecDepth 100000 in
set_option maxHeartbeats 1000000 in
theorem lholds_calls (l : Lt) (w : World) (hk : HasK w) (hl : LtIn w l) : Calls Tryz.prog 50 #[ltV l] w (Ret w (.bool (holdsP l))) := by
  have n1 := fun W (hB : Below w.heap.size w W) => hroot_calls l.b W (hk.on hB) (hl.1.below hB)
  have n2 := fun W (hB : Below w.heap.size w W) => eroot_calls l.x W (hk.on hB) (hl.2.1.below hB)
  have n3 := fun W (hB : Below w.heap.size w W) => check_calls (exRoot l.x) l.br.addr l.br.cap l.br.l 2 l.b.body (by have := exRoot_len l.x; omega) (by have := hl.1.2.2.2.2; omega) (by have := hl.2.2.2.2.1; omega) (by decide) (fun y hy => by have := hl.2.2.2.2.2 y hy; omega) W (hk.on hB) (Txts.below hl.2.2.1 hB)
  have K0 := Lib.hid (Blk.new0 w 29 (ltA l))
  have hP : ∀ r1 r2 r3 r4 : Bool, hdOk l.b = r1 → exOk l.x = r2 → decide (l.br.l.length = 2) = r3 → decide (CheckP (exRoot l.x) l.br.l 2 l.b.body) = r4 → holdsP l = (r1 && (r2 && (r3 && r4))) := fun r1 r2 r3 r4 e1 e2 e3 e4 => by
    unfold holdsP
    rw [e1, e2, e3, e4]
  obtain ⟨r4, h4⟩ : ∃ r4, decide (CheckP (exRoot l.x) l.br.l 2 l.b.body) = r4 := ⟨_, rfl⟩
  rw [h4] at n3
  have h5 : ∀ r1 r2 r3 : Bool, hdOk l.b = r1 → exOk l.x = r2 → decide (l.br.l.length = 2) = r3 → holdsP l = (r1 && (r2 && (r3 && r4))) := fun r1 r2 r3 a b c => hP _ _ _ _ a b c h4
  clear hP h4
  replace h5 := Lib.hid h5
  unfold hdE at n1
  unfold exE at n2
  generalize exRoot l.x = q at *
  generalize hdRoot l.b = q2 at *
  cases h1 : hdOk l.b with
  | false =>
    rw [h1, if_neg (by simp)] at n1
    replace n1 := Lib.hid n1
    replace n2 := Lib.hid n2
    replace n3 := Lib.hid n3
    rw [show holdsP l = false by rw [h5.out _ _ _ h1 rfl rfl]; rfl]
    clear h1 h5 hk hl
    have hq2 : ∃ e2 : Int, (if exOk l.x = true then (0 : Int) else 130) = e2 := ⟨_, rfl⟩
    obtain ⟨e2, he2⟩ := hq2
    replace n2 := n2.out
    rw [he2] at n2
    replace n2 := Lib.hid n2
    clear he2
    go_enter Tryz.func50, Tryz.ntmps50
    go_wp2_with fail
    refine (n1.out _ (by repeat (first | assumption | exact Below.refl _ _ | refine Below.setCell ?_ (by first | exact Nat.le_refl _ | (simp; done) | omega | (simp; omega)) _ | refine Below.alloc ?_ (by first | exact Nat.le_refl _ | (simp; done) | omega | (simp; omega)) _ | refine below_drewN ?_ _ | refine Below.drew ?_ | refine Below.on (by assumption) ?_ | refine Below.via (by assumption) (by first | exact Nat.le_refl _ | (simp; done) | omega | (simp; omega)) ?_))).mono ?_
    rintro e w1 ⟨rfl, h1⟩
    have hB1 : Below w.heap.size w w1 := Below.on h1 (by repeat (first | assumption | exact Below.refl _ _ | refine Below.setCell ?_ (by first | exact Nat.le_refl _ | (simp; done) | omega | (simp; omega)) _ | refine Below.alloc ?_ (by first | exact Nat.le_refl _ | (simp; done) | omega | (simp; omega)) _ | refine below_drewN ?_ _ | refine Below.drew ?_ | refine Below.on (by assumption) ?_ | refine Below.via (by assumption) (by first | exact Nat.le_refl _ | (simp; done) | omega | (simp; omega)) ?_))
    have K1 := Lib.hid (K0.out.below h1)
    clear h1 n1
    (have k1 := Blk.cell K1.out; have f1 := Blk.free K1.out; have l1 := Blk.lt K1.out; have m1 := Nat.le_of_lt l1)
    go_wp2_with fail
    refine (n2.out _ hB1).mono ?_
    rintro e w2 ⟨rfl, h2⟩
    have hB2 := Below.on h2 hB1
    have K2 := Lib.hid (K1.out.below h2)
    clear h2 hB1 n2 k1 f1 l1 m1 K1
    (have k2 := Blk.cell K2.out; have f2 := Blk.free K2.out; have l2 := Blk.lt K2.out; have m2 := Nat.le_of_lt l2)
    go_wp2_with fail
    go_ret
    exact ⟨rfl, hB2⟩
  | true =>
    rw [h1, if_pos rfl] at n1
    cases h2 : exOk l.x with
    | false =>
      rw [h2, if_neg (by simp)] at n2
      replace n1 := Lib.hid n1
      replace n2 := Lib.hid n2
      replace n3 := Lib.hid n3
      rw [show holdsP l = false by rw [h5.out _ _ _ h1 h2 rfl]; rfl]
      clear h1 h2 h5 hk hl
      go_enter Tryz.func50, Tryz.ntmps50
      go_wp2_with fail
      refine (n1.out _ (by repeat (first | assumption | exact Below.refl _ _ | refine Below.setCell ?_ (by first | exact Nat.le_refl _ | (simp; done) | omega | (simp; omega)) _ | refine Below.alloc ?_ (by first | exact Nat.le_refl _ | (simp; done) | omega | (simp; omega)) _ | refine below_drewN ?_ _ | refine Below.drew ?_ | refine Below.on (by assumption) ?_ | refine Below.via (by assumption) (by first | exact Nat.le_refl _ | (simp; done) | omega | (simp; omega)) ?_))).mono ?_
      rintro e w1 ⟨rfl, h1⟩
      have hB1 : Below w.heap.size w w1 := Below.on h1 (by repeat (first | assumption | exact Below.refl _ _ | refine Below.setCell ?_ (by first | exact Nat.le_refl _ | (simp; done) | omega | (simp; omega)) _ | refine Below.alloc ?_ (by first | exact Nat.le_refl _ | (simp; done) | omega | (simp; omega)) _ | refine below_drewN ?_ _ | refine Below.drew ?_ | refine Below.on (by assumption) ?_ | refine Below.via (by assumption) (by first | exact Nat.le_refl _ | (simp; done) | omega | (simp; omega)) ?_))
      have K1 := Lib.hid (K0.out.below h1)
      clear h1 n1
      (have k1 := Blk.cell K1.out; have f1 := Blk.free K1.out; have l1 := Blk.lt K1.out; have m1 := Nat.le_of_lt l1)
      go_wp2_with fail
      refine (n2.out _ hB1).mono ?_
      rintro e w2 ⟨rfl, h2⟩
      have hB2 := Below.on h2 hB1
      have K2 := Lib.hid (K1.out.below h2)
      clear h2 hB1 n2 k1 f1 l1 m1 K1
      (have k2 := Blk.cell K2.out; have f2 := Blk.free K2.out; have l2 := Blk.lt K2.out; have m2 := Nat.le_of_lt l2)
      go_wp2_with fail
      go_ret
      exact ⟨rfl, hB2⟩
    | true =>
      rw [h2, if_pos rfl] at n2
      replace n1 := Lib.hid n1
      replace n2 := Lib.hid n2
      replace n3 := Lib.hid n3
      by_cases h3 : l.br.l.length = 2
      · have e3 : ((l.br.l.length : Int) == 2) = true := by rw [h3]; rfl
        rw [show holdsP l = r4 by rw [h5.out _ _ _ h1 h2 (decide_eq_true h3)]; rfl]
        clear h1 h2 h3 h5 hk hl
        go_enter Tryz.func50, Tryz.ntmps50
        go_wp2_with fail
        refine (n1.out _ (by repeat (first | assumption | exact Below.refl _ _ | refine Below.setCell ?_ (by first | exact Nat.le_refl _ | (simp; done) | omega | (simp; omega)) _ | refine Below.alloc ?_ (by first | exact Nat.le_refl _ | (simp; done) | omega | (simp; omega)) _ | refine below_drewN ?_ _ | refine Below.drew ?_ | refine Below.on (by assumption) ?_ | refine Below.via (by assumption) (by first | exact Nat.le_refl _ | (simp; done) | omega | (simp; omega)) ?_))).mono ?_
        rintro e w1 ⟨rfl, h1⟩
        have hB1 : Below w.heap.size w w1 := Below.on h1 (by repeat (first | assumption | exact Below.refl _ _ | refine Below.setCell ?_ (by first | exact Nat.le_refl _ | (simp; done) | omega | (simp; omega)) _ | refine Below.alloc ?_ (by first | exact Nat.le_refl _ | (simp; done) | omega | (simp; omega)) _ | refine below_drewN ?_ _ | refine Below.drew ?_ | refine Below.on (by assumption) ?_ | refine Below.via (by assumption) (by first | exact Nat.le_refl _ | (simp; done) | omega | (simp; omega)) ?_))
        have K1 := Lib.hid (K0.out.below h1)
        clear h1 n1
        (have k1 := Blk.cell K1.out; have f1 := Blk.free K1.out; have l1 := Blk.lt K1.out; have m1 := Nat.le_of_lt l1)
        go_wp2_with fail
        refine (n2.out _ hB1).mono ?_
        rintro e w2 ⟨rfl, h2⟩
        have hB2 := Below.on h2 hB1
        have K2 := Lib.hid (K1.out.below h2)
        clear h2 hB1 n2 k1 f1 l1 m1 K1
        (have k2 := Blk.cell K2.out; have f2 := Blk.free K2.out; have l2 := Blk.lt K2.out; have m2 := Nat.le_of_lt l2)
        go_wp2_with fail
        refine (n3.out _ hB2).mono ?_
        rintro e w3 ⟨rfl, h3⟩
        go_wp2_with fail
        go_ret
        exact ⟨rfl, Below.on h3 hB2⟩
      · have e3 : ((l.br.l.length : Int) == 2) = false := by simp; omega
        rw [show holdsP l = false by rw [h5.out _ _ _ h1 h2 (decide_eq_false h3)]; rfl]
        clear h1 h2 h3 h5 hk hl
        go_enter Tryz.func50, Tryz.ntmps50
        go_wp2_with fail
        refine (n1.out _ (by repeat (first | assumption | exact Below.refl _ _ | refine Below.setCell ?_ (by first | exact Nat.le_refl _ | (simp; done) | omega | (simp; omega)) _ | refine Below.alloc ?_ (by first | exact Nat.le_refl _ | (simp; done) | omega | (simp; omega)) _ | refine below_drewN ?_ _ | refine Below.drew ?_ | refine Below.on (by assumption) ?_ | refine Below.via (by assumption) (by first | exact Nat.le_refl _ | (simp; done) | omega | (simp; omega)) ?_))).mono ?_
        rintro e w1 ⟨rfl, h1⟩
        have hB1 : Below w.heap.size w w1 := Below.on h1 (by repeat (first | assumption | exact Below.refl _ _ | refine Below.setCell ?_ (by first | exact Nat.le_refl _ | (simp; done) | omega | (simp; omega)) _ | refine Below.alloc ?_ (by first | exact Nat.le_refl _ | (simp; done) | omega | (simp; omega)) _ | refine below_drewN ?_ _ | refine Below.drew ?_ | refine Below.on (by assumption) ?_ | refine Below.via (by assumption) (by first | exact Nat.le_refl _ | (simp; done) | omega | (simp; omega)) ?_))
        have K1 := Lib.hid (K0.out.below h1)
        clear h1 n1
        (have k1 := Blk.cell K1.out; have f1 := Blk.free K1.out; have l1 := Blk.lt K1.out; have m1 := Nat.le_of_lt l1)
        go_wp2_with fail
        refine (n2.out _ hB1).mono ?_
        rintro e w2 ⟨rfl, h2⟩
        have hB2 := Below.on h2 hB1
        have K2 := Lib.hid (K1.out.below h2)
        clear h2 hB1 n2 k1 f1 l1 m1 K1
        (have k2 := Blk.cell K2.out; have f2 := Blk.free K2.out; have l2 := Blk.lt K2.out; have m2 := Nat.le_of_lt l2)
        go_wp2_with fail
        go_ret
        exact ⟨rfl, hB2⟩
end Go.Proofs.YtegaaccioppfjaaGreatDoor
end
