/- A tree's root is the sum of its halves' roots; chunks 0 behind the last one change nothing; a root with a length is the sum of both; by the program alone: any chunks, depth, number, their bulk bounded. -/
import Derived.Test.YthflonnkmkjddaaDoorG11
import Derived.Test.YthflonnkmkjddaaDoorG8
import Derived.Test.YthflonnkmkjddaaDoorG9
import Derived.Test.YthflonnkmkjddaaDoorG7
import Derived.WalkKit
import Derived.ProofKit
import Derived.OpenShut
set_option linter.unusedSimpArgs false
set_option linter.unusedVariables false
namespace Go.Proofs.YthflonnkmkjddaaDoor
open BigFrame Go.RowKit Go.Phx Go.Shelf
attribute [local go_sem] Oper.semAt_some
namespace lawSszHalves

theorem rootV_yes {L : List Bytes} {d : Nat} (h : RightP L d) : rootV L d = .tuple #[.string (bs (rootP L d)), .int .i64 0] := by
  unfold rootV
  rw [if_pos h]
  rfl
theorem rootV_is (L : List Bytes) (d : Int) : ∃ (p : Bytes) (e : Int), rootV L d = .tuple #[.string (bs p), .int .i64 e] := by
  unfold rootV
  split
  · exact ⟨_, _, rfl⟩
  · exact ⟨[], _, rfl⟩
theorem txts_take {w : World} {A : Option Addr} {L : List Bytes} (h : Txts w A L) (k : Nat) : Txts w A (L.take k) := fun h0 => by
  simp only [List.length_map, List.length_take] at h0
  obtain ⟨b, o, ha, hb, hc⟩ := h (by simp; omega)
  refine ⟨b, o, ha, hb, fun i x hx => hc i x ?_⟩
  have hi := (List.getElem?_eq_some_iff.1 hx).1
  simp only [List.length_map, List.length_take] at hi
  rw [List.getElem?_map] at hx ⊢
  rwa [List.getElem?_take_of_lt (by omega)] at hx
theorem txts_drop {w : World} {b o : Nat} {L : List Bytes} (h : Txts w (some ⟨b, o, none⟩) L) (k : Nat) : Txts w (some ⟨b, o + k, none⟩) (L.drop k) := fun h0 => by
  simp only [List.length_map, List.length_drop] at h0
  obtain ⟨b', o', ha, hb, hc⟩ := h (by simp; omega)
  simp only [Option.some.injEq, Addr.mk.injEq, and_true] at ha
  obtain ⟨rfl, rfl⟩ := ha
  refine ⟨b, o + k, rfl, hb, fun i x hx => ?_⟩
  rw [Nat.add_assoc]
  refine hc (k + i) x ?_
  rw [List.getElem?_map] at hx ⊢
  rwa [List.getElem?_drop] at hx
section
variable {P : Program} {ops : Array Oper} {md : Region.Mode} {S : World → Prop} {nd : Nat → Bool} {F : Fence} {m : Nat} {Q : Exit → Act → World → Prop}
/-- one of two comes up -/
theorem S_two (i j : Nat) {oi oj : Oper} {fuel : Nat} {listed : Array Bool} {a : Act} {w : World} (hF : ∀ f, F.fn f) (hd : noDefer ops = true) (hr : Region.ready md ops listed = [i, j]) (hi : ops[i]? = some oi) (hj : ops[j]? = some oj)
    (wi : Region.wanted oi (yielded ops a.tmps) = true) (wj : Region.wanted oj (yielded ops a.tmps) = true)
    (h1 : ∃ v w', (execOp a.eval oi).run P w = .ok (.value v) w' ∧ (nd i = true → S w') ∧ anyS F m P md ops Q S nd fuel (listed.setIfInBounds i true) (a.put oi.dst v) w')
    (h2 : ∃ v w', (execOp a.eval oj).run P w = .ok (.value v) w' ∧ (nd j = true → S w') ∧ anyS F m P md ops Q S nd fuel (listed.setIfInBounds j true) (a.put oj.dst v) w') :
    anyS F m P md ops Q S nd (fuel + 1) listed a w := by
  refine ⟨fun h0 => (by rw [hr] at h0; cases h0), fun k hk => ?_⟩
  rw [hr] at hk
  have go : ∀ (k : Nat) (o : Oper), ops[k]? = some o → Region.wanted o (yielded ops a.tmps) = true → (∃ v w', (execOp a.eval o).run P w = .ok (.value v) w' ∧ (nd k = true → S w') ∧ anyS F m P md ops Q S nd fuel (listed.setIfInBounds k true) (a.put o.dst v) w') →
      wpOpIn F m P ops Q k (fun a' w' => (nd k = true → S w') ∧ anyS F m P md ops Q S nd fuel (listed.setIfInBounds k true) a' w') a w := by
    rintro k o ho hw ⟨v, w', hr, hS, h⟩
    unfold wpOpIn
    simp only [ho, hw, if_true, Oper.wpIn, Oper.semAt_plain _ _ _ (noDefer_spec hd ho), hr, Oper.uponIn]
    exact ⟨fun f _ => hF f, hS, h⟩
  simp only [List.mem_cons, List.not_mem_nil, or_false] at hk
  rcases hk with rfl | rfl
  · exact go _ _ hi wi h1
  · exact go _ _ hj wj h2
/-- .. and one alone -/
theorem S_run (i : Nat) {oi : Oper} {fuel : Nat} {listed : Array Bool} {a : Act} {w : World} (hF : ∀ f, F.fn f) (hd : noDefer ops = true) (hr : Region.ready md ops listed = [i]) (hi : ops[i]? = some oi)
    (wi : Region.wanted oi (yielded ops a.tmps) = true)
    (h1 : ∃ v w', (execOp a.eval oi).run P w = .ok (.value v) w' ∧ (nd i = true → S w') ∧ anyS F m P md ops Q S nd fuel (listed.setIfInBounds i true) (a.put oi.dst v) w') :
    anyS F m P md ops Q S nd (fuel + 1) listed a w := by
  refine ⟨fun h0 => (by rw [hr] at h0; cases h0), fun k hk => ?_⟩
  rw [hr] at hk
  obtain rfl := List.mem_singleton.1 hk
  obtain ⟨v, w', hr, hS, h⟩ := h1
  unfold wpOpIn
  simp only [hi, wi, if_true, Oper.wpIn, Oper.semAt_plain _ _ _ (noDefer_spec hd hi), hr, Oper.uponIn]
  exact ⟨fun f _ => hF f, hS, h⟩
end
theorem txts_dropA {w : World} {a : Addr} {L : List Bytes} (h : Txts w (some a) L) (k : Nat) : Txts w (some (a.add k)) (L.drop k) := fun h0 => by
  obtain ⟨b', o', ha, hb, hc⟩ := h (by simp at h0 ⊢; omega)
  simp only [Option.some.injEq] at ha
  subst ha
  rw [Addr.add_mid]
  exact txts_drop h k h0
theorem info_u8 : (Tryd.prog.info? 5).map (fun i => (i.zero, i.size, i.bytes)) = some (some (.int .u8 0), 1, 1) := by kernel_rfl
theorem mk_txts (W : World) (base n : Nat) (hb : base ≤ W.heap.size) (hn : n ≤ 1048577) : ∃ w1, (Instr.makeSlice 22 (.int .i64 0) (.int .i64 n)).run Tryd.prog W = .ok (.slice (some ⟨W.heap.size, 0, none⟩) 0 n) w1 ∧ LRow base w1 (.slice (some ⟨W.heap.size, 0, none⟩) 0 n) [] ∧ W.grownBy w1 none := by
  obtain ⟨i0, hi, hz0, hz1, hz2⟩ := info_parts infoStr
  exact run_make_own (P := Tryd.prog) W base 22 9 i0 (.string ByteArray.empty) 1 Tryd.underlying22 hi hz0 hz1 .i64 .i64 n (by rw [hz2]; omega) (by unfold maxLen; omega) hb
/-- a row of 32 bytes 0 -/
def Zs (w : World) (g : Nat) : Prop := w.ownsRow 0 5 1 (.slice (some ⟨g, 0, none⟩) 32 32) 32 (zero32.map bv)
/-- one text 0, in a block -/
def Cl (w : World) (g : Nat) : Prop := g < w.heap.size ∧ w.cell? ⟨g, 0, none⟩ = some (tv zero32)
theorem Zs.lt {w : World} {g : Nat} (h : Zs w g) : g < w.heap.size := (World.ownsRow.lt h g rfl).2
theorem Zs.keep {w w' : World} {g : Nat} {r : Option Nat} (h : Zs w g) (hg : w.grownBy w' r) (hn : r ≠ some g) : Zs w' g := h.kept hg (.inr fun e => hn e.symm)
theorem Cl.keep {w w' : World} {g : Nat} {r : Option Nat} (h : Cl w g) (hg : w.grownBy w' r) (hn : r ≠ some g) : Cl w' g :=
  ⟨Nat.lt_of_lt_of_le h.1 hg.size, (World.cell?_of_block (a := ⟨g, 0, none⟩) (hg.block g h.1 (fun e => hn e.symm))).trans h.2⟩
theorem Zs.conv {w : World} {g : Nat} (h : Zs w g) : (convert 28 9 (.slice (some ⟨g, 0, none⟩) 32 32)).run Tryd.prog w = .ok (.string (bs zero32)) w :=
  conv_cells w g zero32 32 32 rfl (own_cells h)
theorem mk_zeros (W : World) : ∃ w1, (Instr.makeSlice 28 (.int .i64 32) (.int .i64 32)).run Tryd.prog W = .ok (.slice (some ⟨W.heap.size, 0, none⟩) 32 32) w1 ∧ Zs w1 W.heap.size ∧ W.grownBy w1 none := by
  obtain ⟨i0, hi, hz0, hz1, hz2⟩ := info_parts infoU8
  obtain ⟨w1, hmk, hown, hgr⟩ := run_make_full (P := Tryd.prog) W 0 28 5 i0 (.int .u8 0) 1 Tryd.underlying28 hi hz0 hz1 .i64 .i64 32 (by rw [hz2]; omega) (by unfold maxLen; omega) (Nat.zero_le _)
  have hcs : (madeCells (Value.int .u8 0).cells (32 * 1)).toList = zero32.map bv := by
    rw [show (Value.int IntKind.u8 0).cells = #[Value.int .u8 0] from rfl, Nat.mul_one, toList_madeCells_one]
    rfl
  rw [hcs] at hown
  exact ⟨w1, hmk, hown, hgr⟩
theorem stepM {w0 W : World} {n : Nat} (hn : n ≤ 1048577) (hB : Below w0.heap.size w0 W) : ∃ v W1, (Instr.makeSlice 22 (.int .i64 0) (.int .i64 n)).run Tryd.prog W = .ok v W1 ∧ Below w0.heap.size w0 W1 ∧ LRow w0.heap.size W1 v [] ∧
    (∀ g, Zs W g → Zs W1 g) ∧ (∀ g, Cl W g → Cl W1 g) ∧ (∀ g, Zs W g ∨ Cl W g → ∀ k, v.ownBlock = some k → k ≠ g) := by
  obtain ⟨w1, hm, hr, hg⟩ := mk_txts W w0.heap.size n hB.size hn
  refine ⟨_, w1, hm, hB.grown hg hB.size (fun k e => by cases e), hr, fun g h => h.keep hg (by simp), fun g h => h.keep hg (by simp), fun g h k hk => ?_⟩
  have : g < W.heap.size := h.elim Zs.lt (fun h => h.1)
  simp only [Value.ownBlock, Option.some.injEq] at hk
  omega
theorem stepA {w0 W : World} {v : Value} {A : Option Addr} {c : Nat} {L : List Bytes} (hL : L.length ≤ 1048576) (hB : Below w0.heap.size w0 W) (R : LRow w0.heap.size W v []) (hs : Txts W A L) :
    ∃ v' W1, (Builtin.append_ #[22, 22] 22 #[v, .slice A L.length c]).run Tryd.prog W = .ok v' W1 ∧ Below w0.heap.size w0 W1 ∧ LRow w0.heap.size W1 v' L ∧
    (∀ g, (∀ k, v.ownBlock = some k → k ≠ g) → (Zs W g → Zs W1 g) ∧ (Cl W g → Cl W1 g)) := by
  obtain ⟨v', W1, hr, h2, h3⟩ := app_rows W w0.heap.size hB.size v [] R A c L (by simp) hL hs
  refine ⟨v', W1, hr, below_app hB R h3, by simpa using h2, fun g hd => ?_⟩
  have hn : v.ownBlock ≠ some g := fun e => hd g e rfl
  exact ⟨fun h => h.keep h3 hn, fun h => h.keep h3 hn⟩
theorem stepB {w0 W : World} (hB : Below w0.heap.size w0 W) : ∃ W1, (Instr.makeSlice 28 (.int .i64 32) (.int .i64 32)).run Tryd.prog W = .ok (.slice (some ⟨W.heap.size, 0, none⟩) 32 32) W1 ∧ Below w0.heap.size w0 W1 ∧ Zs W1 W.heap.size ∧
    (∀ v L, LRow w0.heap.size W v L → LRow w0.heap.size W1 v L) ∧ (∀ v L, LRow w0.heap.size W v L → ∀ k, v.ownBlock = some k → k ≠ W.heap.size) := by
  obtain ⟨w1, hm, hz, hg⟩ := mk_zeros W
  exact ⟨w1, hm, hB.grown hg hB.size (fun k e => by cases e), hz, fun v L R => R.keep hg (fun _ _ e => by cases e), fun v L R k hk => Nat.ne_of_lt (R.lt k hk).2⟩
theorem stepD {w0 W : World} (hB : Below w0.heap.size w0 W) : Below w0.heap.size w0 (W.alloc (.cells #[tv zero32] 9)) ∧ Cl (W.alloc (.cells #[tv zero32] 9)) W.heap.size ∧
    (∀ v L, LRow w0.heap.size W v L → LRow w0.heap.size (W.alloc (.cells #[tv zero32] 9)) v L) ∧ (∀ v L, LRow w0.heap.size W v L → ∀ k, v.ownBlock = some k → k ≠ W.heap.size) :=
  ⟨hB.alloc hB.size _, ⟨by simp, new_cell _ _ _⟩, fun v L R => R.on _, fun v L R k hk => Nat.ne_of_lt (R.lt k hk).2⟩
theorem exec_append {P : Program} {o : Oper} {a : Act} {w w' : World} (s x : Operand) (t u : TypeId) (ho : o.op = .call { callee := .builtin .append, args := #[s, x], argTypes := #[t, u] }) (v y v' : Value) (hs : a.eval s = v) (hx : a.eval x = y)
    (hr : (Builtin.append_ #[t, u] o.type #[v, y]).run P w = .ok v' w') : (execOp a.eval o).run P w = .ok (.value v') w' := by
  unfold execOp
  simp only [ho, resolve, invoke, builtin, Sem.run_bind, Sem.run_pure, Result.andThen_ok, List.map_toArray, List.map_cons, List.map_nil, hs, hx, hr]
theorem wp_named {P : Program} {c : Code} {Q : Exit → Act → World → Prop} {a : Act} {w : World} (h : ∀ a0, a0 = a → c.wp P Q a0 w) : c.wp P Q a w := h a rfl
set_option maxRecDepth 100000 in
set_option maxHeartbeats 40000000 in
theorem walk (A : Option Addr) (c : Nat) (xs : List ByteArray) (d : Int) (nI : Int) (hn0 : 0 ≤ nI) (hn1 : nI ≤ 18446744073709551615) (hxc : xs.length ≤ c) (hb : xs.length + ((xs.map fun s => s.data.toList).flatten).length ≤ 1048576) (w : World) (hs : Strs w A xs) (hk : HasK w) :
    Calls Tryd.prog 3 #[.slice A xs.length c, .int .i64 d, .int .u64 nI] w (Ret w (.bool true)) := by
  obtain ⟨n, rfl⟩ : ∃ n : Nat, nI = n := ⟨nI.toNat, (Int.toNat_of_nonneg hn0).symm⟩
  have hn : n < 18446744073709551616 := by omega
  clear hn0 hn1
  obtain ⟨L, hL1, hL2⟩ := as_lists xs
  rw [← hL2] at hb
  subst hL1
  clear hL2
  rw [List.length_map] at hb hxc ⊢
  obtain ⟨hl, hall⟩ := in_bulk hb
  replace hs : Txts w A L := hs
  clear hb
  have hl2 : L.length ≤ 9223372036854775807 := by omega
  have hall2 := Lib.hid (show ∀ x ∈ L, x.length ≤ 9223372036854775807 from fun x hx => by have := hall x hx; omega)
  clear hall
  by_cases hd0 : d < 0
  · have e1 : decide (d < 0) = true := decide_eq_true hd0
    replace hs := Lib.hid hs
    go_enter Tryd.func3, Tryd.ntmps3
    go_wp2_with fail
    refine (shown8_calls _ hk).mono ?_
    rintro e w1 ⟨rfl, h1⟩
    go_wp2_with fail
    go_ret
    exact ⟨rfl, h1⟩
  by_cases hd7 : 7 < d
  · have e1 : decide (d < 0) = false := decide_eq_false hd0
    have e2 : decide (7 < d) = true := decide_eq_true hd7
    replace hs := Lib.hid hs
    go_enter Tryd.func3, Tryd.ntmps3
    go_wp2_with fail
    refine (shown8_calls _ hk).mono ?_
    rintro e w1 ⟨rfl, h1⟩
    go_wp2_with fail
    go_ret
    exact ⟨rfl, h1⟩
  obtain ⟨D, rfl⟩ : ∃ D : Nat, d = D := ⟨d.toNat, by omega⟩
  have hD : D ≤ 7 := by omega
  have e1 : decide ((D : Int) < 0) = false := decide_eq_false hd0
  have e2 : decide (7 < (D : Int)) = false := decide_eq_false hd7
  clear hd0 hd7
  have e3 : ((D + 1 : Nat) : Int) = (D : Int) + 1 := by omega
  have p1 : IntKind.i64.wrap ((D : Int) + 1) = (D : Int) + 1 := IntWalk.i64_in _ (by omega)
  by_cases hR : RightP L (D + 1 : Nat)
  · obtain ⟨hr0, hr1, hr2, hr3, hr4⟩ := hR
    simp only [Int.toNat_natCast] at hr3
    obtain ⟨N, hN⟩ : ∃ N, 2 ^ D = N := ⟨_, rfl⟩
    have hN1 : 1 ≤ N := by rw [← hN]; exact Nat.two_pow_pos _
    have hN2 : N ≤ 128 := by rw [← hN]; exact Nat.le_trans (Nat.pow_le_pow_right (by omega) hD) (by decide)
    have hpw := pow_wrap D (by omega)
    have hpw2 : (2 : Int) ^ D = (N : Int) := by rw [← hN]; simp
    rw [Nat.pow_succ, hN] at hr3
    obtain ⟨k, hk1⟩ : ∃ k, min L.length N = k := ⟨_, rfl⟩
    have hta : rootP (L.take k) D = rootP (L.take N) D := by
      by_cases h : L.length ≤ N
      · rw [List.take_of_length_le (by omega), List.take_of_length_le (by omega)]
      · rw [show k = N by omega]
    have htb : rootP (L.drop k) D = rootP (L.drop N) D := by
      by_cases h : L.length ≤ N
      · rw [List.drop_eq_nil_of_le (by omega), List.drop_eq_nil_of_le (by omega)]
      · rw [show k = N by omega]
    have hhalf := root_halves L D
    rw [hN, ← hta, ← htb] at hhalf
    have hra : RightP (L.take k) (D : Nat) := ⟨by omega, by omega, by simp; omega, by simp only [Int.toNat_natCast, List.length_take, hN]; omega, fun x hx => hr4 x (List.mem_of_mem_take hx)⟩
    have hrb : RightP (L.drop k) (D : Nat) := ⟨by omega, by omega, by simp; omega, by simp only [Int.toNat_natCast, List.length_drop, hN]; omega, fun x hx => hr4 x (List.mem_of_mem_drop hx)⟩
    have hva := rootV_yes hra
    have hvb := rootV_yes hrb
    have hv := rootV_yes (L := L) (d := D + 1) ⟨by omega, by omega, hr2, by simp only [Int.toNat_natCast, Nat.pow_succ, hN]; omega, hr4⟩
    have hm1 := root_more L (D + 1)
    have hlr : (rootP L (D + 1)).length = 32 := by rw [hhalf]; exact sha_len _
    have hla : (rootP (L.take k) D).length ≤ 1000 := by rw [show rootP (L.take k) D = nodeP (L.take k) D 0 from rfl, node_len _ hra.2.2.2.2]; omega
    have hlb : (rootP (L.drop k) D).length ≤ 1000 := by rw [show rootP (L.drop k) D = nodeP (L.drop k) D 0 from rfl, node_len _ hrb.2.2.2.2]; omega
    have hmin : min (L.length : Int) (2 ^ D) = (k : Int) := by rw [hpw2]; omega
    have hkc : k ≤ c := by omega
    have hkc2 : (k : Int) ≤ (c : Int) := by omega
    have hkc3 : (k : Int) ≤ (L.length : Int) := by omega
    have hk0 : (0 : Int) ≤ (k : Int) := by omega
    obtain ⟨A3, hA3⟩ : ∃ A3, (if c = k then A else Option.map (fun x => x.add k) A) = A3 := ⟨_, rfl⟩
    have hsD : Txts w A3 (L.drop k) := by
      by_cases hd : L.drop k = []
      · rw [hd]; exact Strs.nil _ _
      · rw [← hA3, if_neg (fun h => hd (List.drop_eq_nil_of_le (by omega)))]
        cases A with
        | none => obtain ⟨b, o, ha, _⟩ := hs (by
            have : L ≠ [] := fun h => hd (by rw [h]; simp)
            simpa [List.length_pos_iff] using this); cases ha
        | some a => exact txts_dropA hs k
    replace hsD := Lib.hid hsD
    have hkl : k ≤ L.length := by omega
    have hkN : k ≤ N := by omega
    have hsT := Lib.hid (txts_take hs k)
    have c1 := fun W (hB : Below w.heap.size w W) => zroot_calls A c L (D + 1 : Nat) hl2 hall2.out W (hk.on hB) (Txts.below hs hB)
    rw [hv, e3] at c1
    have hra2 : ∀ x ∈ L.take k, x.length ≤ 9223372036854775807 := fun x hx => hall2.out x (List.mem_of_mem_take hx)
    have hrb2 : ∀ x ∈ L.drop k, x.length ≤ 9223372036854775807 := fun x hx => hall2.out x (List.mem_of_mem_drop hx)
    have c2 := fun W (hB : Below w.heap.size w W) => zroot_calls A c (L.take k) (D : Nat) (by simp; omega) hra2 W (hk.on hB) (Txts.below hsT.out hB)
    rw [hva, show (L.take k).length = k by simp; omega] at c2
    have c3 := fun W (hB : Below w.heap.size w W) => zroot_calls A3 (c - k) (L.drop k) (D : Nat) (by simp; omega) hrb2 W (hk.on hB) (Txts.below hsD.out hB)
    rw [hvb, show (L.drop k).length = L.length - k by simp] at c3
    replace c3 := Lib.hid c3
    replace c1 := Lib.hid c1
    replace c2 := Lib.hid c2
    replace hs := Lib.hid hs
    replace hhalf := Lib.hid hhalf
    replace hN := Lib.hid hN
    replace hm1 := Lib.hid hm1
    replace hra := Lib.hid hra
    replace hrb := Lib.hid hrb
    replace hva := Lib.hid hva
    replace hvb := Lib.hid hvb
    replace hv := Lib.hid hv
    replace hr4 := Lib.hid hr4
    replace hra2 := Lib.hid hra2
    replace hrb2 := Lib.hid hrb2
    replace hk := Lib.hid hk
    clear hta htb hpw2
    go_enter Tryd.func3, Tryd.ntmps3
    go_wp2_with fail
    refine (shown8_calls _ hk.out).mono ?_
    rintro e w1 ⟨rfl, h1⟩
    go_wp2_with fail
    refine (c1.out _ h1).mono ?_
    rintro e w2 ⟨rfl, h2⟩
    have hB2 := Below.on h2 h1
    clear h1 h2
    go_wp2_with fail
    refine (c2.out _ hB2).mono ?_
    rintro e w3 ⟨rfl, h3⟩
    have hB3 := Below.on h3 hB2
    clear hB2 h3
    go_wp2_with fail
    try simp only [hA3]
    refine (c3.out _ hB3).mono ?_
    rintro e w4 ⟨rfl, h4⟩
    have hB4 := Below.on h4 hB3
    clear hB3 h4
    go_wp2_with fail
    have hl3 : L.length ≤ 1048576 := hl
    obtain ⟨n1, hn1e⟩ : ∃ n1, L.length + 1 = n1 := ⟨_, rfl⟩
    have hn1 : n1 ≤ 1048577 := by omega
    have hn1i : IntKind.i64.wrap ((L.length : Int) + 1) = (n1 : Int) := by rw [← hn1e]; exact IntWalk.i64_in _ (by omega)
    have hs10 := Lib.hid (Txts.below hs.out hB4)
    refine wp_named fun a0 ha0 => ?_
    have hwf : ∀ f, Fence.wide.fn f := fun _ => trivial
    refine (wpIn_wide (n := 9)).1 ?_
    refine wpIn_mono (Q := fun e a' w' => e = .normal ∧ ∃ p q g h v', a' = (((((((((((a0.put (some 60) (.slice A L.length c)).put (some 61) (.int .i64 L.length)).put (some 62) (.int .i64 n1)).put (some 63) p).put (some 64) (.slice A L.length c)).put (some 65) q).put (some 66) g).put (some 67) (.string (bs zero32))).put (some 68) h).put (some 69) v').put (some 15) v') ∧ LRow w4.heap.size w' v' (L ++ [zero32]) ∧ Below w4.heap.size w4 w') ?reg ?rest
    case rest =>
      rename_i K0 hK0
      rintro e a' w5 ⟨rfl, p0, q0, g0, h0, v', rfl, R, hB5⟩
      subst ha0
      obtain ⟨A5, c5, rfl, T5⟩ := R.txts
      have hlen5 : (L ++ [zero32]).length = L.length + 1 := by simp
      have hall5 : ∀ x ∈ L ++ [zero32], x.length ≤ 9223372036854775807 := fun x hx => by
        rcases List.mem_append.1 hx with h | h
        · exact hall2.out x h
        · simp at h; subst h; decide
      have hk5 := hk.out.on (Below.on hB5 hB4)
      have c6 := zroot_calls A5 c5 (L ++ [zero32]) (D + 1 : Nat) (by simp; omega) hall5 w5 hk5 T5
      have hB6 := Below.on hB5 hB4
      have hmix := fun W (hB : Below w.heap.size w W) => mix_calls (rootP L (D + 1)) (by rw [hlr]; omega) n hn W (hk.out.on hB)
      rw [if_pos hlr] at hmix
      have hnum := number_calls n hn
      have hhalf2 := hhalf.out
      have hs1 := fun g W (hB : Below w.heap.size w W) hs => sum2_calls (rootP (L.take k) D) (rootP (L.drop k) D) hla hlb g W (hk.out.on hB) hs
      rw [← hhalf2] at hs1
      have hs2 := fun g W (hB : Below w.heap.size w W) hs => sum2_calls (rootP L (D + 1)) (numP n) (by omega) (by rw [numP_len]; omega) g W (hk.out.on hB) hs
      obtain ⟨p, er, hp, hfull⟩ : ∃ (p : Bytes) (er : Int), rootV (L ++ [zero32]) (D + 1 : Nat) = .tuple #[.string (bs p), .int .i64 er] ∧ (¬ L.length = 2 * N → ¬ L.length = 256 → p = rootP L (D + 1) ∧ er = 0) := by
        by_cases hf : L.length = 2 * N ∨ L.length = 256
        · obtain ⟨p, er, hp⟩ := rootV_is (L ++ [zero32]) (D + 1 : Nat)
          exact ⟨p, er, hp, fun h1 h2 => absurd hf (by omega)⟩
        · refine ⟨_, _, rootV_yes ⟨by omega, by omega, by omega, by simp only [Int.toNat_natCast, Nat.pow_succ, hN.out]; omega, fun x hx => ?_⟩, fun _ _ => ⟨hm1.out, rfl⟩⟩
          rcases List.mem_append.1 hx with h | h
          · exact hr4.out x h
          · simp at h; subst h; rfl
      rw [hp, hlen5, e3] at c6
      generalize rootP L (D + 1) = rt at *
      generalize rootP (L.take k) D = ra at *
      generalize rootP (L.drop k) D = rb at *
      generalize numP n = nm at *
      generalize sha (rt ++ nm) = mx at *
      rw [hlen5]
      clear hlen5 R T5 hall5 hB5 hB4 c1 c2 c3 hs hsT hsD hra hrb hva hvb hv hra2 hrb2 hall2 hr4 hhalf hhalf2 hm1 hp hk hk5 hA3
      have hkk : IntKind.i64.wrap ((L.length + 1 : Nat) : Int) = ((L.length + 1 : Nat) : Int) := IntWalk.i64_in _ (by omega)
      generalize L.length + 1 = l1 at *
      generalize L.length = ll at *
      refine hK0 _ _ ?_
      clear hK0 K0 hn1i hn1 hs10 hl3 hkk hn1e hmin hkc hkc2 hkc3 hk0 hkl hkN hk1 hpw hlr hla hlb hxc hl hl2
      simp only [Act.put, List.getElem_toArray, List.getElem_cons_succ, List.getElem_cons_zero, List.setIfInBounds_toArray, List.set_cons_succ, List.set_cons_zero]
      replace c6 := Lib.hid c6
      replace hmix := Lib.hid hmix
      replace hs1 := Lib.hid hs1
      replace hs2 := Lib.hid hs2
      replace hnum := Lib.hid hnum
      replace hfull := Lib.hid hfull
      go_wp2_with fail
      refine c6.out.mono ?_
      rintro e w6 ⟨rfl, h6⟩
      have hB7 := Below.on h6 hB6
      clear h6 hB6 c6
      go_wp2_with fail
      refine (hmix.out _ hB7).mono ?_
      rintro e w7 ⟨rfl, h7⟩
      have hB8 := Below.on h7 hB7
      clear h7 hB7 hmix
      have hT : wrap64 (2 * (2 : Int) ^ D) = ((2 * N : Nat) : Int) := by
        have h2 := pow_wrap (D + 1) (by omega)
        rw [Int.pow_succ, Int.mul_comm, Nat.pow_succ, hN.out, Nat.mul_comm] at h2
        exact h2
      by_cases hA : ll = 2 * N
      · have hT2 : wrap64 (2 * (2 : Int) ^ D) = (ll : Int) := by rw [hT, ← hA]
        clear hT hA
        go_wp2_with fail
        refine (hs1.out _ _ (hB8.alloc hB8.size _) (strs2 w7 _ _)).mono ?_
        rintro e w8 ⟨rfl, h8⟩
        have hB9 := Below.on h8 (hB8.alloc hB8.size _)
        clear h8 hs1
        go_wp2_with fail
        refine (hnum.out _).mono ?_
        rintro e w9 ⟨rfl, h9⟩
        have hB10 := Below.on h9 hB9
        clear h9
        go_wp2_with fail
        refine (hs2.out _ _ (hB10.alloc hB10.size _) (strs2 w9 _ _)).mono ?_
        rintro e w10 ⟨rfl, h10⟩
        have hB11 := Below.on h10 (hB10.alloc hB10.size _)
        clear h10 hs2
        go_wp2_with fail
        go_ret
        exact ⟨rfl, hB11⟩
      by_cases hB : ll = 256
      · have hA2 : ¬ (256 : Int) = ((2 * N : Nat) : Int) := by omega
        subst hB
        generalize ((2 * N : Nat) : Int) = T at *
        clear hA
        go_wp2_with fail
        refine (hs1.out _ _ (hB8.alloc hB8.size _) (strs2 w7 _ _)).mono ?_
        rintro e w8 ⟨rfl, h8⟩
        have hB9 := Below.on h8 (hB8.alloc hB8.size _)
        clear h8 hs1
        go_wp2_with fail
        refine (hnum.out _).mono ?_
        rintro e w9 ⟨rfl, h9⟩
        have hB10 := Below.on h9 hB9
        clear h9
        go_wp2_with fail
        refine (hs2.out _ _ (hB10.alloc hB10.size _) (strs2 w9 _ _)).mono ?_
        rintro e w10 ⟨rfl, h10⟩
        have hB11 := Below.on h10 (hB10.alloc hB10.size _)
        clear h10 hs2
        go_wp2_with fail
        go_ret
        exact ⟨rfl, hB11⟩
      obtain ⟨rfl, rfl⟩ := hfull.out hA hB
      have hA2 : ¬ (ll : Int) = ((2 * N : Nat) : Int) := by omega
      have hB2 : ¬ (ll : Int) = 256 := by omega
      clear hfull hA hB
      generalize ((2 * N : Nat) : Int) = T at *
      go_wp2_with fail
      refine (hs1.out _ _ (hB8.alloc hB8.size _) (strs2 w7 _ _)).mono ?_
      rintro e w8 ⟨rfl, h8⟩
      have hB9 := Below.on h8 (hB8.alloc hB8.size _)
      clear h8 hs1
      go_wp2_with fail
      refine (hnum.out _).mono ?_
      rintro e w9 ⟨rfl, h9⟩
      have hB10 := Below.on h9 hB9
      clear h9
      go_wp2_with fail
      refine (hs2.out _ _ (hB10.alloc hB10.size _) (strs2 w9 _ _)).mono ?_
      rintro e w10 ⟨rfl, h10⟩
      have hB11 := Below.on h10 (hB10.alloc hB10.size _)
      clear h10 hs2
      go_wp2_with fail
      go_ret
      exact ⟨rfl, hB11⟩
    case reg =>
      subst ha0
      refine wpIn_round_held (fun _ => True) (fun j => decide (j < 10)) (by kernel_rfl) ?_
      have hS0 : True := trivial
      refine S_take (fun _ => trivial) 0 (.slice A L.length c) (by kernel_rfl) rfl (by kernel_rfl) (by kernel_rfl) (by kernel_rfl) (by kernel_rfl) (onlyN_panic _ _) hS0 (by kernel_rfl) (fun w' _ => by go_simp) ?_
      refine S_take (fun _ => trivial) 1 (.int .i64 L.length) (by kernel_rfl) rfl (by kernel_rfl) (by kernel_rfl) (by kernel_rfl) (by kernel_rfl) (onlyN_panic _ _) hS0 (by kernel_rfl) (fun w' _ => by go_simp) ?_
      refine S_take (fun _ => trivial) 2 (.int .i64 n1) (by kernel_rfl) rfl (by kernel_rfl) (by kernel_rfl) (by kernel_rfl) (by kernel_rfl) (onlyN_panic _ _) hS0 (by kernel_rfl) (fun w' _ => by go_simp) ?_
      refine S_take (fun _ => trivial) 4 (.slice A L.length c) (by kernel_rfl) rfl (by kernel_rfl) (by kernel_rfl) (by kernel_rfl) (by kernel_rfl) (onlyN_panic _ _) hS0 (by kernel_rfl) (fun w' _ => by go_simp) ?_
      simp only [Act.put, List.getElem_toArray, List.getElem_cons_succ, List.getElem_cons_zero, List.setIfInBounds_toArray, List.set_cons_succ, List.set_cons_zero]
      have h : Below w4.heap.size w4 w4.drew := (by repeat (first | assumption | exact Below.refl _ _ | refine Below.setCell ?_ (by first | exact Nat.le_refl _ | (simp; done) | omega | (simp; omega)) _ | refine Below.alloc ?_ (by first | exact Nat.le_refl _ | (simp; done) | omega | (simp; omega)) _ | refine below_drewN ?_ _ | refine Below.drew ?_ | refine Below.on (by assumption) ?_ | refine Below.via (by assumption) (by first | exact Nat.le_refl _ | (simp; done) | omega | (simp; omega)) ?_))
      generalize w4.drew = W0 at *
      --REG10
      obtain ⟨v1, W1, m1, h1, R1, z1, c1, d1⟩ := stepM hn1 h
      obtain ⟨W2, m2, h2, Z2, r2, d2⟩ := stepB h
      refine S_two 3 6 (fun _ => trivial) (by kernel_rfl) (by kernel_rfl) rfl rfl (by kernel_rfl) (by kernel_rfl) ⟨v1, W1, by go_simp, fun _ => trivial, ?_⟩ ⟨.slice (some ⟨W0.heap.size, 0, none⟩) 32 32, W2, by go_simp, fun _ => trivial, ?_⟩
      · have R := R1
        replace h := h1
        clear m1
        clear m2
        simp only [Act.put, List.getElem_toArray, List.getElem_cons_succ, List.getElem_cons_zero, List.setIfInBounds_toArray, List.set_cons_succ, List.set_cons_zero]
        obtain ⟨v3, W3, m3, h3, R3, z3⟩ := stepA (c := c) hl3 h R (Txts.below hs10.out h)
        obtain ⟨W4, m4, h4, Z4, r4, d4⟩ := stepB h
        refine S_two 5 6 (fun _ => trivial) (by kernel_rfl) (by kernel_rfl) rfl rfl (by kernel_rfl) (by kernel_rfl) ⟨v3, W3, exec_append _ _ _ _ rfl _ _ _ (by kernel_rfl) (by kernel_rfl) m3, fun _ => trivial, ?_⟩ ⟨.slice (some ⟨W1.heap.size, 0, none⟩) 32 32, W4, by go_simp, fun _ => trivial, ?_⟩
        · replace R := R3
          replace h := h3
          clear m3
          clear m4
          simp only [Act.put, List.getElem_toArray, List.getElem_cons_succ, List.getElem_cons_zero, List.setIfInBounds_toArray, List.set_cons_succ, List.set_cons_zero]
          obtain ⟨W5, m5, h5, Z5, r5, d5⟩ := stepB h
          refine S_run 6 (fun _ => trivial) (by kernel_rfl) (by kernel_rfl) rfl (by kernel_rfl) ⟨.slice (some ⟨W3.heap.size, 0, none⟩) 32 32, W5, by go_simp, fun _ => trivial, ?_⟩
          have D := d5 _ _ R
          replace R := r5 _ _ R
          have Z := Z5
          replace h := h5
          clear m5
          simp only [Act.put, List.getElem_toArray, List.getElem_cons_succ, List.getElem_cons_zero, List.setIfInBounds_toArray, List.set_cons_succ, List.set_cons_zero]
          have m6 := Zs.conv Z
          refine S_run 7 (fun _ => trivial) (by kernel_rfl) (by kernel_rfl) rfl (by kernel_rfl) ⟨.string (bs zero32), W5, by go_simp, fun _ => trivial, ?_⟩
          clear Z
          clear m6
          simp only [Act.put, List.getElem_toArray, List.getElem_cons_succ, List.getElem_cons_zero, List.setIfInBounds_toArray, List.set_cons_succ, List.set_cons_zero]
          obtain ⟨h7, C7, r7, d7⟩ := stepD h
          refine S_run 8 (fun _ => trivial) (by kernel_rfl) (by kernel_rfl) rfl (by kernel_rfl) ⟨.slice (some ⟨W5.heap.size, 0, none⟩) 1 1, (W5.alloc (.cells #[tv zero32] 9)), by go_simp; rfl, fun _ => trivial, ?_⟩
          have D := d7 _ _ R
          replace R := r7 _ _ R
          have C := C7
          replace h := h7
          generalize (W5.alloc (.cells #[tv zero32] 9)) = W7 at *
          simp only [Act.put, List.getElem_toArray, List.getElem_cons_succ, List.getElem_cons_zero, List.setIfInBounds_toArray, List.set_cons_succ, List.set_cons_zero]
          refine S_oneL 9 (by kernel_rfl) rfl ?_
          refine wpListIn_append_txt rfl _ _ rfl w4.heap.size _ L (by rfl) R zero32 ⟨_, 0, none⟩ (by rfl) (by rw [Addr.add_mid]; exact C.2) (by omega) h.size ?_
          intro v' w' hown hgrow _
          have HB := below_app h R hgrow
          simp only [Act.put, List.getElem_toArray, List.getElem_cons_succ, List.getElem_cons_zero, List.setIfInBounds_toArray, List.set_cons_succ, List.set_cons_zero]
          refine ⟨fun _ => trivial, ?_⟩
          refine S_end 10 (ls := [_]) rfl (fun j hj => by simp; omega) (by kernel_rfl) ?_
          gi_wp2_with fail
          refine ⟨rfl, rfl, v1, v3, .slice (some ⟨W3.heap.size, 0, none⟩) 32 32, .slice (some ⟨W5.heap.size, 0, none⟩) 1 1, v', ?_, hown, HB⟩
          simp only [Act.put, List.getElem_toArray, List.getElem_cons_succ, List.getElem_cons_zero, List.setIfInBounds_toArray, List.set_cons_succ, List.set_cons_zero]
        · have D := d4 _ _ R
          replace R := r4 _ _ R
          have Z := Z4
          replace h := h4
          clear m3
          clear m4
          simp only [Act.put, List.getElem_toArray, List.getElem_cons_succ, List.getElem_cons_zero, List.setIfInBounds_toArray, List.set_cons_succ, List.set_cons_zero]
          obtain ⟨v8, W8, m8, h8, R8, z8⟩ := stepA (c := c) hl3 h R (Txts.below hs10.out h)
          have m9 := Zs.conv Z
          refine S_two 5 7 (fun _ => trivial) (by kernel_rfl) (by kernel_rfl) rfl rfl (by kernel_rfl) (by kernel_rfl) ⟨v8, W8, exec_append _ _ _ _ rfl _ _ _ (by kernel_rfl) (by kernel_rfl) m8, fun _ => trivial, ?_⟩ ⟨.string (bs zero32), W4, by go_simp, fun _ => trivial, ?_⟩
          · replace Z := (z8 _ D).1 Z
            replace R := R8
            replace h := h8
            clear m8
            clear m9
            simp only [Act.put, List.getElem_toArray, List.getElem_cons_succ, List.getElem_cons_zero, List.setIfInBounds_toArray, List.set_cons_succ, List.set_cons_zero]
            have m10 := Zs.conv Z
            refine S_run 7 (fun _ => trivial) (by kernel_rfl) (by kernel_rfl) rfl (by kernel_rfl) ⟨.string (bs zero32), W8, by go_simp, fun _ => trivial, ?_⟩
            clear Z
            clear m10
            simp only [Act.put, List.getElem_toArray, List.getElem_cons_succ, List.getElem_cons_zero, List.setIfInBounds_toArray, List.set_cons_succ, List.set_cons_zero]
            obtain ⟨h11, C11, r11, d11⟩ := stepD h
            refine S_run 8 (fun _ => trivial) (by kernel_rfl) (by kernel_rfl) rfl (by kernel_rfl) ⟨.slice (some ⟨W8.heap.size, 0, none⟩) 1 1, (W8.alloc (.cells #[tv zero32] 9)), by go_simp; rfl, fun _ => trivial, ?_⟩
            have D := d11 _ _ R
            replace R := r11 _ _ R
            have C := C11
            replace h := h11
            generalize (W8.alloc (.cells #[tv zero32] 9)) = W11 at *
            simp only [Act.put, List.getElem_toArray, List.getElem_cons_succ, List.getElem_cons_zero, List.setIfInBounds_toArray, List.set_cons_succ, List.set_cons_zero]
            refine S_oneL 9 (by kernel_rfl) rfl ?_
            refine wpListIn_append_txt rfl _ _ rfl w4.heap.size _ L (by rfl) R zero32 ⟨_, 0, none⟩ (by rfl) (by rw [Addr.add_mid]; exact C.2) (by omega) h.size ?_
            intro v' w' hown hgrow _
            have HB := below_app h R hgrow
            simp only [Act.put, List.getElem_toArray, List.getElem_cons_succ, List.getElem_cons_zero, List.setIfInBounds_toArray, List.set_cons_succ, List.set_cons_zero]
            refine ⟨fun _ => trivial, ?_⟩
            refine S_end 10 (ls := [_]) rfl (fun j hj => by simp; omega) (by kernel_rfl) ?_
            gi_wp2_with fail
            refine ⟨rfl, rfl, v1, v8, .slice (some ⟨W1.heap.size, 0, none⟩) 32 32, .slice (some ⟨W8.heap.size, 0, none⟩) 1 1, v', ?_, hown, HB⟩
            simp only [Act.put, List.getElem_toArray, List.getElem_cons_succ, List.getElem_cons_zero, List.setIfInBounds_toArray, List.set_cons_succ, List.set_cons_zero]
          · clear Z
            clear m8
            clear m9
            simp only [Act.put, List.getElem_toArray, List.getElem_cons_succ, List.getElem_cons_zero, List.setIfInBounds_toArray, List.set_cons_succ, List.set_cons_zero]
            obtain ⟨v12, W12, m12, h12, R12, z12⟩ := stepA (c := c) hl3 h R (Txts.below hs10.out h)
            obtain ⟨h13, C13, r13, d13⟩ := stepD h
            refine S_two 5 8 (fun _ => trivial) (by kernel_rfl) (by kernel_rfl) rfl rfl (by kernel_rfl) (by kernel_rfl) ⟨v12, W12, exec_append _ _ _ _ rfl _ _ _ (by kernel_rfl) (by kernel_rfl) m12, fun _ => trivial, ?_⟩ ⟨.slice (some ⟨W4.heap.size, 0, none⟩) 1 1, (W4.alloc (.cells #[tv zero32] 9)), by go_simp; rfl, fun _ => trivial, ?_⟩
            · replace R := R12
              replace h := h12
              clear m12
              simp only [Act.put, List.getElem_toArray, List.getElem_cons_succ, List.getElem_cons_zero, List.setIfInBounds_toArray, List.set_cons_succ, List.set_cons_zero]
              obtain ⟨h14, C14, r14, d14⟩ := stepD h
              refine S_run 8 (fun _ => trivial) (by kernel_rfl) (by kernel_rfl) rfl (by kernel_rfl) ⟨.slice (some ⟨W12.heap.size, 0, none⟩) 1 1, (W12.alloc (.cells #[tv zero32] 9)), by go_simp; rfl, fun _ => trivial, ?_⟩
              have D := d14 _ _ R
              replace R := r14 _ _ R
              have C := C14
              replace h := h14
              generalize (W12.alloc (.cells #[tv zero32] 9)) = W14 at *
              simp only [Act.put, List.getElem_toArray, List.getElem_cons_succ, List.getElem_cons_zero, List.setIfInBounds_toArray, List.set_cons_succ, List.set_cons_zero]
              refine S_oneL 9 (by kernel_rfl) rfl ?_
              refine wpListIn_append_txt rfl _ _ rfl w4.heap.size _ L (by rfl) R zero32 ⟨_, 0, none⟩ (by rfl) (by rw [Addr.add_mid]; exact C.2) (by omega) h.size ?_
              intro v' w' hown hgrow _
              have HB := below_app h R hgrow
              simp only [Act.put, List.getElem_toArray, List.getElem_cons_succ, List.getElem_cons_zero, List.setIfInBounds_toArray, List.set_cons_succ, List.set_cons_zero]
              refine ⟨fun _ => trivial, ?_⟩
              refine S_end 10 (ls := [_]) rfl (fun j hj => by simp; omega) (by kernel_rfl) ?_
              gi_wp2_with fail
              refine ⟨rfl, rfl, v1, v12, .slice (some ⟨W1.heap.size, 0, none⟩) 32 32, .slice (some ⟨W12.heap.size, 0, none⟩) 1 1, v', ?_, hown, HB⟩
              simp only [Act.put, List.getElem_toArray, List.getElem_cons_succ, List.getElem_cons_zero, List.setIfInBounds_toArray, List.set_cons_succ, List.set_cons_zero]
            · have D := d13 _ _ R
              replace R := r13 _ _ R
              have C := C13
              replace h := h13
              clear m12
              generalize (W4.alloc (.cells #[tv zero32] 9)) = W13 at *
              simp only [Act.put, List.getElem_toArray, List.getElem_cons_succ, List.getElem_cons_zero, List.setIfInBounds_toArray, List.set_cons_succ, List.set_cons_zero]
              obtain ⟨v15, W15, m15, h15, R15, z15⟩ := stepA (c := c) hl3 h R (Txts.below hs10.out h)
              refine S_run 5 (fun _ => trivial) (by kernel_rfl) (by kernel_rfl) rfl (by kernel_rfl) ⟨v15, W15, exec_append _ _ _ _ rfl _ _ _ (by kernel_rfl) (by kernel_rfl) m15, fun _ => trivial, ?_⟩
              replace C := (z15 _ D).2 C
              replace R := R15
              replace h := h15
              clear m15
              simp only [Act.put, List.getElem_toArray, List.getElem_cons_succ, List.getElem_cons_zero, List.setIfInBounds_toArray, List.set_cons_succ, List.set_cons_zero]
              refine S_oneL 9 (by kernel_rfl) rfl ?_
              refine wpListIn_append_txt rfl _ _ rfl w4.heap.size _ L (by rfl) R zero32 ⟨_, 0, none⟩ (by rfl) (by rw [Addr.add_mid]; exact C.2) (by omega) h.size ?_
              intro v' w' hown hgrow _
              have HB := below_app h R hgrow
              simp only [Act.put, List.getElem_toArray, List.getElem_cons_succ, List.getElem_cons_zero, List.setIfInBounds_toArray, List.set_cons_succ, List.set_cons_zero]
              refine ⟨fun _ => trivial, ?_⟩
              refine S_end 10 (ls := [_]) rfl (fun j hj => by simp; omega) (by kernel_rfl) ?_
              gi_wp2_with fail
              refine ⟨rfl, rfl, v1, v15, .slice (some ⟨W1.heap.size, 0, none⟩) 32 32, .slice (some ⟨W4.heap.size, 0, none⟩) 1 1, v', ?_, hown, HB⟩
              simp only [Act.put, List.getElem_toArray, List.getElem_cons_succ, List.getElem_cons_zero, List.setIfInBounds_toArray, List.set_cons_succ, List.set_cons_zero]
      · have Z := Z2
        replace h := h2
        clear m1
        clear m2
        simp only [Act.put, List.getElem_toArray, List.getElem_cons_succ, List.getElem_cons_zero, List.setIfInBounds_toArray, List.set_cons_succ, List.set_cons_zero]
        obtain ⟨v16, W16, m16, h16, R16, z16, c16, d16⟩ := stepM hn1 h
        have m17 := Zs.conv Z
        refine S_two 3 7 (fun _ => trivial) (by kernel_rfl) (by kernel_rfl) rfl rfl (by kernel_rfl) (by kernel_rfl) ⟨v16, W16, by go_simp, fun _ => trivial, ?_⟩ ⟨.string (bs zero32), W2, by go_simp, fun _ => trivial, ?_⟩
        · have D := d16 _ (.inl Z)
          replace Z := z16 _ Z
          have R := R16
          replace h := h16
          clear m16
          clear m17
          simp only [Act.put, List.getElem_toArray, List.getElem_cons_succ, List.getElem_cons_zero, List.setIfInBounds_toArray, List.set_cons_succ, List.set_cons_zero]
          obtain ⟨v18, W18, m18, h18, R18, z18⟩ := stepA (c := c) hl3 h R (Txts.below hs10.out h)
          have m19 := Zs.conv Z
          refine S_two 5 7 (fun _ => trivial) (by kernel_rfl) (by kernel_rfl) rfl rfl (by kernel_rfl) (by kernel_rfl) ⟨v18, W18, exec_append _ _ _ _ rfl _ _ _ (by kernel_rfl) (by kernel_rfl) m18, fun _ => trivial, ?_⟩ ⟨.string (bs zero32), W16, by go_simp, fun _ => trivial, ?_⟩
          · replace Z := (z18 _ D).1 Z
            replace R := R18
            replace h := h18
            clear m18
            clear m19
            simp only [Act.put, List.getElem_toArray, List.getElem_cons_succ, List.getElem_cons_zero, List.setIfInBounds_toArray, List.set_cons_succ, List.set_cons_zero]
            have m20 := Zs.conv Z
            refine S_run 7 (fun _ => trivial) (by kernel_rfl) (by kernel_rfl) rfl (by kernel_rfl) ⟨.string (bs zero32), W18, by go_simp, fun _ => trivial, ?_⟩
            clear Z
            clear m20
            simp only [Act.put, List.getElem_toArray, List.getElem_cons_succ, List.getElem_cons_zero, List.setIfInBounds_toArray, List.set_cons_succ, List.set_cons_zero]
            obtain ⟨h21, C21, r21, d21⟩ := stepD h
            refine S_run 8 (fun _ => trivial) (by kernel_rfl) (by kernel_rfl) rfl (by kernel_rfl) ⟨.slice (some ⟨W18.heap.size, 0, none⟩) 1 1, (W18.alloc (.cells #[tv zero32] 9)), by go_simp; rfl, fun _ => trivial, ?_⟩
            have D := d21 _ _ R
            replace R := r21 _ _ R
            have C := C21
            replace h := h21
            generalize (W18.alloc (.cells #[tv zero32] 9)) = W21 at *
            simp only [Act.put, List.getElem_toArray, List.getElem_cons_succ, List.getElem_cons_zero, List.setIfInBounds_toArray, List.set_cons_succ, List.set_cons_zero]
            refine S_oneL 9 (by kernel_rfl) rfl ?_
            refine wpListIn_append_txt rfl _ _ rfl w4.heap.size _ L (by rfl) R zero32 ⟨_, 0, none⟩ (by rfl) (by rw [Addr.add_mid]; exact C.2) (by omega) h.size ?_
            intro v' w' hown hgrow _
            have HB := below_app h R hgrow
            simp only [Act.put, List.getElem_toArray, List.getElem_cons_succ, List.getElem_cons_zero, List.setIfInBounds_toArray, List.set_cons_succ, List.set_cons_zero]
            refine ⟨fun _ => trivial, ?_⟩
            refine S_end 10 (ls := [_]) rfl (fun j hj => by simp; omega) (by kernel_rfl) ?_
            gi_wp2_with fail
            refine ⟨rfl, rfl, v16, v18, .slice (some ⟨W0.heap.size, 0, none⟩) 32 32, .slice (some ⟨W18.heap.size, 0, none⟩) 1 1, v', ?_, hown, HB⟩
            simp only [Act.put, List.getElem_toArray, List.getElem_cons_succ, List.getElem_cons_zero, List.setIfInBounds_toArray, List.set_cons_succ, List.set_cons_zero]
          · clear Z
            clear m18
            clear m19
            simp only [Act.put, List.getElem_toArray, List.getElem_cons_succ, List.getElem_cons_zero, List.setIfInBounds_toArray, List.set_cons_succ, List.set_cons_zero]
            obtain ⟨v22, W22, m22, h22, R22, z22⟩ := stepA (c := c) hl3 h R (Txts.below hs10.out h)
            obtain ⟨h23, C23, r23, d23⟩ := stepD h
            refine S_two 5 8 (fun _ => trivial) (by kernel_rfl) (by kernel_rfl) rfl rfl (by kernel_rfl) (by kernel_rfl) ⟨v22, W22, exec_append _ _ _ _ rfl _ _ _ (by kernel_rfl) (by kernel_rfl) m22, fun _ => trivial, ?_⟩ ⟨.slice (some ⟨W16.heap.size, 0, none⟩) 1 1, (W16.alloc (.cells #[tv zero32] 9)), by go_simp; rfl, fun _ => trivial, ?_⟩
            · replace R := R22
              replace h := h22
              clear m22
              simp only [Act.put, List.getElem_toArray, List.getElem_cons_succ, List.getElem_cons_zero, List.setIfInBounds_toArray, List.set_cons_succ, List.set_cons_zero]
              obtain ⟨h24, C24, r24, d24⟩ := stepD h
              refine S_run 8 (fun _ => trivial) (by kernel_rfl) (by kernel_rfl) rfl (by kernel_rfl) ⟨.slice (some ⟨W22.heap.size, 0, none⟩) 1 1, (W22.alloc (.cells #[tv zero32] 9)), by go_simp; rfl, fun _ => trivial, ?_⟩
              have D := d24 _ _ R
              replace R := r24 _ _ R
              have C := C24
              replace h := h24
              generalize (W22.alloc (.cells #[tv zero32] 9)) = W24 at *
              simp only [Act.put, List.getElem_toArray, List.getElem_cons_succ, List.getElem_cons_zero, List.setIfInBounds_toArray, List.set_cons_succ, List.set_cons_zero]
              refine S_oneL 9 (by kernel_rfl) rfl ?_
              refine wpListIn_append_txt rfl _ _ rfl w4.heap.size _ L (by rfl) R zero32 ⟨_, 0, none⟩ (by rfl) (by rw [Addr.add_mid]; exact C.2) (by omega) h.size ?_
              intro v' w' hown hgrow _
              have HB := below_app h R hgrow
              simp only [Act.put, List.getElem_toArray, List.getElem_cons_succ, List.getElem_cons_zero, List.setIfInBounds_toArray, List.set_cons_succ, List.set_cons_zero]
              refine ⟨fun _ => trivial, ?_⟩
              refine S_end 10 (ls := [_]) rfl (fun j hj => by simp; omega) (by kernel_rfl) ?_
              gi_wp2_with fail
              refine ⟨rfl, rfl, v16, v22, .slice (some ⟨W0.heap.size, 0, none⟩) 32 32, .slice (some ⟨W22.heap.size, 0, none⟩) 1 1, v', ?_, hown, HB⟩
              simp only [Act.put, List.getElem_toArray, List.getElem_cons_succ, List.getElem_cons_zero, List.setIfInBounds_toArray, List.set_cons_succ, List.set_cons_zero]
            · have D := d23 _ _ R
              replace R := r23 _ _ R
              have C := C23
              replace h := h23
              clear m22
              generalize (W16.alloc (.cells #[tv zero32] 9)) = W23 at *
              simp only [Act.put, List.getElem_toArray, List.getElem_cons_succ, List.getElem_cons_zero, List.setIfInBounds_toArray, List.set_cons_succ, List.set_cons_zero]
              obtain ⟨v25, W25, m25, h25, R25, z25⟩ := stepA (c := c) hl3 h R (Txts.below hs10.out h)
              refine S_run 5 (fun _ => trivial) (by kernel_rfl) (by kernel_rfl) rfl (by kernel_rfl) ⟨v25, W25, exec_append _ _ _ _ rfl _ _ _ (by kernel_rfl) (by kernel_rfl) m25, fun _ => trivial, ?_⟩
              replace C := (z25 _ D).2 C
              replace R := R25
              replace h := h25
              clear m25
              simp only [Act.put, List.getElem_toArray, List.getElem_cons_succ, List.getElem_cons_zero, List.setIfInBounds_toArray, List.set_cons_succ, List.set_cons_zero]
              refine S_oneL 9 (by kernel_rfl) rfl ?_
              refine wpListIn_append_txt rfl _ _ rfl w4.heap.size _ L (by rfl) R zero32 ⟨_, 0, none⟩ (by rfl) (by rw [Addr.add_mid]; exact C.2) (by omega) h.size ?_
              intro v' w' hown hgrow _
              have HB := below_app h R hgrow
              simp only [Act.put, List.getElem_toArray, List.getElem_cons_succ, List.getElem_cons_zero, List.setIfInBounds_toArray, List.set_cons_succ, List.set_cons_zero]
              refine ⟨fun _ => trivial, ?_⟩
              refine S_end 10 (ls := [_]) rfl (fun j hj => by simp; omega) (by kernel_rfl) ?_
              gi_wp2_with fail
              refine ⟨rfl, rfl, v16, v25, .slice (some ⟨W0.heap.size, 0, none⟩) 32 32, .slice (some ⟨W16.heap.size, 0, none⟩) 1 1, v', ?_, hown, HB⟩
              simp only [Act.put, List.getElem_toArray, List.getElem_cons_succ, List.getElem_cons_zero, List.setIfInBounds_toArray, List.set_cons_succ, List.set_cons_zero]
        · clear Z
          clear m16
          clear m17
          simp only [Act.put, List.getElem_toArray, List.getElem_cons_succ, List.getElem_cons_zero, List.setIfInBounds_toArray, List.set_cons_succ, List.set_cons_zero]
          obtain ⟨v26, W26, m26, h26, R26, z26, c26, d26⟩ := stepM hn1 h
          obtain ⟨h27, C27, r27, d27⟩ := stepD h
          refine S_two 3 8 (fun _ => trivial) (by kernel_rfl) (by kernel_rfl) rfl rfl (by kernel_rfl) (by kernel_rfl) ⟨v26, W26, by go_simp, fun _ => trivial, ?_⟩ ⟨.slice (some ⟨W2.heap.size, 0, none⟩) 1 1, (W2.alloc (.cells #[tv zero32] 9)), by go_simp; rfl, fun _ => trivial, ?_⟩
          · have R := R26
            replace h := h26
            clear m26
            simp only [Act.put, List.getElem_toArray, List.getElem_cons_succ, List.getElem_cons_zero, List.setIfInBounds_toArray, List.set_cons_succ, List.set_cons_zero]
            obtain ⟨v28, W28, m28, h28, R28, z28⟩ := stepA (c := c) hl3 h R (Txts.below hs10.out h)
            obtain ⟨h29, C29, r29, d29⟩ := stepD h
            refine S_two 5 8 (fun _ => trivial) (by kernel_rfl) (by kernel_rfl) rfl rfl (by kernel_rfl) (by kernel_rfl) ⟨v28, W28, exec_append _ _ _ _ rfl _ _ _ (by kernel_rfl) (by kernel_rfl) m28, fun _ => trivial, ?_⟩ ⟨.slice (some ⟨W26.heap.size, 0, none⟩) 1 1, (W26.alloc (.cells #[tv zero32] 9)), by go_simp; rfl, fun _ => trivial, ?_⟩
            · replace R := R28
              replace h := h28
              clear m28
              simp only [Act.put, List.getElem_toArray, List.getElem_cons_succ, List.getElem_cons_zero, List.setIfInBounds_toArray, List.set_cons_succ, List.set_cons_zero]
              obtain ⟨h30, C30, r30, d30⟩ := stepD h
              refine S_run 8 (fun _ => trivial) (by kernel_rfl) (by kernel_rfl) rfl (by kernel_rfl) ⟨.slice (some ⟨W28.heap.size, 0, none⟩) 1 1, (W28.alloc (.cells #[tv zero32] 9)), by go_simp; rfl, fun _ => trivial, ?_⟩
              have D := d30 _ _ R
              replace R := r30 _ _ R
              have C := C30
              replace h := h30
              generalize (W28.alloc (.cells #[tv zero32] 9)) = W30 at *
              simp only [Act.put, List.getElem_toArray, List.getElem_cons_succ, List.getElem_cons_zero, List.setIfInBounds_toArray, List.set_cons_succ, List.set_cons_zero]
              refine S_oneL 9 (by kernel_rfl) rfl ?_
              refine wpListIn_append_txt rfl _ _ rfl w4.heap.size _ L (by rfl) R zero32 ⟨_, 0, none⟩ (by rfl) (by rw [Addr.add_mid]; exact C.2) (by omega) h.size ?_
              intro v' w' hown hgrow _
              have HB := below_app h R hgrow
              simp only [Act.put, List.getElem_toArray, List.getElem_cons_succ, List.getElem_cons_zero, List.setIfInBounds_toArray, List.set_cons_succ, List.set_cons_zero]
              refine ⟨fun _ => trivial, ?_⟩
              refine S_end 10 (ls := [_]) rfl (fun j hj => by simp; omega) (by kernel_rfl) ?_
              gi_wp2_with fail
              refine ⟨rfl, rfl, v26, v28, .slice (some ⟨W0.heap.size, 0, none⟩) 32 32, .slice (some ⟨W28.heap.size, 0, none⟩) 1 1, v', ?_, hown, HB⟩
              simp only [Act.put, List.getElem_toArray, List.getElem_cons_succ, List.getElem_cons_zero, List.setIfInBounds_toArray, List.set_cons_succ, List.set_cons_zero]
            · have D := d29 _ _ R
              replace R := r29 _ _ R
              have C := C29
              replace h := h29
              clear m28
              generalize (W26.alloc (.cells #[tv zero32] 9)) = W29 at *
              simp only [Act.put, List.getElem_toArray, List.getElem_cons_succ, List.getElem_cons_zero, List.setIfInBounds_toArray, List.set_cons_succ, List.set_cons_zero]
              obtain ⟨v31, W31, m31, h31, R31, z31⟩ := stepA (c := c) hl3 h R (Txts.below hs10.out h)
              refine S_run 5 (fun _ => trivial) (by kernel_rfl) (by kernel_rfl) rfl (by kernel_rfl) ⟨v31, W31, exec_append _ _ _ _ rfl _ _ _ (by kernel_rfl) (by kernel_rfl) m31, fun _ => trivial, ?_⟩
              replace C := (z31 _ D).2 C
              replace R := R31
              replace h := h31
              clear m31
              simp only [Act.put, List.getElem_toArray, List.getElem_cons_succ, List.getElem_cons_zero, List.setIfInBounds_toArray, List.set_cons_succ, List.set_cons_zero]
              refine S_oneL 9 (by kernel_rfl) rfl ?_
              refine wpListIn_append_txt rfl _ _ rfl w4.heap.size _ L (by rfl) R zero32 ⟨_, 0, none⟩ (by rfl) (by rw [Addr.add_mid]; exact C.2) (by omega) h.size ?_
              intro v' w' hown hgrow _
              have HB := below_app h R hgrow
              simp only [Act.put, List.getElem_toArray, List.getElem_cons_succ, List.getElem_cons_zero, List.setIfInBounds_toArray, List.set_cons_succ, List.set_cons_zero]
              refine ⟨fun _ => trivial, ?_⟩
              refine S_end 10 (ls := [_]) rfl (fun j hj => by simp; omega) (by kernel_rfl) ?_
              gi_wp2_with fail
              refine ⟨rfl, rfl, v26, v31, .slice (some ⟨W0.heap.size, 0, none⟩) 32 32, .slice (some ⟨W26.heap.size, 0, none⟩) 1 1, v', ?_, hown, HB⟩
              simp only [Act.put, List.getElem_toArray, List.getElem_cons_succ, List.getElem_cons_zero, List.setIfInBounds_toArray, List.set_cons_succ, List.set_cons_zero]
          · have C := C27
            replace h := h27
            clear m26
            generalize (W2.alloc (.cells #[tv zero32] 9)) = W27 at *
            simp only [Act.put, List.getElem_toArray, List.getElem_cons_succ, List.getElem_cons_zero, List.setIfInBounds_toArray, List.set_cons_succ, List.set_cons_zero]
            obtain ⟨v32, W32, m32, h32, R32, z32, c32, d32⟩ := stepM hn1 h
            refine S_run 3 (fun _ => trivial) (by kernel_rfl) (by kernel_rfl) rfl (by kernel_rfl) ⟨v32, W32, by go_simp, fun _ => trivial, ?_⟩
            have D := d32 _ (.inr C)
            replace C := c32 _ C
            have R := R32
            replace h := h32
            clear m32
            simp only [Act.put, List.getElem_toArray, List.getElem_cons_succ, List.getElem_cons_zero, List.setIfInBounds_toArray, List.set_cons_succ, List.set_cons_zero]
            obtain ⟨v33, W33, m33, h33, R33, z33⟩ := stepA (c := c) hl3 h R (Txts.below hs10.out h)
            refine S_run 5 (fun _ => trivial) (by kernel_rfl) (by kernel_rfl) rfl (by kernel_rfl) ⟨v33, W33, exec_append _ _ _ _ rfl _ _ _ (by kernel_rfl) (by kernel_rfl) m33, fun _ => trivial, ?_⟩
            replace C := (z33 _ D).2 C
            replace R := R33
            replace h := h33
            clear m33
            simp only [Act.put, List.getElem_toArray, List.getElem_cons_succ, List.getElem_cons_zero, List.setIfInBounds_toArray, List.set_cons_succ, List.set_cons_zero]
            refine S_oneL 9 (by kernel_rfl) rfl ?_
            refine wpListIn_append_txt rfl _ _ rfl w4.heap.size _ L (by rfl) R zero32 ⟨_, 0, none⟩ (by rfl) (by rw [Addr.add_mid]; exact C.2) (by omega) h.size ?_
            intro v' w' hown hgrow _
            have HB := below_app h R hgrow
            simp only [Act.put, List.getElem_toArray, List.getElem_cons_succ, List.getElem_cons_zero, List.setIfInBounds_toArray, List.set_cons_succ, List.set_cons_zero]
            refine ⟨fun _ => trivial, ?_⟩
            refine S_end 10 (ls := [_]) rfl (fun j hj => by simp; omega) (by kernel_rfl) ?_
            gi_wp2_with fail
            refine ⟨rfl, rfl, v32, v33, .slice (some ⟨W0.heap.size, 0, none⟩) 32 32, .slice (some ⟨W2.heap.size, 0, none⟩) 1 1, v', ?_, hown, HB⟩
            simp only [Act.put, List.getElem_toArray, List.getElem_cons_succ, List.getElem_cons_zero, List.setIfInBounds_toArray, List.set_cons_succ, List.set_cons_zero]
      --END10
  · obtain ⟨p, er, hp⟩ : ∃ (p : Bytes) (e : Int), rootV L (D + 1 : Nat) = .tuple #[.string (bs p), .int .i64 e] ∧ e ≠ 0 := by
      unfold rootV
      rw [if_neg hR]
      exact ⟨[], 80, rfl, by decide⟩
    have c1 := fun W (hB : Below w.heap.size w W) => zroot_calls A c L (D + 1 : Nat) hl2 hall2.out W (hk.on hB) (Txts.below hs hB)
    rw [hp.1, e3] at c1
    have e4 : (er != 0) = true := by simpa using hp.2
    replace hp := Lib.hid hp
    replace c1 := Lib.hid c1
    replace hs := Lib.hid hs
    replace hR := Lib.hid hR
    go_enter Tryd.func3, Tryd.ntmps3
    go_wp2_with fail
    refine (shown8_calls _ hk).mono ?_
    rintro e w1 ⟨rfl, h1⟩
    clear hk
    go_wp2_with fail
    refine (c1.out _ h1).mono ?_
    rintro e w2 ⟨rfl, h2⟩
    have h12 := Below.on h2 h1
    go_wp2_with fail
    go_ret
    exact ⟨rfl, h12⟩
open Go.ChangeShapes Go.WideShapes Go.ChangeAt Go.Joins

set_option maxRecDepth 100000 in
theorem contract (H : Type) (enc : TypeId × Value → H) (W : World) (base : Nat) (args : Array Value) (ds gs : List (DataW H)) (before : List MemPlace)
    (hval0 : ∀ (j : Nat) t v, Tryd.f3.params[j]? = some t → args[j]? = some v → Value.okWide Tryd.prog W .any base t v)
    (hW : DataW.Whole enc Tryd.prog Tryd.f3.params.toList Rows.sszHalvesSpec.vars false W args.toList ds gs before) (hsmall : Rows.uptoSmall H (ds ++ gs) = true)
    (hL : laidMetH Tryd.prog Rows.sszHalvesUptoRow.laid W) :
    Calls Tryd.prog 3 args W fun e W' => ∃ v, e = .returned v ∧ Rows.sszHalvesSpec.post enc Tryd.prog Tryd.f3 false true false false W args v W' := by
  have hval := hval0
  have hW' := hW
  obtain ⟨p, q, hA0, hV, rfl, hfz, hnd⟩ := hW
  have hA : DataW.TrodAll enc Tryd.prog W 0 (fun _ => true) true Tryd.f3.params.toList args.toList ds p := hA0
  rw [Tryd.params3] at hA hval
  have hAk := hA
  obtain ⟨v0, vs0, d0, ds0, p0, q0, hargs, hds0, hps0, h0, r0⟩ := trodAll_cons hA
  obtain ⟨v1, vs1, d1, ds1, p1, q1, hvs1, hds1, hps1, h1, r1⟩ := trodAll_cons r0
  subst hvs1
  obtain ⟨v2, vs2, d2, ds2, p2, q2, hvs2, hds2, hps2, h2, r2⟩ := trodAll_cons r1
  subst hvs2
  obtain ⟨hv9, hds9, hps9⟩ := trodAll_nil r2
  subst hv9
  subst hds9
  subst hds2
  subst hds1
  subst hds0
  obtain rfl : args = #[v0, v1, v2] := by cases args; simp_all
  obtain ⟨rfl, rfl⟩ := trodVars_none hV
  obtain ⟨A0, c0, xs0, rfl, hc0, hm0, hs0, hz0, hd0⟩ := openStrs (hval 0 22 v0 rfl rfl) h0
  obtain ⟨a1, rfl, hd1, hp1, wa1⟩ := openI64 (hval 1 3 v1 rfl rfl) h1
  obtain ⟨a2, rfl, hd2, hp2, wa2⟩ := openU64 (hval 2 23 v2 rfl rfl) h2
  have hb0 := bulk_slice hd0 (bulk_of hsmall (d := d0) (by simp))
  have hK := hasK_of hL
  refine (walk A0 c0 xs0 a1 a2 (bounds_u64 wa2).1 (bounds_u64 wa2).2 hc0 hb0 W hs0 hK).mono fun e W' ⟨he, hg⟩ => ?_
  subst he
  have hlt : ∀ x ∈ p, x.block < W.heap.size := fun x hx => hW'.lt x (by simp [hx])
  exact ⟨_, rfl, post_below (pa := p) (pv := []) hW' (fun _ _ _ => (trodAll_cons_mk (shut_bool Tryd.underlying4 _) trodAll_mk0)) (fun sp hsp => by have := stays_all laidOut hg (by kernel_rfl) hAk hlt sp (fun x hx => hsp x (by simp [hx])); rw [← Tryd.params3] at this; exact this) (fun _ _ => rfl) rfl hg (ok_one (by kernel_rfl) rfl (okWide_bool_mk Tryd.underlying4 _))⟩
theorem laid_met (os : Os) : laidMet Tryd.prog Rows.sszHalvesUptoRow.laid ((laidWorld os).forCall (fun _ _ => 0) ⟨#[], #[.slice none 0 0, .int .i64 0, .int .u64 0], []⟩).memory :=
  laidMet_of_run' 8 (by kernel_rfl) (by kernel_rfl)
theorem reads (os : Os) {H : Type} (enc : TypeId × Value → H) : ∃ places, DataW.whole enc Tryd.prog ((laidWorld os).forCall (fun _ _ => 0) ⟨#[], #[.slice none 0 0, .int .i64 0, .int .u64 0], []⟩).memory Tryd.f3.params.toList Rows.sszHalvesSpec.vars false #[.slice none 0 0, .int .i64 0, .int .u64 0].toList 8 = some ([.nil, .lit (.int .i64 0), .lit (.int .u64 0)], [], places) :=
  ⟨[], by kernel_rfl⟩
set_option maxRecDepth 100000 in
theorem lifted (os : Os) (started : os.Started) (H : Type) (enc : TypeId × Value → H) (F : Stop.Interp) :
    ReturnsInHanded {} Tryd.checked os 3 .any ((Rows.OpenSpec.upto Rows.sszHalvesSpec).preRow enc Tryd.prog Tryd.f3 Rows.sszHalvesUptoRow.domain false Rows.sszHalvesUptoRow.laid) (((Rows.OpenSpec.upto Rows.sszHalvesSpec).at F).post enc Tryd.prog Tryd.f3 false true false false) := by
  obtain ⟨places, hx⟩ := reads os enc
  refine returnsInHanded_of_row (C := Tryd.checked) (s := Rows.OpenSpec.upto Rows.sszHalvesSpec) own started (by kernel_rfl) Tryd.func3
    (witness_row_at (enc := enc) (C := Tryd.checked) false (laidWorld os) #[.slice none 0 0, .int .i64 0, .int .u64 0] rfl (by kernel_rfl) (by kernel_rfl) (by kernel_rfl)
      (OpenSpec.preRow_of_cond 8 hx (by kernel_rfl) (fun k hk => by cases hk; kernel_rfl) (by kernel_rfl) (laid_met os))) ?_
  intro W base args ds gs before hval hW _ hcond hreach hL _ _
  exact contract H enc W base args ds gs before hval hW (hcond _ rfl) hL
theorem said : Rows.SszHalvesUptoSaid :=
  OpenClaim.holds_of_cond 3 Tryd.f3 rfl rfl rfl rfl rfl rfl rfl ⟨rfl, rfl, rfl, rfl, rfl⟩ rfl rfl rfl rfl rfl (by kernel_rfl) Tryd.func3 (by kernel_rfl)
    (of_decide_eq_true (by kernel_rfl)) (by unfold Func.isWrapper; first | (rw [if_pos (by decide +kernel)]; kernel_rfl) | (rw [if_neg (by decide +kernel)]; exact ⟨rfl, rfl⟩))
    (fun os started H enc _ F => by rw [OpenClaim.pre_eq_preRow]; exact lifted os started H enc F)
theorem plain (f : FuncId) (fn : Func) (hf : Tryd.pinned.checked.prog.funcNamed "pharos/pharoslaw08.SszHalves" = some f) (hfn : Tryd.pinned.checked.prog.funcs[f]? = some fn) :
    false = Tryd.pinned.checked.prog.looks [] ∧ ∀ (j : Nat) t, fn.params[j]? = some t → Tryd.pinned.checked.prog.wantsStandIn t = false := by
  obtain rfl : f = 3 := Option.some.inj ((show Tryd.prog.funcNamed "pharos/pharoslaw08.SszHalves" = some 3 by kernel_rfl).symm.trans hf) |>.symm
  obtain rfl : fn = Tryd.f3 := (Option.some.inj (Tryd.func3.symm.trans hfn)).symm
  refine ⟨by kernel_rfl, fun j t ht => ?_⟩
  rw [Tryd.params3] at ht
  have hm : t ∈ [22, 3, 23] := by simpa using Array.mem_of_getElem? ht
  have hall : ∀ t ∈ [22, 3, 23], Tryd.prog.wantsStandIn t = false := by
    intro t h
    simp only [List.mem_cons, List.not_mem_nil, or_false] at h
    rcases h with rfl | rfl | rfl <;> kernel_rfl
  exact hall t hm

/-- THE STATEMENT'S CARD -/
theorem proved : Rows.SszHalvesUptoCardSaid :=
  Claim7.holds_tied_plain_at .later [] _ _ _ _ said (fun _ h => by cases h) (by kernel_rfl) (fun _ h => by cases h) sszHalvesUpto_row_tie rfl ⟨rfl, rfl⟩ (by kernel_rfl) rfl plain (by kernel_rfl)

end lawSszHalves
end Go.Proofs.YthflonnkmkjddaaDoor
