/- What the later texts stand on (Lgt2): plain laws and walks, each by its own conditions. -/
import Derived.Test.YtegaaccioppfjaaGreatDoorFr14
set_option linter.unusedSimpArgs false
set_option linter.unusedVariables false
section
namespace Go.Proofs.YtegaaccioppfjaaGreatDoor
open BigFrame Go.RowKit Go.Phx Go.Shelf
attribute [local go_sem] Oper.semAt_some

def ones8 (n : Nat) : Nat := ((List.range 8).filter fun i => n.testBit i).length
def tabOk (T : ByteArray) : Bool := decide (T.size = 256) && (List.range 256).all fun k => decide ((T.data[k]?).map (·.toNat) = some (ones8 k))
theorem ones8_le (n : Nat) : ones8 n ≤ 8 := Nat.le_trans (List.length_filter_le _ _) (by simp)
theorem ones_parts (n : Nat) : onesP n = ones8 (n / 256) + ones8 (n % 256) := by
 unfold onesP ones8
 rw [show List.range 16 = List.range 8 ++ (List.range 8).map (· + 8) by decide, List.filter_append, List.length_append, List.filter_map, List.length_map, Nat.add_comm]
 congr 2
 ·apply List.filter_congr
  intro i _
  simp only [Function.comp]
  rw [show (256 : Nat) = 2 ^ 8 by decide, Nat.testBit_div_two_pow]
 ·apply List.filter_congr
  intro i hi
  rw [show (256 : Nat) = 2 ^ 8 by decide, Nat.testBit_mod_two_pow]
  simp [List.mem_range.1 hi]
theorem ones_mod (n : Nat) : onesP (n % 65536) = onesP n := by
 unfold onesP
 congr 1
 apply List.filter_congr
 intro i hi
 rw [show (65536 : Nat) = 2 ^ 16 by decide, Nat.testBit_mod_two_pow]
 simp [List.mem_range.1 hi]
theorem ones_le (n : Nat) : onesP n ≤ 16 := Nat.le_trans (List.length_filter_le _ _) (by simp)
theorem index_tab (T : ByteArray) (hT : tabOk T = true) (kk : IntKind) (k : Nat) (hk : k < 256) (w : World) : (Instr.index 9 (.string T) (.int kk (k : Int))).run Tryz.prog w = .ok (.int .u8 ((ones8 k : Nat) : Int)) w := by
 unfold tabOk at hT
 rw [Bool.and_eq_true, decide_eq_true_eq] at hT
 have h := List.all_eq_true.1 hT.2 k (List.mem_range.2 hk)
 rw [decide_eq_true_eq] at h
 have hs : k < T.data.size := by have := hT.1; rw [← ByteArray.size_data] at this; omega
 rw [Array.getElem?_eq_getElem hs] at h
 have h2 : (T.data[k]'hs).toNat = ones8 k := by simpa using h
 have hs2 : k < T.size := by rw [hT.1]; exact hk
 rw [run_index_string _ _ _ _ _ underString, dif_pos ⟨by omega, by omega⟩]
 have h3 : (T[(k : Int).toNat]'(by rw [Int.toNat_natCast]; exact hs2)).toNat = ones8 k := by
  show (T.data[(k : Int).toNat]'_).toNat = _
  simp only [Int.toNat_natCast]
  exact h2
 rw [h3]
theorem and255 (n : Nat) (hn : n < 65536) : bits .and .u16 (n : Int) 255 = ((n % 256 : Nat) : Int) := by
 have e : (BitVec.ofInt 16 (n : Int) &&& BitVec.ofInt 16 255).toNat = n % 256 := by
  rw [BitVec.toNat_and]
  have h1 : (BitVec.ofInt 16 (n : Int)).toNat = n := by simp; omega
  have h2 : (BitVec.ofInt 16 255).toNat = 2 ^ 8 - 1 := by decide
  rw [h1, h2, Nat.and_two_pow_sub_one_eq_mod]
 show IntKind.u16.wrap ((BitVec.ofInt 16 (n : Int) &&& BitVec.ofInt 16 255).toNat : Int) = _
 rw [e]
 exact IntWalk.u16_in _ (by omega)
theorem exec_index {P : Program} {o : Oper} {a : Act} {w : World} {t : TypeId} {x y : Operand} {u v r : Value} (ho : o.op = .index t x y) (hx : a.eval x = u) (hy : a.eval y = v) (hr : (Instr.index t u v).run P w = .ok r w) :
  (execOp a.eval o).run P w = .ok (.value r) w := by
 unfold execOp
 simp only [ho, hx, hy, Sem.run_bind, hr, Result.andThen_ok, Sem.run_pure]
theorem shr8 (n : Nat) (hn : n < 65536) : IntKind.u16.wrap ((n : Int) / 256) = ((n / 256 : Nat) : Int) := by
 rw [show ((n : Int) / 256) = ((n / 256 : Nat) : Int) by omega]
 exact IntWalk.u16_in _ (by omega)
set_option maxRecDepth 100000 in
set_option maxHeartbeats 2000000 in
theorem ones_calls (n : Nat) (hn : n < 65536) (w : World) : Calls Tryz.prog 117 #[.int .u16 n] w (Ret w (.int .i64 (onesP n : Nat))) := by
 have q1 := shr8 n hn
 rw [ones_parts]
 have a1 := ones8_le (n / 256)
 have a2 := ones8_le (n % 256)
 have b1 : n / 256 < 256 := by omega
 have b2 : n % 256 < 256 := by omega
 have t1 := fun (T : ByteArray) (hT : tabOk T = true) (w : World) => index_tab T hT .u16 (n / 256) b1 w
 have t2 := fun (T : ByteArray) (hT : tabOk T = true) (w : World) => index_tab T hT .u16 (n % 256) b2 w
 have s1 : IntKind.u8.wrap (((ones8 (n / 256) : Nat) : Int) + ((ones8 (n % 256) : Nat) : Int)) = ((ones8 (n / 256) : Nat) : Int) + ((ones8 (n % 256) : Nat) : Int) := IntWalk.u8_in _ (by omega)
 have s2 : IntKind.i64.wrap (((ones8 (n / 256) : Nat) : Int) + ((ones8 (n % 256) : Nat) : Int)) = ((ones8 (n / 256) : Nat) : Int) + ((ones8 (n % 256) : Nat) : Int) := IntWalk.i64_in _ (by omega)
 have q2 := and255 n hn
 rw [Int.natCast_add]
 generalize ones8 (n / 256) = x at *
 generalize ones8 (n % 256) = y at *
 go_enter Tryz.func117, Tryz.ntmps117
 go_wp2_with fail
 have hwf : ∀ f, Fence.wide.fn f := fun _ => trivial
 refine (wpIn_wide (n := 9)).1 ?_
 refine wpIn_round_held (fun _ => True) (fun j => decide (j < 8)) (by kernel_rfl) ?_
 have hS0 : True := trivial
 refine S_tk 0 (.int .u16 n) rfl hS0 (fun w' _ => by go_simp) ?_
 refine S_tk 1 (.int .u16 ((n / 256 : Nat) : Int)) rfl hS0 (fun w' _ => by go_simp) ?_
 refine S_tk 2 (.int .u8 x) rfl hS0 (fun w' _ => exec_index rfl rfl (by kernel_rfl) (t1 _ (by decide +kernel) w')) ?_
 refine S_tk 3 (.int .u16 n) rfl hS0 (fun w' _ => by go_simp) ?_
 refine S_tk 4 (.int .u16 ((n % 256 : Nat) : Int)) rfl hS0 (fun w' _ => by go_simp) ?_
 refine S_tk 5 (.int .u8 y) rfl hS0 (fun w' _ => exec_index rfl rfl (by kernel_rfl) (t2 _ (by decide +kernel) w')) ?_
 refine S_tk 6 (.int .u8 ((x : Int) + (y : Int))) rfl hS0 (fun w' _ => by go_simp) ?_
 refine S_tk 7 (.int .i64 ((x : Int) + (y : Int))) rfl hS0 (fun w' _ => by go_simp) ?_
 refine S_end 8 (ls := [_]) rfl (fun j hj => by simp; omega) (by kernel_rfl) ?_
 gi_wp2_with fail
 refine ⟨rfl, ?_⟩
 go_wp2_with fail
 go_ret
 exact ⟨rfl, bel⟩
theorem conv_bits (n : Nat) : IntKind.u16.wrap (n : Int) = ((n % 65536 : Nat) : Int) := by
 simp [IntKind.wrap, IntKind.signed, IntKind.bits]
set_option maxRecDepth 100000 in
theorem signers_calls (u : Up) (w : World) : Calls Tryz.prog 56 #[upV u] w (Ret w (.int .i64 (onesP u.bits : Nat))) := by
 have n1 := fun W => ones_calls (u.bits % 65536) (by omega) W
 rw [ones_mod] at n1
 have q := conv_bits u.bits
 replace n1 := Lib.hid n1
 go_enter Tryz.func56, Tryz.ntmps56
 go_wp2_with fail
 refine (n1.out _).mono ?_
 rintro e w1 ⟨rfl, h1⟩
 go_wp2_with fail
 go_ret
 exact ⟨rfl, Below.on h1 bel⟩
theorem mul3 (n : Nat) : IntKind.i64.wrap (3 * ((onesP n : Nat) : Int)) = 3 * ((onesP n : Nat) : Int) := by
 have := ones_le n
 exact IntWalk.i64_in _ (by omega)
theorem two_dec (u : Up) : decide ((32 : Int) ≤ 3 * ((onesP u.bits : Nat) : Int)) = twoP u := by
 unfold twoP
 rw [Bool.eq_iff_iff, decide_eq_true_iff, decide_eq_true_iff]
 omega
set_option maxRecDepth 100000 in
theorem two_calls (u : Up) (w : World) : Calls Tryz.prog 83 #[upV u] w (Ret w (.bool (twoP u))) := by
 have n1 := fun W => signers_calls u W
 have K0 := Blk.new0 w 33 (upA u)
 have q := mul3 u.bits
 have q2 := two_dec u
 replace n1 := Lib.hid n1
 replace K0 := Lib.hid K0
 go_enter Tryz.func83, Tryz.ntmps83
 go_wp2_with (with_reducible refine wpList_load_run (o := ⟨_, .load 33 _, _, _, _, none⟩) (ldUp u K0.out) rfl _ rfl rfl ?_)
 trace_state
 refine (n1.out _).mono ?_
 rintro e w1 ⟨rfl, h1⟩
 go_wp2_with fail
 go_ret
 exact ⟨by simp [← q2], Below.on h1 bel⟩
set_option maxRecDepth 100000 in
theorem pick_calls (b : Bool) (x y : Int) (w : World) : Calls Tryz.prog 167 #[.bool b, .int .i64 x, .int .i64 y] w (fun e w' => e = .returned (.int .i64 (if b then x else y)) ∧ w' = w) := by
 cases b
 all_goals
  go_enter Tryz.func167, Tryz.ntmps167
  go_wp2_with fail
  go_ret
  exact ⟨rfl, rfl⟩
set_option maxRecDepth 100000 in
theorem number_of (b : Bool) (w : World) : Calls Tryz.prog 125 #[.bool b] w (fun e w' => e = .returned (.int .i64 (numB b)) ∧ w' = w) := by
 have n1 := fun W => pick_calls b 1 0 W
 rw [show (if b = true then (1 : Int) else 0) = numB b from rfl] at n1
 generalize numB b = r at *
 replace n1 := Lib.hid n1
 go_enter Tryz.func125, Tryz.ntmps125
 go_wp2_with fail
 refine (n1.out _).mono ?_
 rintro e w1 ⟨rfl, rfl⟩
 go_wp2_with fail
 go_ret
 exact ⟨rfl, rfl⟩
/-- how two numbers stand -/
def cmpP (a b : Int) : Int := if a < b then -1 else if b < a then 1 else 0
set_option maxRecDepth 100000 in
theorem cmpI_calls (a b : Int) (w : World) : Calls Tryz.prog 73 #[.int .i64 a, .int .i64 b] w (fun e w' => e = .returned (.int .i64 (cmpP a b)) ∧ w' = w) := by
 have n1 : ∀ (x : Int) (W : World), Calls Tryz.prog 126 #[.int .i64 x] W (fun e w' => e = .returned (.bool false) ∧ w' = W) := fun x W => by
  go_enter Tryz.func126, Tryz.ntmps126
  go_wp2_with fail
  go_ret
  exact ⟨by simp, rfl⟩
 unfold cmpP
 have key : ∀ r1 r2 : Bool, decide (a < b) = r1 → decide (b < a) = r2 → Calls Tryz.prog 73 #[.int .i64 a, .int .i64 b] w (fun e w' => e = .returned (.int .i64 (if r1 then -1 else if r2 then 1 else 0)) ∧ w' = w) := fun r1 r2 e1 e2 => by
  replace n1 := Lib.hid n1
  cases r1 <;> cases r2
  all_goals
   go_enter Tryz.func73, Tryz.ntmps73
   go_wp2_with fail
   refine (n1.out _ _).mono ?_
   rintro e w1 ⟨rfl, rfl⟩
   go_wp2_with fail
   refine (n1.out _ _).mono ?_
   rintro e w1 ⟨rfl, rfl⟩
   go_wp2_with fail
   go_ret
   exact ⟨rfl, rfl⟩
 have := key _ _ rfl rfl
 simpa using this
set_option maxRecDepth 100000 in
theorem cmpU_calls (a b : Int) (w : World) : Calls Tryz.prog 74 #[.int .u64 a, .int .u64 b] w (fun e w' => e = .returned (.int .i64 (cmpP a b)) ∧ w' = w) := by
 have n1 : ∀ (x : Int) (W : World), Calls Tryz.prog 127 #[.int .u64 x] W (fun e w' => e = .returned (.bool false) ∧ w' = W) := fun x W => by
  go_enter Tryz.func127, Tryz.ntmps127
  go_wp2_with fail
  go_ret
  exact ⟨by simp, rfl⟩
 unfold cmpP
 have key : ∀ r1 r2 : Bool, decide (a < b) = r1 → decide (b < a) = r2 → Calls Tryz.prog 74 #[.int .u64 a, .int .u64 b] w (fun e w' => e = .returned (.int .i64 (if r1 then -1 else if r2 then 1 else 0)) ∧ w' = w) := fun r1 r2 e1 e2 => by
  replace n1 := Lib.hid n1
  cases r1 <;> cases r2
  all_goals
   go_enter Tryz.func74, Tryz.ntmps74
   go_wp2_with fail
   refine (n1.out _ _).mono ?_
   rintro e w1 ⟨rfl, rfl⟩
   go_wp2_with fail
   refine (n1.out _ _).mono ?_
   rintro e w1 ⟨rfl, rfl⟩
   go_wp2_with fail
   go_ret
   exact ⟨rfl, rfl⟩
 have := key _ _ rfl rfl
 simpa using this
end Go.Proofs.YtegaaccioppfjaaGreatDoor
end
