/- What the later texts stand on (Wrd2, WrdP, Act0, Act1, Shn, Tsw): plain laws and walks, each by its own conditions. -/
import Derived.Test.YthhlbdgladhdkaaGreatDoorUs20
import Derived.Test.YthhlbdgladhdkaaGreatDoorUs5
import Derived.Test.YthhlbdgladhdkaaGreatDoorUs14
import Derived.ChangeKeysEq
import Derived.Test.YthhlbdgladhdkaaGreatDoorShelf
set_option linter.unusedSimpArgs false
set_option linter.unusedVariables false
section
namespace Go.Proofs.YthhlbdgladhdkaaGreatDoor
open BigFrame Go.RowKit Go.Phx Go.Shelf
attribute [local go_sem] Oper.semAt_some

def frL (s : Bytes) : Nat → List Int
 | 0 => [0, 0, 0, 0]
 | n + 1 => (frL s n).set (n / 8) (bits .or .u64 ((frL s n).getD (n / 8) 0) (IntKind.u64.wrap (((s.getD (s.length - (n + 1)) 0).toNat : Int) * 2 ^ (8 * (n % 8)))))
theorem frL_len (s : Bytes) : ∀ n, (frL s n).length = 4
 | 0 => rfl
 | n + 1 => by rw [frL, List.length_set]; exact frL_len s n
set_option maxRecDepth 100000 in
set_option maxHeartbeats 16000000 in
theorem wfrom_calls (s : Bytes) (hs : s.length ≤ 32) (w : World) : Calls Tryz.prog 20 #[.string (bs s)] w (Ret w (.agg (c6 (frL s s.length)))) := by
 have hlen := frL_len s
 have hsz : s.length ≤ 9223372036854775807 := by omega
 go_enter Tryz.func20, Tryz.ntmps20
 go_wp2_with fail
 refine wp_scope_straight ?_
 go_wp2_with fail
 refine wp_label ?_
 go_wp2_with fail
 have HB0 : Below w.heap.size w ((w.alloc (.cells #[.int .u64 0, .int .u64 0, .int .u64 0, .int .u64 0] 25)).alloc (.cells (c6 (frL s 0)) 25)) := bel
 have KR := (Blk.new0 w 25 #[.int .u64 0, .int .u64 0, .int .u64 0, .int .u64 0]).alloc (.cells (c6 (frL s 0)) 25)
 have KA := Blk.new1 w (.cells #[.int .u64 0, .int .u64 0, .int .u64 0, .int .u64 0] 25) 25 (c6 (frL s 0))
 go_loopw [4, 5] (fun c i wr => ∃ n m : Nat, n + m = s.length ∧ c = .int .i64 n ∧ i = .int .i64 ((m : Int) - 1) ∧ Blk wr w.heap.size 25 #[.int .u64 0, .int .u64 0, .int .u64 0, .int .u64 0] ∧ Blk wr (w.heap.size + 1) 25 (c6 (frL s n)) ∧ Below w.heap.size w wr) (fun _ i _ => (intOf i + 1).toNat)
 case atStart => exact ⟨0, s.length, by omega, rfl, rfl, KR, KA, HB0⟩
 case round =>
  clear KR KA HB0
  obtain ⟨n, m, hnm, rfl, rfl, K0, K1, HB⟩ := hrel
  match m, hnm with
  | m + 1, hnm =>
   rw [show ((m + 1 : Nat) : Int) - 1 = (m : Int) by omega]
   have x1 := fun W => index_bs s m (by omega) hsz W
   have hl := hlen n
   have g0 := c6_get (L := frL s n) (i := n / 8) (by omega)
   have hset := c6_set (frL s n) (n / 8) (bits .or .u64 ((frL s n).getD (n / 8) 0) (IntKind.u64.wrap (((s.getD m 0).toNat : Int) * 2 ^ (8 * (n % 8)))))
   have hsucc : frL s (n + 1) = (frL s n).set (n / 8) (bits .or .u64 ((frL s n).getD (n / 8) 0) (IntKind.u64.wrap (((s.getD m 0).toNat : Int) * 2 ^ (8 * (n % 8))))) := by
    rw [frL, show s.length - (n + 1) = m by omega]
   rw [← hsucc] at hset
   have hy := (s.getD m 0).toNat_lt
   generalize (frL s n).getD (n / 8) 0 = x0 at *
   generalize s.getD m 0 = y at *
   generalize c6 (frL s n) = C at *
   have hn32 : n < 32 := by omega
   have hn32' : ¬ (n : Int) = 32 := by omega
   have e0 : (0 : Int) ≤ m := by omega
   have e1 : (8 * ((n : Int) % 8)).toNat = 8 * (n % 8) := by omega
   have e2 : (0 : Int) ≤ 8 * ((n : Int) % 8) := by omega
   have e3 : (0 : Int) ≤ (n : Int) / 8 := by omega
   have e4 : (n : Int) / 8 < 4 := by omega
   have e5 : ((n : Int) / 8).toNat = n / 8 := by omega
   have e6 : ¬ (64 : Int) ≤ 8 * ((n : Int) % 8) := by omega
   have e7 := Lib.hid (show wrap64 ((m : Int) - 1) = (m : Int) - 1 by unfold wrap64; omega)
   have HN := Lib.hid hnm
   clear hsucc hnm hl
   replace hset := Lib.hid hset
   replace K0 := Lib.hid K0
   replace K1 := Lib.hid K1
   replace HB := Lib.hid HB
   (obtain ⟨k0, f0, l0, m0⟩ := K0.out.rl; obtain ⟨k1, f1, l1, m1⟩ := K1.out.rl)
   go_wp2_with fail
   go_region
   go_wp2_with fail
   go_roundw
   case rel => exact ⟨n + 1, m, by have := HN.out; omega, by go_num, by rw [e7.out], (K0.out.over2 (by omega)).drew, by rw [← hset.out]; exact (K1.out.set_ _ _).drew, (HB.out.setCell (by simp) _).drew⟩
   case measure => rw [e7.out]; simp [intOf]
  | 0, hnm =>
   obtain rfl : n = s.length := by omega
   have hl := hlen s.length
   obtain ⟨L, hL⟩ : ∃ L, frL s s.length = L := ⟨_, rfl⟩
   rw [hL] at K1 hl
   replace hL := Lib.hid hL
   match L, hl with
   | [a, b, c, d], _ =>
    have K1' : Blk wr (w.heap.size + 1) 25 #[.int .u64 a, .int .u64 b, .int .u64 c, .int .u64 d] := K1
    replace K0 := Lib.hid K0
    clear K1
    have K1 := Lib.hid K1'
    clear K1'
    replace HB := Lib.hid HB
    (obtain ⟨k0, f0, l0, m0⟩ := K0.out.rl; obtain ⟨k1, f1, l1, m1⟩ := K1.out.rl)
    go_wp2_with fail
    rw [Exit.noGoto_ret]
    refine bodyPost_ret (v := .agg #[.int .u64 a, .int .u64 b, .int .u64 c, .int .u64 d]) (by simp (maxDischargeDepth := 9) [results, Tryz.results20, go_sem, *]) rfl ⟨by rw [hL.out]; rfl, ?_⟩
    exact (((HB.out.setCell (by simp) _).setCell (by simp) _).setCell (by simp) _).setCell (by simp) _
end Go.Proofs.YthhlbdgladhdkaaGreatDoor
end
section
namespace Go.Proofs.YthhlbdgladhdkaaGreatDoor
open BigFrame Go.RowKit Go.Phx Go.Shelf

def wnI (l : List Nat) : List Int := l.map fun (x : Nat) => (x : Int)
def shP (D : Bytes) : Bytes := D.dropWhile (· == 0)
theorem wnI_at (l : List Nat) (j : Nat) : (wnI l).getD j 0 = ((l.getD j 0 : Nat) : Int) := by
 unfold wnI
 rw [List.getD, List.getD, List.getElem?_map]
 cases l[j]? <;> rfl
theorem wb_at (l : List Nat) (k : Nat) (hk : k < 32) : ((wbF (wnI l)).getD k 0).toNat = l.getD (3 - k / 8) 0 / 2 ^ (56 - 8 * (k % 8)) % 256 := by
 have h := wbK_at (wnI l) k hk
 unfold wbF
 rw [shutV_eq]
 rw [wnI_at] at h
 generalize 56 - 8 * (k % 8) = m at *
 generalize l.getD (3 - k / 8) 0 = x at *
 have e : (x : Int) / 2 ^ m % 256 = ((x / 2 ^ m % 256 : Nat) : Int) := by
  have e2 : ((2 ^ m : Nat) : Int) = 2 ^ m := by simp
  rw [← e2]
  generalize 2 ^ m = y
  omega
 rw [e] at h
 exact Int.ofNat_inj.1 h
def gW (l : List Nat) (n j : Nat) : Nat := l.getD j 0 % 2 ^ (8 * min 8 (n - 8 * j))
def gL (l : List Nat) (n : Nat) : List Int := [(gW l n 0 : Int), (gW l n 1 : Int), (gW l n 2 : Int), (gW l n 3 : Int)]
theorem gW_now (l : List Nat) (n : Nat) : gW l n (n / 8) = l.getD (n / 8) 0 % 2 ^ (8 * (n % 8)) := by
 unfold gW
 rw [show min 8 (n - 8 * (n / 8)) = n % 8 by omega]
theorem gW_step (l : List Nat) (n : Nat) : gW l (n + 1) (n / 8) = gW l n (n / 8) + 2 ^ (8 * (n % 8)) * (l.getD (n / 8) 0 / 2 ^ (8 * (n % 8)) % 256) := by
 rw [gW_now]
 unfold gW
 rw [show min 8 (n + 1 - 8 * (n / 8)) = n % 8 + 1 by omega, show 8 * (n % 8 + 1) = 8 * (n % 8) + 8 by omega, Nat.pow_add, Nat.mod_mul]
theorem gW_other (l : List Nat) (n j : Nat) (h : j ≠ n / 8) : gW l (n + 1) j = gW l n j := by
 unfold gW
 rw [show min 8 (n + 1 - 8 * j) = min 8 (n - 8 * j) by omega]
theorem gL_step (l : List Nat) (n : Nat) (hn : n < 32) : gL l (n + 1) = (gL l n).set (n / 8) ((gW l (n + 1) (n / 8) : Nat) : Int) := by
 have h : n / 8 = 0 ∨ n / 8 = 1 ∨ n / 8 = 2 ∨ n / 8 = 3 := by omega
 have ho := gW_other l n
 unfold gL
 rcases h with h | h | h | h <;> rw [h] at ho ⊢
 ·rw [ho 1 (by decide), ho 2 (by decide), ho 3 (by decide)]; rfl
 ·rw [ho 0 (by decide), ho 2 (by decide), ho 3 (by decide)]; rfl
 ·rw [ho 0 (by decide), ho 1 (by decide), ho 3 (by decide)]; rfl
 ·rw [ho 0 (by decide), ho 1 (by decide), ho 2 (by decide)]; rfl
theorem gL_at (l : List Nat) (n j : Nat) (hj : j < 4) : (gL l n).getD j 0 = ((gW l n j : Nat) : Int) := by
 match j, hj with
 | 0, _ => rfl
 | 1, _ => rfl
 | 2, _ => rfl
 | 3, _ => rfl
theorem gW_lt (l : List Nat) (n : Nat) : gW l n (n / 8) < 2 ^ (8 * (n % 8)) := by
 rw [gW_now]
 exact Nat.mod_lt _ (Nat.two_pow_pos _)
theorem or_step (x y k : Nat) (hk : k < 8) (hx : x < 2 ^ (8 * k)) (hy : y < 256) : bits .or .u64 (x : Int) (IntKind.u64.wrap ((y : Int) * 2 ^ (8 * k))) = ((x + 2 ^ (8 * k) * y : Nat) : Int) := by
 have h1 : 2 ^ (8 * k) * 256 ≤ 2 ^ 64 := by
  rw [show (256 : Nat) = 2 ^ 8 from rfl, ← Nat.pow_add]
  exact Nat.pow_le_pow_right (by decide) (by omega)
 have h2 : 2 ^ (8 * k) * y < 2 ^ (8 * k) * 256 := Nat.mul_lt_mul_of_pos_left hy (Nat.two_pow_pos _)
 have h3 : 2 ^ (8 * k) ≤ 2 ^ (8 * k) * 256 := Nat.le_mul_of_pos_right _ (by decide)
 have e : (y : Int) * 2 ^ (8 * k) = ((2 ^ (8 * k) * y : Nat) : Int) := by
  push_cast
  rw [Int.mul_comm]
 rw [e, IntKind.wrap_u64]
 have e2 : ((2 ^ (8 * k) * y : Nat) : Int) % 18446744073709551616 = ((2 ^ (8 * k) * y : Nat) : Int) := by
  have : 2 ^ (8 * k) * y < 18446744073709551616 := Nat.lt_of_lt_of_le h2 h1
  omega
 rw [e2, u64_or_nat _ _ (Nat.lt_of_lt_of_le hx (Nat.le_trans h3 h1)) (Nat.lt_of_lt_of_le h2 h1), Nat.or_comm, ← Nat.two_pow_add_eq_or_of_lt hx y, Nat.add_comm]
theorem drop_at {α : Type} (p : α → Bool) : ∀ (D : List α), ∃ t, t + (D.dropWhile p).length = D.length ∧ (∀ i d, (D.dropWhile p).getD i d = D.getD (t + i) d) ∧ ∀ k d, k < t → p d = true → p (D.getD k d) = true
 | [] => ⟨0, rfl, fun i d => by simp, fun k d hk => absurd hk (Nat.not_lt_zero _)⟩
 | x :: r => by
  rw [List.dropWhile_cons]
  split
  ·rename_i hx
   obtain ⟨t, h1, h2, h3⟩ := drop_at p r
   refine ⟨t + 1, by simp; omega, fun i d => by rw [h2, show t + 1 + i = (t + i) + 1 by omega]; rfl, fun k d hk hd => ?_⟩
   match k, hk with
   | 0, _ => exact hx
   | k + 1, hk => exact h3 k d (by omega) hd
  ·exact ⟨0, by simp, fun i d => by rw [Nat.zero_add], fun k d hk => absurd hk (Nat.not_lt_zero _)⟩
theorem from_short (l : List Nat) (hl : l.length = 4) (hb : ∀ x ∈ l, x < 18446744073709551616) : frL (shP (wbF (wnI l))) (shP (wbF (wnI l))).length = wnI l := by
 have hD := wbF_len (wnI l)
 have hat := wb_at l
 obtain ⟨t, h1, h2, h3⟩ := drop_at (· == (0 : UInt8)) (wbF (wnI l))
 rw [hD] at h1
 have hby : ∀ n, n < 32 → ((wbF (wnI l)).getD (31 - n) 0).toNat = l.getD (n / 8) 0 / 2 ^ (8 * (n % 8)) % 256 := fun n hn => by
  rw [hat (31 - n) (by omega), show 3 - (31 - n) / 8 = n / 8 by omega, show 56 - 8 * ((31 - n) % 8) = 8 * (n % 8) by omega]
 change t + (shP (wbF (wnI l))).length = 32 at h1
 change ∀ i d, (shP (wbF (wnI l))).getD i d = _ at h2
 generalize shP (wbF (wnI l)) = s at *
 generalize wbF (wnI l) = D at *
 have hstep : ∀ n, n ≤ s.length → frL s n = gL l n := by
  intro n
  induction n with
  | zero => intro _; show [0, 0, 0, 0] = gL l 0; simp [gL, gW, Nat.mod_one]
  | succ n ih =>
   intro hn
   rw [frL, ih (by omega), gL_step l n (by omega), gL_at l n _ (by omega), h2, show t + (s.length - (n + 1)) = 31 - n by omega, hby n (by omega), or_step _ _ _ (by omega) (gW_lt l n) (Nat.mod_lt _ (by decide)), gW_step]
 rw [hstep _ (Nat.le_refl _)]
 have hup : ∀ k, k ≤ t → gL l (32 - k) = gL l 32 := by
  intro k
  induction k with
  | zero => intro _; rfl
  | succ k ih =>
   intro hk
   rw [← ih (by omega)]
   have e : 32 - k = (32 - (k + 1)) + 1 := by omega
   rw [e, gL_step l _ (by omega)]
   have hz := h3 k 0 (by omega) rfl
   have hz2 : ((D.getD k 0)).toNat = 0 := by
    have : D.getD k 0 = 0 := by simpa using hz
    rw [this]
    rfl
   have hb2 := hby (32 - (k + 1)) (by omega)
   rw [show 31 - (32 - (k + 1)) = k by omega, hz2] at hb2
   rw [gW_step, ← hb2, Nat.mul_zero, Nat.add_zero]
   apply List.ext_getElem?
   intro i
   rw [List.getElem?_set]
   split
   ·rename_i hi
    subst hi
    have hlt : (32 - (k + 1)) / 8 < 4 := by omega
    rw [if_pos (by simpa [gL] using hlt)]
    have := gL_at l (32 - (k + 1)) _ hlt
    rw [List.getD, List.getElem?_eq_getElem (by simpa [gL] using hlt)] at this
    rw [List.getElem?_eq_getElem (by simpa [gL] using hlt)]
    exact congrArg some this
   ·rfl
 rw [show s.length = 32 - t by omega, hup t (Nat.le_refl _)]
 match l, hl with
 | [a, b, c, d], _ =>
  have ha := hb a (by simp)
  have hb' := hb b (by simp)
  have hc := hb c (by simp)
  have hd := hb d (by simp)
  simp only [gL, gW, wnI, List.map_cons, List.map_nil, List.getD, List.getElem?_cons_zero, List.getElem?_cons_succ, Option.getD_some]
  simp only [show min 8 (32 - 8 * 0) = 8 from rfl, show min 8 (32 - 8 * 1) = 8 from rfl, show min 8 (32 - 8 * 2) = 8 from rfl, show min 8 (32 - 8 * 3) = 8 from rfl, show (2 : Nat) ^ (8 * 8) = 18446744073709551616 from rfl]
  rw [Nat.mod_eq_of_lt ha, Nat.mod_eq_of_lt hb', Nat.mod_eq_of_lt hc, Nat.mod_eq_of_lt hd]
end Go.Proofs.YthhlbdgladhdkaaGreatDoor
end
section
namespace Go.Proofs.YthhlbdgladhdkaaGreatDoor
open BigFrame Go.RowKit Go.Phx Go.Shelf

theorem infoU64q : (Tryz.prog.info? 23).map (fun i => (i.zero, i.size, i.bytes)) = some (some (.int .u64 0), 1, 8) := by kernel_rfl
theorem eq_word (W : World) (a b c d a' b' c' d' : Int) : (Op.equalIn 10000 25 (.agg #[.int .u64 a, .int .u64 b, .int .u64 c, .int .u64 d]) (.agg #[.int .u64 a', .int .u64 b', .int .u64 c', .int .u64 d'])).run Tryz.prog W = .ok (a == a' && (b == b' && (c == c' && d == d'))) W := by
 have hu : Tryz.prog.underlying 25 = some (.array 4 23) := by kernel_rfl
 obtain ⟨i0, hi, hz0, hz1, hz2⟩ := info_parts infoU64q
 have hc : Tryz.prog.cellsOf 23 = 1 := by kernel_rfl
 have hk : Tryz.prog.underlying 23 = some (.int .u64) := by kernel_rfl
 rw [show 10000 = 9999 + 1 from rfl, run_equalIn_array W 9999 _ _ hu hi, hc]
 have he : ∀ x y : Int, (Op.equalIn 9999 23 (.int .u64 x) (.int .u64 y)).run Tryz.prog W = .ok (x == y) W := fun x y => run_equalIn_int W 9998 _ _ _ x y hk
 have hag : (Tryz.prog.underlying 23).map (fun _ => ()) = some () := by rw [hk]; rfl
 have hp : ∀ (xs : Array Value) (i : Nat) v, xs[i]? = some v → (part 23 xs i).run Tryz.prog W = .ok v W := fun xs i v h => by
  unfold part
  simp [go_sem, h, hk]
 have p0 : ∀ x0 x1 x2 x3 : Value, (part 23 #[x0, x1, x2, x3] (0 * 1)).run Tryz.prog W = .ok x0 W := fun _ _ _ _ => hp _ _ _ rfl
 have p1 : ∀ x0 x1 x2 x3 : Value, (part 23 #[x0, x1, x2, x3] (1 * 1)).run Tryz.prog W = .ok x1 W := fun _ _ _ _ => hp _ _ _ rfl
 have p2 : ∀ x0 x1 x2 x3 : Value, (part 23 #[x0, x1, x2, x3] (2 * 1)).run Tryz.prog W = .ok x2 W := fun _ _ _ _ => hp _ _ _ rfl
 have p3 : ∀ x0 x1 x2 x3 : Value, (part 23 #[x0, x1, x2, x3] (3 * 1)).run Tryz.prog W = .ok x3 W := fun _ _ _ _ => hp _ _ _ rfl
 have he1 := he a a'
 have he2 := he b b'
 have he3 := he c c'
 have he4 := he d d'
 generalize (a == a') = e1 at *
 generalize (b == b') = e2 at *
 generalize (c == c') = e3 at *
 generalize (d == d') = e4 at *
 simp only [show List.range 4 = [0, 1, 2, 3] from rfl, Op.eqItems, Sem.run_bind, p0, p1, p2, p3, Result.andThen_ok, he1]
 cases e1 <;> cases e2 <;> cases e3 <;> cases e4 <;> simp only [Bool.not_true, Bool.not_false, Bool.false_eq_true, if_true, if_false, Bool.and_true, Bool.and_false, Bool.true_and, Bool.false_and, Sem.run_bind, Sem.run_pure, p1, p2, p3, Result.andThen_ok, he2, he3, he4]
end Go.Proofs.YthhlbdgladhdkaaGreatDoor
end
section
namespace Go.Proofs.YthhlbdgladhdkaaGreatDoor
open BigFrame Go.RowKit Go.Phx Go.Shelf
attribute [local go_sem] Oper.semAt_some

theorem shP_len (D : Bytes) : (shP D).length ≤ D.length := by
 obtain ⟨t, h, _⟩ := drop_at (· == (0 : UInt8)) D
 show (D.dropWhile _).length ≤ _
 omega
theorem short_calls (a b c d : Int) (w : World) : Calls Tryz.prog 15 #[wdV a b c d] w (Ret w (.string (bs (shP (wbF [a, b, c, d]))))) := by
 have n1 := fun W => wbytes_calls a b c d W
 have n2 := fun w => Tryz.strings_TrimLeft_one (bs (wbF [a, b, c, d])) 0 (by decide) w
 have hr : bs (shP (wbF [a, b, c, d])) = ⟨(Lib.trimLeftB (bs (wbF [a, b, c, d])).data.toList 0).toArray⟩ := rfl
 rw [hr]
 clear hr
 generalize (⟨(Lib.trimLeftB (bs (wbF [a, b, c, d])).data.toList 0).toArray⟩ : ByteArray) = R at *
 generalize wbF [a, b, c, d] = D at *
 replace n1 := Lib.hid n1
 replace n2 := Lib.hid n2
 go_enter Tryz.func15, Tryz.ntmps15
 go_wp2_with fail
 refine (n1.out _).mono ?_
 rintro e w1 ⟨rfl, hB1⟩
 have HB1 := Lib.hid (show Below w.heap.size w w1 from Below.on hB1 bel)
 clear hB1
 go_wp2_with fail
 refine (n2.out _).mono ?_
 rintro e w2 ⟨rfl, rfl⟩
 go_wp2_with fail
 go_ret
 exact ⟨rfl, HB1.out⟩
theorem isShort_calls (s : Bytes) (hs : s.length ≤ 32) (h0 : ∀ r, s ≠ 0 :: r) (w : World) : Calls Tryz.prog 21 #[.string (bs s)] w (fun e w' => e = .returned (.bool true) ∧ w' = w) := by
 have n1 := fun w => Tryz.strings_HasPrefix (bs s) ⟨#[0]⟩ w
 have hp : Lib.hasPrefix (bs s).data.toList (ByteArray.mk #[0]).data.toList = false := by
  match s, h0 with
  | [], _ => rfl
  | c :: r, h0 =>
   have : c ≠ 0 := fun e => h0 r (by rw [e])
   simp [Lib.hasPrefix, bs, List.isPrefixOf]
   exact fun h => this h.symm
 rw [hp] at n1
 replace n1 := Lib.hid n1
 have hs' : (s.length : Int) ≤ 32 := by omega
 go_enter Tryz.func21, Tryz.ntmps21
 go_wp2_with fail
 refine (n1.out _).mono ?_
 rintro e w1 ⟨rfl, rfl⟩
 go_wp2_with fail
 go_ret
 exact ⟨rfl, rfl⟩
noncomputable def slotP (L : List Int) : Bytes := putI (.text (shP (wbF L)))
theorem slotP_le (L : List Int) : (putI (.text (shP (wbF L)))).length ≤ 33 := by
 have h := shP_len (wbF L)
 rw [wbF_len] at h
 generalize shP (wbF L) = s at *
 rw [putI]
 split
 ·omega
 ·unfold frameF headF
  rw [if_pos (by omega)]
  simp
  omega
theorem shP_head (D : Bytes) : ∀ r, shP D ≠ 0 :: r := by
 intro r
 induction D with
 | nil => intro h; cases h
 | cons x D ih =>
  unfold shP at *
  rw [List.dropWhile_cons]
  split
  ·exact ih
  ·rename_i hx
   intro h
   injection h with h1 h2
   rw [h1] at hx
   exact hx rfl
theorem slotP_ne (L : List Int) : slotP L ≠ [] := by
 unfold slotP
 intro h
 have := put_pos (.text (shP (wbF L)))
 rw [h] at this
 simp at this
theorem slot_calls (a b c d : Int) (w : World) : Calls Tryz.prog 7 #[wdV a b c d] w (Ret w (.string (bs (slotP [a, b, c, d])))) := by
 have n1 := fun W => short_calls a b c d W
 unfold slotP
 have hle := slotP_le [a, b, c, d]
 generalize shP (wbF [a, b, c, d]) = s at *
 have n2 := fun W => text_calls s W
 have n3 := fun W => encode_calls (.text s) (by simp [deepI]) (by omega) ⟨false, s, none, 0, 0⟩ W (.text s)
 generalize putI (.text s) = R at *
 replace n1 := Lib.hid n1
 replace n2 := Lib.hid n2
 replace n3 := Lib.hid n3
 go_enter Tryz.func7, Tryz.ntmps7
 go_wp2_with fail
 refine (n1.out _).mono ?_
 rintro e w1 ⟨rfl, hB1⟩
 have HB1 := Lib.hid (show Below w.heap.size w w1 from Below.on hB1 bel)
 clear hB1
 go_wp2_with fail
 refine (n2.out _).mono ?_
 rintro e w2 ⟨rfl, hB2⟩
 have HB2 := Lib.hid (HB1.out.trans (hB2.mono HB1.out.size))
 clear hB2 HB1
 go_wp2_with fail
 refine (n3.out _).mono ?_
 rintro e w3 ⟨rfl, hB3⟩
 have HB3 := Lib.hid (HB2.out.trans (hB3.mono HB2.out.size))
 clear hB3 HB2
 go_wp2_with fail
 go_ret
 exact ⟨rfl, HB3.out⟩
set_option maxRecDepth 100000 in
set_option maxHeartbeats 16000000 in
theorem slotFrom_calls (s : Bytes) (a b c d : Int) (hs : s.length ≤ 32) (h0 : ∀ r, s ≠ 0 :: r) (hf : frL s s.length = [a, b, c, d]) (hne : ¬ (a = 0 ∧ b = 0 ∧ c = 0 ∧ d = 0)) (hle : (putI (.text s)).length ≤ 65536) (w : World) :
  Calls Tryz.prog 10 #[.string (bs (putI (.text s)))] w (Ret w (.tuple #[wdV a b c d, .int .i64 0])) := by
 have n1 := fun W => decode_calls (.text s) (by simp [deepI]) hle W
 have n2 := fun W => wfrom_calls s hs W
 rw [hf, show c6 [a, b, c, d] = #[.int .u64 a, .int .u64 b, .int .u64 c, .int .u64 d] from rfl] at n2
 have n3 := fun W => isShort_calls s hs h0 W
 generalize putI (.text s) = R at *
 replace n1 := Lib.hid n1
 replace n2 := Lib.hid n2
 replace n3 := Lib.hid n3
 clear hf h0 hs hle
 go_enter Tryz.func10, Tryz.ntmps10
 go_wp2_with fail
 refine (n1.out _).mono ?_
 rintro e w1 ⟨v, rfl, hR, hB1⟩
 obtain rfl := hR.txt
 have K0 := Lib.hid ((Blk.new0 w 25 #[.int .u64 0, .int .u64 0, .int .u64 0, .int .u64 0]).below hB1)
 have HB1 := Lib.hid (show Below w.heap.size w w1 from Below.on hB1 bel)
 clear hB1 hR
 (obtain ⟨k0, f0, l0, m0⟩ := K0.out.rl)
 go_wp2_with fail
 refine (n2.out _).mono ?_
 rintro e w2 ⟨rfl, hB2⟩
 have P1 := Lib.hid ((Blk.new0 w1 52 #[.bool false, .string (bs s), .slice none 0 0]).below hB2)
 have P0 := Lib.hid ((K0.out.alloc _).below hB2)
 have HB2 := Lib.hid (show Below w.heap.size w w2 from HB1.out.trans ((Below.on hB2 ((Below.refl _ w1).alloc (Nat.le_refl _) _)).mono HB1.out.size))
 have hsz1 := HB1.out.size
 have hsz2 : w1.heap.size < w2.heap.size := by have := hB2.size; simp at this; omega
 clear k0 f0 l0 m0 K0 hB2 HB1
 have K0 := P0
 have K1 := P1
 clear P0 P1
 (obtain ⟨k0, f0, l0, m0⟩ := K0.out.rl; obtain ⟨k1, f1, l1, m1⟩ := K1.out.rl)
 go_wp2_with fail
 refine (n3.out _).mono ?_
 rintro e w3 ⟨rfl, rfl⟩
 have K2 := Lib.hid (Blk.new0 w2 25 #[.int .u64 a, .int .u64 b, .int .u64 c, .int .u64 d])
 have hq := fun W => eq_word W a b c d 0 0 0 0
 have hz : (a == 0 && (b == 0 && (c == 0 && d == 0))) = false := by
  rw [Bool.eq_false_iff]
  intro h
  simp only [Bool.and_eq_true, beq_iff_eq] at h
  exact hne h
 rw [hz] at hq
 clear hz hne
 go_wp2_with fail
 have HB := HB2.out
 clear HB2
 refine bodyPost_ret (v := .tuple #[wdV a b c d, .int .i64 0]) (by simp (maxDischargeDepth := 9) [results, Tryz.results10, go_sem, *]) rfl ⟨rfl, ?_⟩
 exact ((((HB.setCell (Nat.le_refl _) _).setCell (Nat.le_refl _) _).setCell (Nat.le_refl _) _).setCell (Nat.le_refl _) _).alloc (by simp; omega) _
end Go.Proofs.YthhlbdgladhdkaaGreatDoor
end
section
namespace Go.Proofs.YthhlbdgladhdkaaGreatDoor
open BigFrame Go.RowKit Go.Phx Go.Shelf
attribute [local go_sem] Oper.semAt_some

theorem slot_one : slotP [1, 0, 0, 0] = [1] := by
 unfold slotP wbF
 rw [shutV_eq]
 decide +kernel
theorem good_one : GoodL [([107], [118])] 1 := ⟨by simp, by simp, by simp, by omega, by omega, fun p hp => by simp at hp; subst hp; simp⟩
theorem new_pair (W : World) : Cs (W.alloc (.cells #[.string ⟨#[107]⟩, .string ⟨#[118]⟩] 33)) (some ⟨W.heap.size, 0, none⟩) (PrL [([107], [118])]) := fun h0 => ⟨_, 0, rfl, trivial, by simp, fun i x hx => by
 rw [(Blk.new0 W 33 #[.string ⟨#[107]⟩, .string ⟨#[118]⟩]).cell, Nat.zero_add]
 match i, hx with
 | 0, hx => exact hx
 | 1, hx => exact hx
 | i + 2, hx => simp [PrL] at hx⟩
set_option maxRecDepth 100000 in
set_option maxHeartbeats 4000000 in
theorem shownProof_calls (w : World) (hT : HasT w) : Calls Tryz.prog 4 #[] w (Ret w (.bool true)) := by
 have n1 : ∀ W : World, Below w.heap.size w W → Calls Tryz.prog 9 #[.slice (some ⟨W.heap.size, 0, none⟩) 1 1, .string ⟨#[107]⟩] (W.alloc (.cells #[.string ⟨#[107]⟩, .string ⟨#[118]⟩] 33)) (Ret (W.alloc (.cells #[.string ⟨#[107]⟩, .string ⟨#[118]⟩] 33)) (.tuple #[.string ⟨#[118]⟩, .bool true, .bool true])) := fun W hB => proven_calls (some ⟨W.heap.size, 0, none⟩) 1 [([107], [118])] 1 good_one [107] rfl _ (new_pair W) (hT.below (hB.alloc hB.size _))
 have n2 : ∀ W : World, Below w.heap.size w W → Calls Tryz.prog 9 #[.slice (some ⟨W.heap.size, 0, none⟩) 1 1, .string ⟨#[108]⟩] (W.alloc (.cells #[.string ⟨#[107]⟩, .string ⟨#[118]⟩] 33)) (Ret (W.alloc (.cells #[.string ⟨#[107]⟩, .string ⟨#[118]⟩] 33)) (.tuple #[.string ⟨#[]⟩, .bool false, .bool true])) := fun W hB => proven_calls (some ⟨W.heap.size, 0, none⟩) 1 [([107], [118])] 1 good_one [108] rfl _ (new_pair W) (hT.below (hB.alloc hB.size _))
 have n3 : ∀ W : World, Calls Tryz.prog 7 #[wdV 1 0 0 0] W (Ret W (.string ⟨#[1]⟩)) := fun W => by
  have := slot_calls 1 0 0 0 W
  rw [slot_one] at this
  exact this
 replace n1 := Lib.hid n1
 replace n2 := Lib.hid n2
 replace n3 := Lib.hid n3
 clear hT
 go_enter Tryz.func4, Tryz.ntmps4
 go_wp2_with fail
 refine (n1.out w (Below.refl _ _)).mono ?_
 rintro e w1 ⟨rfl, hB1⟩
 replace hB1 := Lib.hid (Below.on hB1 ((Below.refl _ w).alloc (Nat.le_refl _) _))
 go_wp2_with fail
 refine (n2.out w1 hB1.out).mono ?_
 rintro e w2 ⟨rfl, hB2⟩
 replace hB2 := Lib.hid (Below.on hB2 (hB1.out.alloc hB1.out.size _))
 clear hB1
 go_wp2_with fail
 refine (n3.out w2).mono ?_
 rintro e w3 ⟨rfl, hB3⟩
 replace hB3 := Lib.hid (Below.on hB3 hB2.out)
 go_wp2_with fail
 go_ret
 exact ⟨rfl, hB3.out⟩
end Go.Proofs.YthhlbdgladhdkaaGreatDoor
end
section
namespace Go.Proofs.YthhlbdgladhdkaaGreatDoor
open BigFrame Go.RowKit Go.Phx Go.Shelf
attribute [local go_sem] Oper.semAt_some

structure Cl where
 a : Nat
 b : Nat
 c : Nat
 d : Nat
 e : Nat
 f : Nat
 g : Nat
 h : Nat
def Cl.cells (x : Cl) : List Value := [.int .u64 (x.a : Int), .int .u64 (x.b : Int), .int .u64 (x.c : Int), .int .u64 (x.d : Int), .int .u64 (x.e : Int), .int .u64 (x.f : Int), .int .u64 (x.g : Int), .int .u64 (x.h : Int)]
def ClL (l : List Cl) : List Value := l.flatMap Cl.cells
theorem ClL_cons (x : Cl) (l : List Cl) : ClL (x :: l) = x.cells ++ ClL l := rfl
theorem ClL_len (l : List Cl) : (ClL l).length = 8 * l.length := by
 induction l with
 | nil => rfl
 | cons x l ih => rw [ClL_cons, List.length_append, ih]; simp [Cl.cells]; omega
theorem ClL_at : ∀ (l : List Cl) (i : Nat) (x : Cl) (j : Nat) (u : Value), l[i]? = some x → x.cells[j]? = some u → (ClL l)[i * 8 + j]? = some u
 | [], i, x, j, u, h, _ => by simp at h
 | y :: l, 0, x, j, u, h, hu => by
  simp at h
  subst h
  rw [ClL_cons, Nat.zero_mul, Nat.zero_add, List.getElem?_append_left (List.getElem?_eq_some_iff.1 hu).1]
  exact hu
 | y :: l, i + 1, x, j, u, h, hu => by
  have ih := ClL_at l i x j u (by simpa using h) hu
  rw [ClL_cons, List.getElem?_append_right (by simp [Cl.cells]; omega)]
  rw [show (i + 1) * 8 + j - y.cells.length = i * 8 + j by simp [Cl.cells]; omega]
  exact ih
theorem Cl_cells {w : World} {A : Option Addr} {l : List Cl} (R : Cs w A (ClL l)) {i : Nat} {x : Cl} (h : l[i]? = some x) : ∃ b o, A = some ⟨b, o, none⟩ ∧ b < w.heap.size ∧ ∀ (j : Nat) u, x.cells[j]? = some u → w.cell? ⟨b, o + i * 8 + j, none⟩ = some u := by
 have hl : 0 < (ClL l).length := by
  have := (List.getElem?_eq_some_iff.1 h).1
  rw [ClL_len]
  omega
 obtain ⟨b, o, hA, _, hb, hc⟩ := R hl
 exact ⟨b, o, hA, hb, fun j u hu => by rw [Nat.add_assoc]; exact hc _ _ (ClL_at l i x j u h hu)⟩
def Cl.key (x : Cl) : List Int := [(x.a : Int), (x.b : Int), (x.c : Int), (x.d : Int)]
def Cl.val (x : Cl) : List Int := [(x.e : Int), (x.f : Int), (x.g : Int), (x.h : Int)]
noncomputable def Cl.pair (x : Cl) : Bytes × Bytes := (kecc (wbF x.key), slotP x.val)
noncomputable def prs (l : List Cl) : List (Bytes × Bytes) := l.map Cl.pair
theorem infoPair : (Tryz.prog.info? 33).map (fun i => (i.zero, i.size, i.bytes)) = some (some (.agg #[.string ByteArray.empty, .string ByteArray.empty]), 2, 32) := by kernel_rfl
def CpRow (base : Nat) (W : World) (v : Value) (l : List (Bytes × Bytes)) : Prop := W.ownsRow base 33 2 v l.length (PrL l)
theorem CpRow.shape {base : Nat} {W : World} {v : Value} {l : List (Bytes × Bytes)} (h : CpRow base W v l) : ∃ A c, v = .slice A l.length c ∧ Cs W A (PrL l) := by
 rcases h.2 with ⟨rfl, h0⟩ | ⟨g, cap, cur, rfl, hb, hg, hn, hm, hs, ht⟩
 ·obtain rfl := List.eq_nil_of_length_eq_zero h0
  exact ⟨none, 0, rfl, CsS.nil _ _ _⟩
 ·refine ⟨some ⟨g, 0, none⟩, cap, rfl, fun _ => ⟨g, 0, rfl, trivial, (Array.getElem?_eq_some_iff.1 hg).1, fun i u hu => ?_⟩⟩
  rw [Nat.zero_add, cell_of_row W g i cur _ (0, 0) hg]
  rw [← ht, List.getElem?_take] at hu
  split at hu
  ·simpa using hu
  ·cases hu
theorem wpListIn_append_pair {F : Fence} {nF : Nat} {ops : Array Oper} {rest : List Oper} {o : Oper} {a : Act} {w : World} {Q : Exit → Act → World → Prop} (hgd : o.guard = none) (s x : Operand)
  (ho : o.op = .call { callee := .builtin .append, args := #[s, x], argTypes := #[27, 27] }) (base : Nat) (v : Value) (L : List (Bytes × Bytes)) (hs : a.eval s = v) (R : CpRow base w v L)
  (u : Bytes × Bytes) (ad : Addr) (hx : a.eval x = .slice (some ad) 1 1) (hc : ∀ j y, ([.string (bs u.1), .string (bs u.2)] : List Value)[j]? = some y → w.cell? (ad.add j) = some y) (hl : L.length ≤ 1000000000) (hb : base ≤ w.heap.size)
  (h : ∀ v' w', CpRow base w' v' (L ++ [u]) → w.grownBy w' v.ownBlock → (v'.ownBlock = v.ownBlock ∨ v'.ownBlock = some w.heap.size) → wpListIn F nF Tryz.prog ops Q rest (a.put o.dst v') w') : wpListIn F nF Tryz.prog ops Q (o :: rest) a w := by
 obtain ⟨i0, hi, hz0, hz1, hz2⟩ := info_parts infoPair
 refine wpListIn_append_own_at w hgd s x 27 ho base 33 i0 (.agg #[.string ByteArray.empty, .string ByteArray.empty]) 2 32 Tryz.underlying27 hi hz0 hz1 hz2 rfl (by decide) v L.length (PrL L) hs R ad 1 1 [.string (bs u.1), .string (bs u.2)] hx rfl hc (by simp [Value.oneCell']) (by unfold maxLen; omega) (by omega) hb ?_
 intro v' w' h2 h3 _ h5
 refine h v' w' ?_ h3 h5
 unfold CpRow
 rw [List.length_append, PrL_app]
 exact h2
end Go.Proofs.YthhlbdgladhdkaaGreatDoor
end
