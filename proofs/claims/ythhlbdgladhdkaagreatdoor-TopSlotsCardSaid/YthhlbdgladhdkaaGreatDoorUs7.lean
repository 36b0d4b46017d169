/- What the later texts stand on (Rlp3, Seq, SeqB, Rlp4, Sha3, Sha4, Sha5, Sha6, Sha7, Sha8, Sha9, Sha10, Hex, ShaL): plain laws and walks, each by its own conditions. -/
import Derived.Test.YthhlbdgladhdkaaGreatDoorUs6
import Derived.Test.YthhlbdgladhdkaaGreatDoorUs4
import Derived.Test.YthhlbdgladhdkaaGreatDoorShelf
import Derived.RegionTactic
import Derived.ChangeAlike
import Derived.Deep.AppendLies
import Derived.Deep.RegionLaw
import Derived.Test.YthhlbdgladhdkaaGreatDoorUs5
set_option linter.unusedSimpArgs false
set_option linter.unusedVariables false
section
namespace Go.Proofs.YthhlbdgladhdkaaGreatDoor
open BigFrame Go.RowKit Go.Phx Go.Shelf
attribute [local go_sem] Oper.semAt_some

set_option maxRecDepth 100000 in
set_option maxHeartbeats 16000000 in
theorem encode_calls (x : It) (hd : deepI x ≤ 12) (hp : (putI x).length ≤ 65536) (v : Iv) (w : World) (R : Rep w x v) : Calls Tryz.prog 13 #[v.val] w (Ret w (.tuple #[.string (bs (putI x)), .int .i64 0])) := by
 have n1 := fun w' (hB : Below w.heap.size w w') => deep_calls (deepI x) x (Nat.le_refl _) 12 (by omega) v w' (R.on hB)
 have n2 := fun w' (hB : Below w.heap.size w w') => wrong_calls (deepI x) x (Nat.le_refl _) v w' (R.on hB)
 have n3 := fun w' (hB : Below w.heap.size w w') => put_calls (deepI x) x (Nat.le_refl _) (by omega) v w' (R.on hB)
 have hdf : decide (12 < deepI x) = false := decide_eq_false (by omega)
 simp only [hdf] at n1
 simp only [show ((12 : Nat) : Int) = 12 from rfl] at n1
 have hpl : ((putI x).length : Int) ≤ 65536 := by omega
 have hpn : ¬ 65536 < ((putI x).length : Int) := by omega
 generalize putI x = q at *
 obtain ⟨f, t, A, n, c⟩ := v
 replace n1 := Lib.hid n1
 replace n2 := Lib.hid n2
 replace n3 := Lib.hid n3
 clear R hd hp hdf
 go_enter Tryz.func13, Tryz.ntmps13
 go_wp2_with fail
 have HB0 : Below w.heap.size w (w.alloc (.cells #[.bool f, .string (bs t), .slice A n c] 52)) := bel
 refine (n1.out _ HB0).mono ?_
 rintro e w1 ⟨rfl, hB1⟩
 have HB1 := Lib.hid (HB0.trans (hB1.mono (by simp)))
 have hcell : ∀ i, i < 3 → w1.cell? ⟨w.heap.size, i, none⟩ = (#[.bool f, .string (bs t), .slice A n c] : Array Value)[i]? := fun i _ => ((Blk.new0 w 52 #[.bool f, .string (bs t), .slice A n c]).below hB1).cell i
 have K0 := Lib.hid ((Blk.new0 w 52 #[.bool f, .string (bs t), .slice A n c]).below hB1)
 clear hB1 HB0 n1 hcell
 (obtain ⟨k0, f0, l0, m0⟩ := K0.out.rl)
 go_wp2_with fail
 refine (n2.out _ HB1.out).mono ?_
 rintro e w2 ⟨rfl, hB2⟩
 have HB2 := Lib.hid (HB1.out.trans (hB2.mono HB1.out.size))
 clear k0 f0 l0 m0
 replace K0 := Lib.hid (K0.out.below hB2)
 clear hB2 HB1 n2
 (obtain ⟨k0, f0, l0, m0⟩ := K0.out.rl)
 go_wp2_with fail
 refine (n3.out _ HB2.out).mono ?_
 rintro e w3 ⟨rfl, hB3⟩
 have HB3 := Lib.hid (HB2.out.trans (hB3.mono HB2.out.size))
 clear hB3 HB2 n3 k0 f0 l0 m0 K0
 go_wp2_with fail
 go_ret2
 exact ⟨rfl, HB3.out⟩
theorem rlpV_snoc (s : Bytes) (c : UInt8) : rlpV (s ++ [c]) = rlpV s * 256 + c.toNat := by unfold rlpV; rw [List.foldl_append]; rfl
theorem rlpV_lt : ∀ (k : Nat) (s : Bytes), s.length ≤ k → rlpV s < 256 ^ k
 | 0, s, h => by
  obtain rfl : s = [] := List.eq_nil_of_length_eq_zero (by omega)
  simp [rlpV]
 | k + 1, s, h => by
  rcases List.eq_nil_or_concat s with rfl | ⟨r, c, rfl⟩
  ·exact Nat.pos_of_ne_zero (by simp)
  ·rw [List.concat_eq_append, rlpV_snoc]
   have h1 := rlpV_lt k r (by simpa using h)
   have h2 := c.toNat_lt
   rw [Nat.pow_succ]
   omega
set_option maxRecDepth 100000 in
set_option maxHeartbeats 16000000 in
theorem value_calls (s : Bytes) (hs : s.length ≤ 8) (h0 : ∀ r, s ≠ 0 :: r) (w : World) : Calls Tryz.prog 95 #[.string (bs s)] w (fun e w' => e = .returned (.tuple #[.int .u64 (rlpV s : Int), .int .i64 0]) ∧ w' = w) := by
 have n1 := fun w => Tryz.strings_HasPrefix (bs s) ⟨#[0]⟩ w
 have hp : Lib.hasPrefix (bs s).data.toList (ByteArray.mk #[0]).data.toList = false := by
  match s, h0 with
  | [], _ => rfl
  | c :: r, h0 =>
   have : c ≠ 0 := fun e => h0 r (by rw [e])
   simp [Lib.hasPrefix, bs, List.isPrefixOf]
   exact fun h => this h.symm
 rw [hp] at n1
 replace n1 := Lib.hid n1
 have hs2 : ¬ (8 : Int) < (s.length : Int) := by omega
 clear h0 hp
 go_enter Tryz.func95, Tryz.ntmps95
 go_wp2_with fail
 refine (n1.out _).mono ?_
 rintro e w' ⟨rfl, rfl⟩
 go_wp2_with fail
 go_loopw [4, 15] (fun v i wr => ∃ k : Nat, k ≤ s.length ∧ v = .int .u64 (rlpV (s.take k) : Nat) ∧ i = .int .i64 k ∧ wr = w') (fun _ i _ => (s.length - intOf i).toNat)
 case atStart => exact ⟨0, Nat.zero_le _, rfl, rfl, rfl⟩
 case round =>
  obtain ⟨k, hk, rfl, rfl, rfl⟩ := hrel
  by_cases hlt : k < s.length
  ·have hix := fun W => index_bs s k hlt (by omega) W
   have hT : rlpV (s.take (k + 1)) = rlpV (s.take k) * 256 + (s.getD k 0).toNat := by
    rw [List.take_add_one, List.getElem?_eq_getElem hlt, Option.toList_some, rlpV_snoc, List.getD, List.getElem?_eq_getElem hlt]
    rfl
   have hx := rlpV_lt 7 (s.take k) (by rw [List.length_take]; omega)
   have hc := (s.getD k 0).toNat_lt
   generalize (s.getD k 0).toNat = c at *
   generalize rlpV (s.take k) = x at *
   have e1 : IntKind.u64.wrap ((x : Int) * 256) = (x : Int) * 256 := by rw [IntKind.wrap_u64]; omega
   have e2 : IntKind.u64.wrap (c : Int) = (c : Int) := by rw [IntKind.wrap_u64]; omega
   have e3 : bits .or .u64 ((x : Int) * 256) (c : Int) = ((x * 256 + c : Nat) : Int) := by
    rw [show (x : Int) * 256 = ((x * 256 : Nat) : Int) by omega, u64_or_nat _ _ (by omega) (by omega)]
    have := Nat.two_pow_add_eq_or_of_lt (i := 8) (b := c) hc x
    rw [Nat.mul_comm x 256, this]
   rw [← hT] at e3
   replace hT := Lib.hid hT
   clear n1
   go_wp2_with fail
   go_roundw
   case rel => exact ⟨k + 1, by omega, by first | rfl | rw [e3], by go_num, by trivial⟩
   case measure => simp [intOf]; omega
  ·obtain rfl : k = s.length := by omega
   rw [List.take_of_length_le (Nat.le_refl _)]
   clear n1
   go_wp2_with fail
   go_ret2
   exact ⟨rfl, rfl⟩
theorem cut_small (c : UInt8) (hc : c.toNat < 128) (r : Bytes) (hr : r.length ≤ 1000000000) (w : World) : Calls Tryz.prog 79 #[.string (bs (c :: r))] w (Ret w (.tuple #[.string (bs [c]), .bool false, .string (bs r), .bool true])) := by
 have hg : ∀ h, (bs (c :: r))[0]'h = c := fun _ => rfl
 have hd : (bs (c :: r)).extract 1 (r.length + 1) = bs r := bs_drop (c :: r) 1
 have hc2 : (c.toNat : Int) < 128 := by omega
 have hsz : (bs (c :: r)).size = r.length + 1 := by rw [bs_size]; rfl
 go_enter Tryz.func79, Tryz.ntmps79
 go_wp2_with fail
 (refine wp_region_later (by kernel_rfl) (by kernel_rfl) ?_; (repeat (go_big_quiet_step (fail))); refine wpQuiet_nil ?_; intro w' hB)
 go_wp2_with fail
 exact bodyPost_ret (by simp [results, Tryz.results79, go_sem]) rfl ⟨rfl, hB⟩
def fromB (L : Bool) : Nat := if L then 192 else 128
set_option maxRecDepth 100000 in
set_option maxHeartbeats 16000000 in
theorem cut_short (L : Bool) (s r : Bytes) (n : Nat) (hn : s.length = n) (h56 : n < 56) (ho : L = true ∨ n ≠ 1 ∨ ∃ d : UInt8, s = [d] ∧ 128 ≤ d.toNat) (hr : r.length ≤ 1000000000) (w : World) :
  Calls Tryz.prog 79 #[.string (bs (UInt8.ofNat (fromB L + n) :: (s ++ r)))] w (Ret w (.tuple #[.string (bs s), .bool L, .string (bs r), .bool true])) := by
 obtain ⟨c, hc⟩ : ∃ c, UInt8.ofNat (fromB L + n) = c := ⟨_, rfl⟩
 have hcn : c.toNat = fromB L + n := by rw [← hc, UInt8.toNat_ofNat']; unfold fromB; split <;> omega
 rw [hc]
 have hg : ∀ h, (bs (c :: (s ++ r)))[0]'h = c := fun _ => rfl
 have hd : (bs (c :: (s ++ r))).extract 1 (s.length + r.length + 1) = bs (s ++ r) := by have := bs_drop (c :: (s ++ r)) 1; simpa [Nat.add_comm] using this
 have hsz : (bs (c :: (s ++ r))).size = n + r.length + 1 := by rw [bs_size]; simp; omega
 have hsz2 : (bs (s ++ r)).size = n + r.length := by rw [bs_size]; simp; omega
 rw [hn] at hd
 have h1 : ¬ (c.toNat : Int) < 128 := by rw [hcn]; unfold fromB; split <;> omega
 have h2 : decide ((192 : Int) ≤ (c.toNat : Int)) = L := by rw [hcn]; unfold fromB; cases L <;> simp <;> omega
 have h3 : IntKind.u8.wrap ((c.toNat : Int) - 128) = (c.toNat : Int) - 128 := by rw [IntKind.wrap_u8]; unfold fromB at hcn; split at hcn <;> omega
 have h4 : IntKind.u64.wrap ((c.toNat : Int) - 128) = (c.toNat : Int) - 128 := by rw [IntKind.wrap_u64]; unfold fromB at hcn; split at hcn <;> omega
 have h5 : ((c.toNat : Int) - 128) % 64 = (n : Int) := by unfold fromB at hcn; split at hcn <;> omega
 have h6 : ¬ (55 : Int) < (n : Int) := by omega
 have h7 : IntKind.u64.wrap ((n : Int) + (r.length : Int)) = (n : Int) + (r.length : Int) := by rw [IntKind.wrap_u64]; omega
 have h8 : ¬ (n : Int) + (r.length : Int) < (n : Int) := by omega
 have ht : (bs (s ++ r)).extract 0 n = bs s := by rw [bs_take]; congr 1; rw [← hn]; simp
 have hdr : (bs (s ++ r)).extract n (n + r.length) = bs r := by have := bs_drop (s ++ r) n; rw [List.length_append, hn] at this; rw [this, ← hn]; simp
 have hnn : s.length = n := hn
 replace hn := Lib.hid hn
 clear hc hcn
 go_enter Tryz.func79, Tryz.ntmps79
 go_wp2_with fail
 clear hd hg h1 h3 h4 h5 h6 h2
 (refine wp_region_later (by kernel_rfl) (by kernel_rfl) ?_; (repeat (go_big_quiet_step (fail))); refine wpQuiet_nil ?_; intro w' hB)
 replace hB := Lib.hid hB
 go_wp2_with fail
 have hor : L = true ∨ L = false := by cases L <;> simp
 rcases hor with rfl | rfl
 ·(refine wp_region_later (by kernel_rfl) (by kernel_rfl) ?_; (repeat (go_big_quiet_step (fail))); refine wpQuiet_nil ?_; intro w2 hB2)
  go_wp2_with fail
  exact bodyPost_ret (by simp [results, Tryz.results79, go_sem]) rfl ⟨rfl, hB.out.trans (hB2.mono hB.out.size)⟩
 ·rcases ho with ho | ho | ⟨d, rfl, hd⟩
  ·cases ho
  ·have hne : ((n : Int) != 1) = true := by rw [bne_iff_ne]; omega
   (refine wp_region_later (by kernel_rfl) (by kernel_rfl) ?_; (repeat (go_big_quiet_step (fail))); refine wpQuiet_nil ?_; intro w2 hB2)
   go_wp2_with fail
   exact bodyPost_ret (by simp [results, Tryz.results79, go_sem]) rfl ⟨rfl, hB.out.trans (hB2.mono hB.out.size)⟩
  ·have hgd : ∀ h, (bs [d])[0]'h = d := fun _ => rfl
   have hd2 : (128 : Int) ≤ (d.toNat : Int) := by omega
   simp only [List.length_cons, List.length_nil, Nat.zero_add] at hnn
   subst hnn
   (refine wp_region_later (by kernel_rfl) (by kernel_rfl) ?_; (repeat (go_big_quiet_step (fail))); refine wpQuiet_nil ?_; intro w2 hB2)
   go_wp2_with fail
   exact bodyPost_ret (by simp [results, Tryz.results79, go_sem]) rfl ⟨rfl, hB.out.trans (hB2.mono hB.out.size)⟩
set_option maxRecDepth 100000 in
set_option maxHeartbeats 16000000 in
theorem cut_long (L : Bool) (s r : Bytes) (n : Nat) (hn : s.length = n) (h56 : 56 ≤ n) (hr : n + r.length ≤ 1000000000) (w : World) :
  Calls Tryz.prog 79 #[.string (bs (UInt8.ofNat (fromB L + 55 + (rlpN n).length) :: (rlpN n ++ (s ++ r))))] w (Ret w (.tuple #[.string (bs s), .bool L, .string (bs r), .bool true])) := by
 have ho : L = true ∨ n ≠ 1 ∨ ∃ d : UInt8, s = [d] ∧ 128 ≤ d.toNat := .inr (.inl (by omega))
 have hk1 := rlpN_pos (n := n) (by omega) (by omega)
 have hk8 := rlpN_len n
 have nv := fun w => value_calls (rlpN n) hk8 (rlpN_head n) w
 rw [rlpV_rlpN (by omega)] at nv
 generalize rlpN n = R at *
 obtain ⟨k, hk⟩ : ∃ k, R.length = k := ⟨_, rfl⟩
 rw [hk] at hk1 hk8 ⊢
 obtain ⟨c, hc⟩ : ∃ c, UInt8.ofNat (fromB L + 55 + k) = c := ⟨_, rfl⟩
 have hcn : c.toNat = fromB L + 55 + k := by rw [← hc, UInt8.toNat_ofNat']; unfold fromB; split <;> omega
 rw [hc]
 obtain ⟨q, hq⟩ : ∃ q, R ++ (s ++ r) = q := ⟨_, rfl⟩
 rw [hq]
 have hql : q.length = k + (n + r.length) := by rw [← hq]; simp; omega
 have hg : ∀ h, (bs (c :: q))[0]'h = c := fun _ => rfl
 have hd : (bs (c :: q)).extract 1 (k + (n + r.length) + 1) = bs q := by have := bs_drop (c :: q) 1; simpa [hql] using this
 have hsz : (bs (c :: q)).size = k + (n + r.length) + 1 := by rw [bs_size]; simp [hql]
 have hszq : (bs q).size = k + (n + r.length) := by rw [bs_size, hql]
 have hsz2 : (bs (s ++ r)).size = n + r.length := by rw [bs_size]; simp; omega
 have h1 : ¬ (c.toNat : Int) < 128 := by rw [hcn]; unfold fromB; split <;> omega
 have h2 : decide ((192 : Int) ≤ (c.toNat : Int)) = L := by rw [hcn]; unfold fromB; cases L <;> simp <;> omega
 have h3 : IntKind.u8.wrap ((c.toNat : Int) - 128) = (c.toNat : Int) - 128 := by rw [IntKind.wrap_u8]; unfold fromB at hcn; split at hcn <;> omega
 have h4 : IntKind.u64.wrap ((c.toNat : Int) - 128) = (c.toNat : Int) - 128 := by rw [IntKind.wrap_u64]; unfold fromB at hcn; split at hcn <;> omega
 have h5 : ((c.toNat : Int) - 128) % 64 = (k : Int) + 55 := by unfold fromB at hcn; split at hcn <;> omega
 have h6 : (55 : Int) < (k : Int) + 55 := by omega
 have h61 : (k : Int) + 55 - 55 = (k : Int) := by omega
 have h62 : IntKind.u64.wrap (k : Int) = (k : Int) := by rw [IntKind.wrap_u64]; omega
 have h63 : ¬ (k : Int) + ((n : Int) + (r.length : Int)) < (k : Int) := by omega
 have h64 : (0 : Int) ≤ (k : Int) := by omega
 have htk : (bs q).extract 0 k = bs R := by rw [bs_take, ← hq, ← hk]; congr 1; simp
 have hdk : (bs q).extract k (k + (n + r.length)) = bs (s ++ r) := by have := bs_drop q k; rw [hql] at this; rw [this, ← hq, ← hk]; simp
 have h7 : IntKind.u64.wrap ((n : Int) + (r.length : Int)) = (n : Int) + (r.length : Int) := by rw [IntKind.wrap_u64]; omega
 have h8 : ¬ (n : Int) + (r.length : Int) < (n : Int) := by omega
 have h9 : ¬ (n : Int) < 56 := by omega
 have ht : (bs (s ++ r)).extract 0 n = bs s := by rw [bs_take]; congr 1; rw [← hn]; simp
 have hdr : (bs (s ++ r)).extract n (n + r.length) = bs r := by have := bs_drop (s ++ r) n; rw [List.length_append, hn] at this; rw [this, ← hn]; simp
 have hnn : s.length = n := hn
 replace hn := Lib.hid hn
 replace nv := Lib.hid nv
 replace hq := Lib.hid hq
 clear hc hcn hk hql
 go_enter Tryz.func79, Tryz.ntmps79
 go_wp2_with fail
 refine (nv.out _).mono ?_
 rintro e w' ⟨rfl, rfl⟩
 go_wp2_with fail
 (refine wp_region_later (by kernel_rfl) (by kernel_rfl) ?_; (repeat (go_big_quiet_step (fail))); refine wpQuiet_nil ?_; intro w' hB)
 have hBB := Lib.hid hB
 clear hB hd hg h1 h3 h4 h5 h6 h2 h61 h62 h63 h64 htk hdk nv h9
 go_wp2_with fail
 (refine wp_region_later (by kernel_rfl) (by kernel_rfl) ?_; (repeat (go_big_quiet_step (fail))); refine wpQuiet_nil ?_; intro w' hB)
 replace hB := Lib.hid hB
 go_wp2_with fail
 have hor : L = true ∨ L = false := by cases L <;> simp
 rcases hor with rfl | rfl
 ·(refine wp_region_later (by kernel_rfl) (by kernel_rfl) ?_; (repeat (go_big_quiet_step (fail))); refine wpQuiet_nil ?_; intro w2 hB2)
  go_wp2_with fail
  exact bodyPost_ret (by simp [results, Tryz.results79, go_sem]) rfl ⟨rfl, hBB.out.trans ((hB.out.trans (hB2.mono hB.out.size)).mono hBB.out.size)⟩
 ·rcases ho with ho | ho | ⟨d, rfl, hd⟩
  ·cases ho
  ·have hne : ((n : Int) != 1) = true := by rw [bne_iff_ne]; omega
   (refine wp_region_later (by kernel_rfl) (by kernel_rfl) ?_; (repeat (go_big_quiet_step (fail))); refine wpQuiet_nil ?_; intro w2 hB2)
   go_wp2_with fail
   exact bodyPost_ret (by simp [results, Tryz.results79, go_sem]) rfl ⟨rfl, hBB.out.trans ((hB.out.trans (hB2.mono hB.out.size)).mono hBB.out.size)⟩
  ·have hgd : ∀ h, (bs [d])[0]'h = d := fun _ => rfl
   have hd2 : (128 : Int) ≤ (d.toNat : Int) := by omega
   simp only [List.length_cons, List.length_nil, Nat.zero_add] at hnn
   subst hnn
   (refine wp_region_later (by kernel_rfl) (by kernel_rfl) ?_; (repeat (go_big_quiet_step (fail))); refine wpQuiet_nil ?_; intro w2 hB2)
   go_wp2_with fail
   exact bodyPost_ret (by simp [results, Tryz.results79, go_sem]) rfl ⟨rfl, hBB.out.trans ((hB.out.trans (hB2.mono hB.out.size)).mono hBB.out.size)⟩
end Go.Proofs.YthhlbdgladhdkaaGreatDoor
end
section
namespace Go.Proofs.YthhlbdgladhdkaaGreatDoor
open Go.RowKit Go.Shelf

def SeqSt {α σ : Type} (F : Fence) (n : Nat) (P : Program) (g : Nat) (lb : Array Value) (encs : α → Array Value) (At : List α → α → σ → World → Prop)
  (Kp : σ → World → World → Prop) (Ab : σ → World → σ → World → Prop) (x0 : σ) (S Sp : List α → Prop) (w : World) : Prop :=
 ∀ (l : Nat) (J Jx : List α → σ → World → Prop) (W : World), Below w.heap.size w W →
  (∀ s x A y B, J s x A → Ab x A y B → J s y B) → (∀ s x A y B, Jx s x A → Ab x A y B → Jx s y B) →
  (∀ pre y x A, J pre x A → At pre y x A → YieldAt F (n - 1) P l (encs y) A fun e B =>
   (e = .returned (.bool true) ∧ J (pre ++ [y]) x B ∧ Kp x A B) ∨ (e = .returned (.bool false) ∧ Jx (pre ++ [y]) x B)) →
  J [] x0 W →
  CallsIn F n P g (#[.func (.yield l) #[] #[]] ++ lb) W fun e B => (∃ v, e = .returned v) ∧ ((∃ xs x, S xs ∧ J xs x B) ∨ (∃ pre x, Sp pre ∧ Jx pre x B))

theorem wpIn_rangeFunc_st {α σ : Type} {F : Fence} {n : Nat} {P : Program} {g : Operand} {ps : Array Tmp} {assign body : Code} {Q : Exit → Act → World → Prop} {a : Act} {w : World}
  (hro : F.round = none) (h1 : 1 ≤ n) {gf : Nat} {lb : Array Value} (hg : a.eval g = .func (.func gf) #[] lb) (hFg : F.fn gf) (eg : ∀ args w, (callFunc gf args).run P w = .ok (.enter gf args) w)
  {encs : α → Array Value} {At : List α → α → σ → World → Prop} {Kp : σ → World → World → Prop} {Ab : σ → World → σ → World → Prop} {x0 : σ} {S Sp : List α → Prop}
  (hseq : SeqSt F (n - 1) P gf lb encs At Kp Ab x0 S Sp w) (hps : ∀ y, (encs y).size = ps.size)
  (hKt : ∀ x A B C, Kp x A B → Kp x B C → Kp x A C) (hKb : ∀ x (W : World) (l : Nat) (o o' : Obj), w.heap.size ≤ l → W.heap[l]? = some o → o.isCells = false → o.isWalk = false → Kp x W (W.putObj l o'))
  (hAb : ∀ x (A : World) y (B : World) (k : Nat) (o : Obj), Ab x A y B → w.heap.size ≤ k → A.heap[k]? = some o → o.isCells = false → o.isWalk = false → B.heap[k]? = some o)
  (hAt : ∀ pre y x (W : World) (l : Nat) (o o' : Obj), At pre y x W → w.heap.size ≤ l → W.heap[l]? = some o → o.isCells = false → At pre y x (W.putObj l o'))
  (I : List α → σ → World → Prop) (Ix : Code → List α → σ → World → Prop) (hI : ∀ x, OwnFrom w.heap.size fun s W => I s x W) (hIx : ∀ c x, OwnFrom w.heap.size fun s W => Ix c s x W)
  (hIA : ∀ s x A y B, I s x A → Ab x A y B → I s y B) (hIxA : ∀ c s x A y B, Ix c s x A → Ab x A y B → Ix c s y B)
  (h0 : I [] x0 w) (a₁ : α → Act)
  (hassign : ∀ (l : Nat) (y : α) (W : World) (K : Act → World → Prop), K (a₁ y) W →
   assign.wpIn (F.inRound l) (n - 1 - 1) P (Exit.then K (fun _ _ _ => False)) { tmps := (ps.zip (encs y)).foldl (fun t (p, v) => t.setIfInBounds p v) a.tmps, defers := [] } W)
  (hbody : ∀ (l : Nat) (pre : List α) (y : α) (x : σ) (W : World), I pre x W → At pre y x W →
   body.wpIn (F.inRound l) (n - 1 - 1) P (ownPostK (Kp x) (fun s W => I s x W) (fun c s W => Ix c s x W) (pre ++ [y]) W) (a₁ y) W)
  (hdone : ∀ (D : Nat) (xs : List α) (x : σ) (W : World), w.heap.size ≤ D → S xs → I xs x W → W.heap[D]? = some (.deferred (some [])) → Q .normal { a with defers := { target := .collected D, args := #[] } :: a.defers } W)
  (hstop : ∀ (D : Nat) (c : Code) (pre : List α) (x : σ) (W : World), w.heap.size ≤ D → Sp pre → Ix c pre x W → W.heap[D]? = some (.deferred (some [])) → c.wpIn F n P Q { a with defers := { target := .collected D, args := #[] } :: a.defers } W) :
  (Code.rangeFunc g ps assign body).wpIn F n P Q a w := by
 refine wpIn_rangeFunc fun fn hfn => ?_
 rw [hro]
 obtain ⟨rec, hrec⟩ : ∃ rec : LoopState → Option Code → Loop, rec = fun st pe => { state := st, pending := pe, fn, tmps := a.tmps, params := ps, assign, body, defers := w.heap.size } := ⟨_, rfl⟩
 obtain ⟨V, hV⟩ : ∃ V, (w.alloc (.deferred (some []))).alloc (.loop (rec .ready none)) = V := ⟨_, rfl⟩
 have hLV : V.heap[w.heap.size + 1]? = some (.loop (rec .ready none)) := by
  rw [← hV]
  have := World.alloc_heap_new (w.alloc (.deferred (some []))) (.loop (rec .ready none))
  rwa [World.size_alloc] at this
 have hDV : V.heap[w.heap.size]? = some (.deferred (some [])) := by
  rw [← hV]
  exact (Below.heap_alloc _ _ _ (by simp)).trans (World.alloc_heap_new w _)
 have hIV : I [] x0 V := by rw [← hV]; exact (hI x0).alloc _ ((hI x0).alloc _ h0)
 have hBV : Below w.heap.size w V := by rw [← hV]; exact ((Below.refl _ w).alloc (Nat.le_refl _) _).alloc (by simp) _
 -- the caller's word with the two blocks of book-keeping beside it
 let J : List α → σ → World → Prop := fun s x W => I s x W ∧ W.heap[w.heap.size + 1]? = some (.loop (rec .ready none)) ∧ W.heap[w.heap.size]? = some (.deferred (some []))
 let Jx : List α → σ → World → Prop := fun s x W => ∃ c, Ix c s x W ∧ W.heap[w.heap.size + 1]? = some (.loop (rec .done (some c))) ∧ W.heap[w.heap.size]? = some (.deferred (some []))
 have hJ : ∀ s x A y B, J s x A → Ab x A y B → J s y B := fun s x A y B h hab => ⟨hIA _ _ _ _ _ h.1 hab, hAb _ _ _ _ _ _ hab (by omega) h.2.1 rfl rfl, hAb _ _ _ _ _ _ hab (Nat.le_refl _) h.2.2 rfl rfl⟩
 have hJx : ∀ s x A y B, Jx s x A → Ab x A y B → Jx s y B := fun s x A y B h hab => by
  obtain ⟨c, h1, h2, h3⟩ := h
  exact ⟨c, hIxA _ _ _ _ _ _ h1 hab, hAb _ _ _ _ _ _ hab (by omega) h2 rfl rfl, hAb _ _ _ _ _ _ hab (Nat.le_refl _) h3 rfl rfl⟩
 have round : ∀ pre y x A, J pre x A → At pre y x A → YieldAt F (n - 1 - 1) P (w.heap.size + 1) (encs y) A fun e B =>
   (e = .returned (.bool true) ∧ J (pre ++ [y]) x B ∧ Kp x A B) ∨ (e = .returned (.bool false) ∧ Jx (pre ++ [y]) x B) := by
  rintro pre y x W ⟨hi, hl, hk⟩ hat
  have hlt : w.heap.size + 1 < W.heap.size := (Array.getElem?_eq_some_iff.1 hl).1
  have hy := run_yield (P := P) (args := encs y) hl (by rw [hrec]; exact hps y)
  rw [hrec] at hy
  refine ⟨fn, _, assign, body, hy, roundIn_of_wpIn hfn (hassign _ y W _ ⟨_, run_beginRound hl (by rw [hrec]), ?_⟩)⟩
  have hl2 : (W.putObj (w.heap.size + 1) (.loop { rec .ready none with state := .busy })).heap[w.heap.size + 1]? = some (.loop { rec .ready none with state := .busy }) := World.putObj_heap_same hlt
  have hk2 : (W.putObj (w.heap.size + 1) (.loop { rec .ready none with state := .busy })).heap[w.heap.size]? = some (.deferred (some [])) := (World.putObj_heap_other (by omega)).trans hk
  have hw2 : Kp x W (W.putObj (w.heap.size + 1) (.loop { rec .ready none with state := .busy })) := hKb _ _ _ _ _ (by omega) hl rfl rfl
  refine wpIn_mono (hbody _ pre y x _ ((hI x).putObj _ hi (by omega) hl rfl) (hAt _ _ _ _ _ _ _ hat (by omega) hl rfl)) ?_
  have fin : ∀ (jump : Option Code) (W3 : World), KeepsOthers (W.putObj (w.heap.size + 1) (.loop { rec .ready none with state := .busy })) W3 →
    (Instr.endRound (w.heap.size + 1) jump).run P W3 = .ok (.bool jump.isNone) (W3.putObj (w.heap.size + 1) (.loop (rec (if jump.isNone then .ready else .done) jump))) ∧
    W3.heap[w.heap.size + 1]? = some (.loop { rec .ready none with state := .busy }) ∧
    (W3.putObj (w.heap.size + 1) (.loop (rec (if jump.isNone then .ready else .done) jump))).heap[w.heap.size + 1]? = some (.loop (rec (if jump.isNone then .ready else .done) jump)) ∧
    (W3.putObj (w.heap.size + 1) (.loop (rec (if jump.isNone then .ready else .done) jump))).heap[w.heap.size]? = some (.deferred (some [])) := fun jump W3 hk3 => by
   have hl3 := hk3.same _ _ hl2 rfl
   have h4 := run_endRound (P := P) jump hl3
   rw [hrec] at h4 ⊢
   exact ⟨h4, by rw [hrec] at hl3; exact hl3, World.putObj_heap_same (Array.getElem?_eq_some_iff.1 hl3).1, (World.putObj_heap_other (by omega)).trans (hk3.same _ _ hk2 rfl)⟩
  rintro e a3 W3 hp
  cases e with
  | normal =>
   obtain ⟨hk3, hkp3, hi3⟩ := hp
   obtain ⟨hr, hl3, hl4, hk4⟩ := fin none W3 hk3
   exact ⟨_, _, hr, .inl ⟨rfl, ⟨(hI x).putObj _ hi3 (by omega) hl3 rfl, hl4, hk4⟩, hKt _ _ _ _ (hKt _ _ _ _ hw2 hkp3) (hKb _ _ _ _ _ (by omega) hl3 rfl rfl)⟩⟩
  | ret =>
   obtain ⟨hr, hl3, hl4, hk4⟩ := fin (some .ret) W3 hp.1
   exact ⟨_, _, hr, .inr ⟨rfl, .ret, (hIx _ x).putObj _ hp.2 (by omega) hl3 rfl, hl4, hk4⟩⟩
  | exit id =>
   obtain ⟨hr, hl3, hl4, hk4⟩ := fin (some (.exit id)) W3 hp.1
   exact ⟨_, _, hr, .inr ⟨rfl, .exit id, (hIx _ x).putObj _ hp.2 (by omega) hl3 rfl, hl4, hk4⟩⟩
  | goto t =>
   obtain ⟨hr, hl3, hl4, hk4⟩ := fin (some (.goto t)) W3 hp.1
   exact ⟨_, _, hr, .inr ⟨rfl, .goto t, (hIx _ x).putObj _ hp.2 (by omega) hl3 rfl, hl4, hk4⟩⟩
  | panic ch => exact hp.elim
  | outgrown => exact hp.elim
 refine ⟨w.heap.size + 1, [{ target := .collected w.heap.size, args := #[] }], V, { target := .fn (.func gf) lb, args := #[.func (.yield (w.heap.size + 1)) #[] #[]] }, V, gf,
  #[.func (.yield (w.heap.size + 1)) #[] #[]] ++ lb, V, ?_, ?_, ?_, ?_, fun _ => h1, ?_⟩
 ·rw [← hV, hrec]; exact run_enterLoop_outer _ _ _ _ _
 ·simp only [resolve, hg]
  simp [go_sem]
 ·intro f' hf'
  simp [Target.leads] at hf'
  subst hf'
  exact hFg
 ·simp [invoke, go_sem, eg]
 refine (hseq (w.heap.size + 1) J Jx V hBV hJ hJx round ⟨hIV, hLV, hDV⟩).mono ?_
 rintro e W2 ⟨⟨v, rfl⟩, (⟨xs, x, hS, hi, hl, hk⟩ | ⟨pre, x, hSp, c, hi, hl, hk⟩)⟩
 ·exact ⟨none, _, by have := run_endLoop (P := P) hl (by rw [hrec]; simp); rw [hrec] at this; exact this, hdone _ xs x _ (Nat.le_refl _) hS ((hI x).putObj _ hi (by omega) hl rfl) ((World.putObj_heap_other (by omega)).trans hk)⟩
 ·exact ⟨some c, _, by have := run_endLoop (P := P) hl (by rw [hrec]; simp); rw [hrec] at this; exact this, hstop _ c pre x _ (Nat.le_refl _) hSp ((hIx c x).putObj _ hi (by omega) hl rfl) ((World.putObj_heap_other (by omega)).trans hk)⟩
end Go.Proofs.YthhlbdgladhdkaaGreatDoor
end
section
namespace Go.Proofs.YthhlbdgladhdkaaGreatDoor
open BigFrame Go.RowKit Go.Phx Go.Shelf
attribute [local go_sem] Oper.semAt_some

theorem cut_item (x : It) (r : Bytes) (hp : (putI x).length + r.length ≤ 1000000000) (w : World) : Calls Tryz.prog 79 #[.string (bs (putI x ++ r))] w (Ret w (.tuple #[.string (bs (insI x)), .bool (isL x), .string (bs r), .bool true])) := by
 rcases put_is x with ⟨c, h1, h2, rfl⟩ | ⟨h1, h2⟩
 ·rw [h1]
  exact cut_small c h2 r (by omega) w
 ·have hle := ins_le x
  rcases frame_is (f := fromI x) (s := insI x) (by omega) with ⟨h56, e⟩ | ⟨h56, _, _, e⟩
  ·rw [h1, e]
   exact cut_short (isL x) (insI x) r _ rfl h56 h2 (by omega) w
  ·rw [h1, e]
   have := cut_long (isL x) (insI x) r _ rfl h56 (by omega) w
   rw [List.cons_append, List.append_assoc]
   exact this
def AllP (w : World) (l : List It) (e : Ending) (w' : World) : Prop := ∃ A c, e = .returned (.tuple #[.slice A l.length c, .bool true]) ∧ l.length ≤ c ∧ c ≤ maxLen ∧ RepLS (fun b => w.heap.size ≤ b) w' l A ∧ Below w.heap.size w w'
def txtLen (q : Nat) (w : World) : Nat := match w.cell? ⟨q, 0, none⟩ with
 | some (.string s) => s.size
 | _ => 0
theorem txtLen_blk {q : Nat} {w : World} {t : TypeId} {s : ByteArray} (h : Blk w q t #[.string s]) : txtLen q w = s.size := by
 have := h.cell 0
 unfold txtLen
 rw [this]
 rfl
def KpQ (q : Nat) (A B : World) : Prop := A.heap.size ≤ B.heap.size ∧ (q < A.heap.size → B.heap[q]? = A.heap[q]?)
theorem putL_drop (l : List It) (k : Nat) (hk : k < l.length) : putL (l.drop k) = putI l[k] ++ putL (l.drop (k + 1)) := by rw [List.drop_eq_getElem_cons hk, putL_cons]
theorem putL_split (l : List It) (k : Nat) : (putL (l.drop k)).length ≤ (putL l).length := by
 conv => rhs; rw [← List.take_append_drop k l, putL_append, List.length_append]
 omega
abbrev Hst : Type := World × Nat
def AbQ (q : Nat) (_ : Hst) (A : World) (y : Hst) (B : World) : Prop := A.grownBy B (some q) ∧ y.1 = A
def AtQ (l : List It) (pre : List (It × Iv)) (y : It × Iv) (x : Hst) (A : World) : Prop := pre.length = x.2 ∧ l[pre.length]? = some y.1 ∧ RepS (fun b => x.1.heap.size ≤ b) A y.1 y.2
set_option maxRecDepth 100000 in
set_option maxHeartbeats 16000000 in
theorem items1_in (n : Nat) (hn : 1 ≤ n) (lp q : Nat) (l : List It) (hl : (putL l).length ≤ 1000000000)
  (hall : ∀ x ∈ l, ∀ l', x = .list l' → ∀ w', Calls Tryz.prog 36 #[.string (bs (putL l'))] w' (AllP w' l'))
  (J Jx : List (It × Iv) → Hst → World → Prop) (hJ : ∀ s x A y B, J s x A → AbQ q x A y B → J s y B)
  (hY : ∀ pre y x A, J pre x A → AtQ l pre y x A → YieldAt Fence.wide (n - 1) Tryz.prog lp #[y.2.val, .bool true] A fun e B =>
   (e = .returned (.bool true) ∧ J (pre ++ [y]) x B ∧ KpQ q A B) ∨ (e = .returned (.bool false) ∧ Jx (pre ++ [y]) x B))
  (W : World) (K0 : Blk W q 9 #[.string (bs (putL l))]) (x0 : Hst) (h0 : J [] x0 W) :
  CallsIn Fence.wide n Tryz.prog 78 #[.func (.yield lp) #[] #[], .pointer (some ⟨q, 0, none⟩)] W fun e B => (∃ v, e = .returned v) ∧
   ((∃ xs x, xs.map Prod.fst = l ∧ J xs x B) ∨ (∃ pre x, True ∧ Jx pre x B)) := by
 have hwf : ∀ f, Fence.wide.fn f := fun _ => trivial
 replace hY := Lib.hid hY
 replace hJ := Lib.hid hJ
 replace hall := Lib.hid hall
 refine callsIn_of_wp Tryz.func78 rfl trivial ?_ rfl
 simp only [Tryz.ntmps78, List.size_toArray, List.length_cons, List.length_nil, Nat.reduceAdd, Nat.reduceSub, Array.replicate_succ, Array.replicate_zero, List.push_toArray, List.append_toArray, List.nil_append, List.cons_append]
 gi_wp2_with fail
 gi_loopw [8] (fun _ wr => ∃ k pre x, k ≤ l.length ∧ pre.map Prod.fst = l.take k ∧ Blk wr q 9 #[.string (bs (putL (l.drop k)))] ∧ J pre x wr) (fun _ wr => txtLen q wr)
 case atStart => exact ⟨0, [], x0, by omega, rfl, K0, h0⟩
 case round =>
  clear K0 h0
  obtain ⟨k, pre, hst, hk, hpre, K0, hj⟩ := hrel
  have hm0 := txtLen_blk K0
  rw [bs_size] at hm0
  by_cases hlt : k < l.length
  ·have hd := putL_drop l k hlt
   have hsp := putL_split l k
   rw [hd] at K0 hm0 hsp
   have hal := hall.out l[k] (List.getElem_mem hlt)
   have hpl : pre.length = k := by have := congrArg List.length hpre; rw [List.length_map, List.length_take] at this; omega
   have hyk : l[pre.length]? = some l[k] := by rw [hpl, List.getElem?_eq_getElem hlt]
   have htk : l.take (k + 1) = l.take k ++ [l[k]] := by rw [List.take_add_one, List.getElem?_eq_getElem hlt]; rfl
   generalize l[k] = x at *
   obtain ⟨r, hr⟩ : ∃ r, putL (l.drop (k + 1)) = r := ⟨_, rfl⟩
   rw [hr] at K0 hm0 hsp hd
   replace hr := Lib.hid hr
   rw [List.length_append] at hsp hm0
   have hsum : (putI x).length + r.length ≤ 1000000000 := by omega
   have ncut := fun w => cut_item x r hsum w
   have hpos := put_pos x
   have hne : (putI x ++ r).isEmpty = false := by
    cases h : putI x ++ r with
    | nil => exact absurd (List.append_eq_nil_iff.1 h).1 (put_ne x)
    | cons _ _ => rfl
   generalize putI x ++ r = s at *
   replace hpre := Lib.hid hpre
   replace htk := Lib.hid htk
   replace hj := Lib.hid hj
   replace K0 := Lib.hid K0
   replace ncut := Lib.hid ncut
   replace hm0 := Lib.hid hm0
   replace hd := Lib.hid hd
   replace hyk := Lib.hid hyk
   replace hal := Lib.hid hal
   replace hpl := Lib.hid hpl
   clear hall hsp
   (obtain ⟨k0, f0, l0, m0⟩ := K0.out.rl)
   gi_wp2_with (gi_at_call 79; refine (callsIn_wide.2 (ncut.out _)).mono ?_)
   rintro e w1 ⟨rfl, hB1⟩
   have K1 := Lib.hid (K0.out.below hB1)
   have G1 : wr.grownBy w1 (some q) := grown_of hB1
   have hq1 : q < w1.heap.size := K1.out.lt
   have hz1 := hB1.size
   clear k0 f0 l0 m0 K0 hB1 ncut
   have K0 := K1
   clear K1
   have hY2 : ∀ (y : Iv) (A : World), RepS (fun b => wr.heap.size ≤ b) A x y → wr.grownBy A (some q) → YieldAt Fence.wide (n - 1) Tryz.prog lp #[y.val, .bool true] A fun e B =>
     (e = .returned (.bool true) ∧ J (pre ++ [(x, y)]) (wr, k) B ∧ KpQ q A B) ∨ (e = .returned (.bool false) ∧ Jx (pre ++ [(x, y)]) (wr, k) B) := fun y A hR hG => hY.out pre (x, y) (wr, k) A (hJ.out _ _ _ (wr, k) _ hj.out ⟨hG, rfl⟩) ⟨hpl.out, hyk.out, hR⟩
   replace hY2 := Lib.hid hY2
   cases x with
   | text b =>
    have hR := fun A => hY2.out ⟨false, b, none, 0, 0⟩ A (.text b)
    simp only [insI, isL]
    replace hR := Lib.hid hR
    clear hY hY2 hyk hal
    obtain ⟨A, hA⟩ : ∃ A, (w1.setCell ⟨q, 0, none⟩ (.string (bs r))).alloc (Obj.cells #[.bool false, .string (bs b), .slice none 0 0] 52) = A := ⟨_, rfl⟩
    have GA : wr.grownBy A (some q) := by rw [← hA]; exact grown_on (grown_set G1) ((Below.refl _ _).alloc (Nat.le_refl _) _)
    have KA : Blk A q 9 #[.string (bs r)] := by rw [← hA]; exact (Blk.to (Blk.set_ K0.out 0 _) rfl : Blk _ q _ #[.string (bs r)]).alloc _
    have KP : Blk A w1.heap.size 52 #[.bool false, .string (bs b), .slice none 0 0] := by rw [← hA]; exact Blk.newAt (size_set _ _ _)
    obtain ⟨fn, tmps, assign, body, hy, hYR⟩ := hR.out A GA
    replace hA := Lib.hid hA
    have K1 := Lib.hid KA
    have K2 := Lib.hid KP
    clear hR KA KP
    (obtain ⟨k0, f0, l0, m0⟩ := K0.out.rl; obtain ⟨k1, f1, l1, m1⟩ := K1.out.rl; obtain ⟨k2, f2, l2, m2⟩ := K2.out.rl)
    gi_wp2_with (rw [hA.out])
    refine hYR.mono ?_
    rintro e W3 (⟨rfl, hJ3, hk3⟩ | ⟨rfl, hJx3⟩)
    ·have K3 : Blk W3 q 9 #[.string (bs r)] := (hk3.2 K1.out.lt).trans K1.out
     have hm3 := txtLen_blk K3
     rw [bs_size] at hm3
     replace K3 := Lib.hid K3
     replace hJ3 := Lib.hid hJ3
     replace hm3 := Lib.hid hm3
     clear k0 f0 l0 m0 K0 k1 f1 l1 m1 K1 k2 f2 l2 m2 K2 hk3 hy hYR
     gi_wp2_with fail
     go_roundw
     case rel => exact ⟨k + 1, _, _, by omega, by rw [List.map_append, hpre.out, htk.out]; rfl, by rw [hr.out]; exact K3.out, hJ3.out⟩
     case measure => rw [hm3.out, hm0.out]; omega
    ·replace hJx3 := Lib.hid hJx3
     clear k0 f0 l0 m0 K0 k1 f1 l1 m1 K1 k2 f2 l2 m2 K2 hy hYR
     gi_wp2_with fail
     refine bodyPost_ret (results_none rfl _ _ _) rfl ?_
     exact ⟨⟨_, rfl⟩, .inr ⟨_, _, trivial, hJx3.out⟩⟩
   | list l' =>
    have hR := fun A v => hY2.out v A
    simp only [insI, isL]
    have nall := hal.out l' rfl
    replace hR := Lib.hid hR
    replace nall := Lib.hid nall
    clear hY hY2 hyk hal
    (obtain ⟨k0, f0, l0, m0⟩ := K0.out.rl)
    gi_wp2_with (gi_at_call 36; refine (callsIn_wide.2 (nall.out _)).mono ?_)
    rintro e w3 ⟨A', c', rfl, hlc, hcm, hrl, hB3⟩
    have K3 := (K0.out.alloc (Obj.cells #[.bool true, .string ⟨#[]⟩, .slice none 0 0] 52)).below hB3
    have P3 := (Blk.new0 w1 52 #[.bool true, .string ⟨#[]⟩, .slice none 0 0]).below hB3
    have G3 : wr.grownBy w3 (some q) := grown_on (grown_on G1 ((Below.refl _ _).alloc (Nat.le_refl _) (Obj.cells #[.bool true, .string ⟨#[]⟩, .slice none 0 0] 52))) hB3
    have hz3 := hB3.size
    simp only [size_alloc] at hrl hz3
    obtain ⟨p, hp⟩ : ∃ p, w1.heap.size = p := ⟨_, rfl⟩
    rw [hp] at P3 hrl hz3 hq1 hz1 ⊢
    obtain ⟨A, hA⟩ : ∃ A, (w3.setCell ⟨p, 2, none⟩ (.slice A' l'.length c')).setCell ⟨q, 0, none⟩ (.string (bs r)) = A := ⟨_, rfl⟩
    have GA : wr.grownBy A (some q) := by rw [← hA]; exact grown_set (grown_far G3 hz1)
    have KA : Blk A q 9 #[.string (bs r)] := by rw [← hA]; exact Blk.to (Blk.set_ (K3.over2 (by omega)) 0 _) rfl
    have KP : Blk A p 52 #[.bool true, .string ⟨#[]⟩, .slice A' l'.length c'] := by rw [← hA]; exact Blk.to ((Blk.set_ P3 2 _).over2 (by omega)) rfl
    have hRA : RepS (fun b => wr.heap.size ≤ b) A (.list l') ⟨true, [], A', l'.length, c'⟩ := RepLS.of (hrl.keep (by rw [← hA, size_set, size_set]; exact Nat.le_refl _) fun b hb _ => ⟨by omega, by rw [← hA, Below.heap_setCell _ _ _ _ (by simp; omega), Below.heap_setCell _ _ _ _ (by simp; omega)]⟩) hlc hcm
    obtain ⟨fn, tmps, assign, body, hy, hYR⟩ := hR.out A _ hRA GA
    replace hy : (Instr.yield lp #[.agg #[.bool true, .string ⟨#[]⟩, .slice A' l'.length c'], .bool true]).run Tryz.prog A = _ := hy
    replace hA := Lib.hid hA
    have K1 := Lib.hid KA
    have K2 := Lib.hid KP
    have K0x := K0
    clear hR KA KP hRA k0 f0 l0 m0 K0x K0 nall hB3 hrl hp
    have K0 := Lib.hid K3
    have K4 := Lib.hid P3
    clear K3 P3
    (obtain ⟨k0, f0, l0, m0⟩ := K0.out.rl; obtain ⟨k1, f1, l1, m1⟩ := K1.out.rl; obtain ⟨k2, f2, l2, m2⟩ := K2.out.rl; obtain ⟨k4, f4, l4, m4⟩ := K4.out.rl)
    gi_wp2_with (rw [hA.out])
    clear k4 f4 l4 m4 K4
    refine hYR.mono ?_
    rintro e W3 (⟨rfl, hJ3, hk3⟩ | ⟨rfl, hJx3⟩)
    ·have K3 : Blk W3 q 9 #[.string (bs r)] := (hk3.2 K1.out.lt).trans K1.out
     have hm3 := txtLen_blk K3
     rw [bs_size] at hm3
     replace K3 := Lib.hid K3
     replace hJ3 := Lib.hid hJ3
     replace hm3 := Lib.hid hm3
     clear k0 f0 l0 m0 K0 k1 f1 l1 m1 K1 k2 f2 l2 m2 K2 hk3 hy hYR
     gi_wp2_with fail
     go_roundw
     case rel => exact ⟨k + 1, _, _, by omega, by rw [List.map_append, hpre.out, htk.out]; rfl, by rw [hr.out]; exact K3.out, hJ3.out⟩
     case measure => rw [hm3.out, hm0.out]; omega
    ·replace hJx3 := Lib.hid hJx3
     clear k0 f0 l0 m0 K0 k1 f1 l1 m1 K1 k2 f2 l2 m2 K2 hy hYR
     gi_wp2_with fail
     refine bodyPost_ret (results_none rfl _ _ _) rfl ?_
     exact ⟨⟨_, rfl⟩, .inr ⟨_, _, trivial, hJx3.out⟩⟩
  ·obtain rfl : k = l.length := by omega
   rw [List.take_of_length_le (Nat.le_refl _)] at hpre
   rw [List.drop_of_length_le (Nat.le_refl _)] at K0
   have hnil : (bs (putL ([] : List It))) = ⟨#[]⟩ := rfl
   rw [hnil] at K0
   replace hj := Lib.hid hj
   replace K0 := Lib.hid K0
   replace hpre := Lib.hid hpre
   clear hm0 hnil
   (obtain ⟨k0, f0, l0, m0⟩ := K0.out.rl)
   gi_wp2_with fail
   go_end0
   exact ⟨⟨_, rfl⟩, .inl ⟨pre, hst, hpre.out, hj.out⟩⟩
end Go.Proofs.YthhlbdgladhdkaaGreatDoor
end
section
namespace Go.Proofs.YthhlbdgladhdkaaGreatDoor
open BigFrame Go.RowKit Go.Phx Go.Shelf
attribute [local go_sem] Oper.semAt_some

/-! a row of eight words, read at a place -/
end Go.Proofs.YthhlbdgladhdkaaGreatDoor
end
section
namespace Go.Proofs.YthhlbdgladhdkaaGreatDoor
open BigFrame Go.RowKit Go.Phx Go.Shelf
attribute [local go_sem] Oper.semAt_some

end Go.Proofs.YthhlbdgladhdkaaGreatDoor
end
section
namespace Go.Proofs.YthhlbdgladhdkaaGreatDoor
open BigFrame Go.RowKit Go.Phx Go.Shelf
attribute [local go_sem] Oper.semAt_some

def takes (pre : List (List UInt8)) : St := pre.foldl takeB iv
end Go.Proofs.YthhlbdgladhdkaaGreatDoor
end
section
namespace Go.Proofs.YthhlbdgladhdkaaGreatDoor
open BigFrame Go.RowKit Go.Phx Go.Shelf
attribute [local go_sem] Oper.semAt_some

def BytesAt (w : World) (g o : Nat) (l : List UInt8) : Prop := g < w.heap.size ∧ ∀ j, j < l.length → w.cell? ⟨g, o + j, none⟩ = some (.int .u8 (vw (bw (l.getD j 0))))
theorem BytesAt.from {n : Nat} {w w' : World} {g o : Nat} {l : List UInt8} (h : BytesAt w g o l) (hB : Below n w w') (hn : g < n) (hz : w.heap.size ≤ w'.heap.size) : BytesAt w' g o l :=
 ⟨Nat.lt_of_lt_of_le h.1 hz, fun j hj => (hB.cell (p := ⟨g, o + j, none⟩) hn).trans (h.2 j hj)⟩

end Go.Proofs.YthhlbdgladhdkaaGreatDoor
end
section
namespace Go.Proofs.YthhlbdgladhdkaaGreatDoor
open BigFrame Go.RowKit Go.Phx Go.Shelf
attribute [local go_sem] Oper.semAt_some

end Go.Proofs.YthhlbdgladhdkaaGreatDoor
end
section
namespace Go.Proofs.YthhlbdgladhdkaaGreatDoor
open BigFrame Go.RowKit Go.Phx Go.Shelf
attribute [local go_sem] Oper.semAt_some

@[go_sem] theorem not_w (x : Wd) : bits .xor .u32 (if IntKind.u32.signed = true then -1 else IntKind.u32.max) (vw x) = vw (~~~x) := by
 rw [show (if IntKind.u32.signed = true then -1 else IntKind.u32.max : Int) = vw (BitVec.allOnes 32) from by decide, xor_w, BitVec.allOnes_xor]
end Go.Proofs.YthhlbdgladhdkaaGreatDoor
end
section
namespace Go.Proofs.YthhlbdgladhdkaaGreatDoor
open BigFrame Go.RowKit Go.Phx Go.Shelf
attribute [local go_sem] Oper.semAt_some

end Go.Proofs.YthhlbdgladhdkaaGreatDoor
end
section
namespace Go.Proofs.YthhlbdgladhdkaaGreatDoor
open BigFrame Go.RowKit Go.Phx Go.Shelf
attribute [local go_sem] Oper.semAt_some

end Go.Proofs.YthhlbdgladhdkaaGreatDoor
end
section
namespace Go.Proofs.YthhlbdgladhdkaaGreatDoor
open BigFrame Go.RowKit Go.Phx Go.Shelf
attribute [local go_sem] Oper.semAt_some

def digs : List UInt8 := [48, 49, 50, 51, 52, 53, 54, 55, 56, 57, 97, 98, 99, 100, 101, 102]
def dig (d : Nat) : UInt8 := digs.getD d 0
@[go_sem] theorem dig_get : ∀ (d : Nat) (h : d < (ByteArray.mk #[48, 49, 50, 51, 52, 53, 54, 55, 56, 57, 97, 98, 99, 100, 101, 102]).size), (ByteArray.mk #[48, 49, 50, 51, 52, 53, 54, 55, 56, 57, 97, 98, 99, 100, 101, 102])[d]'h = dig d
 | 0, _ => rfl
 | 1, _ => rfl
 | 2, _ => rfl
 | 3, _ => rfl
 | 4, _ => rfl
 | 5, _ => rfl
 | 6, _ => rfl
 | 7, _ => rfl
 | 8, _ => rfl
 | 9, _ => rfl
 | 10, _ => rfl
 | 11, _ => rfl
 | 12, _ => rfl
 | 13, _ => rfl
 | 14, _ => rfl
 | 15, _ => rfl
 | d + 16, h => absurd h (by simp [ByteArray.size])
end Go.Proofs.YthhlbdgladhdkaaGreatDoor
end
section
namespace Go.Proofs.YthhlbdgladhdkaaGreatDoor
open BigFrame Go.RowKit Go.Phx Go.Shelf
attribute [local go_sem] Oper.semAt_some

end Go.Proofs.YthhlbdgladhdkaaGreatDoor
end
