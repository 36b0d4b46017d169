/- The blocks of a text, by the iterator. -/
import Derived.Test.YtpmmjomejackkaaDoorSha3
import Derived.Test.YtpmmjomejackkaaDoorBs
import Derived.Test.YtpmmjomejackkaaDoorSeq
import Derived.Test.YtpmmjomejackkaaDoorShelf
import Derived.RegionTactic
import Derived.ChangeAlike
set_option linter.unusedSimpArgs false
set_option linter.unusedVariables false
namespace Go.Proofs.YtpmmjomejackkaaDoor
open BigFrame Go.RowKit Go.Phx Go.Shelf
attribute [local go_sem] Oper.semAt_some

theorem repeat0 (c : Nat) (hc : c ≤ 65536) (w : World) : Calls Tryd.prog 97 #[.string { data := #[0] }, .int .i64 c] w (Ret w (.string (bs (List.replicate c 0)))) := by
  refine (Tryd.strings_Repeat (bs [0]) c w (by omega) (by rw [bs_size]; simp; omega)).mono ?_
  rintro e w' ⟨rfl, hB⟩
  have e1 : Lib.repeatL (bs [0]).data.toList c = List.replicate c 0 := by
    rw [bs_list]
    induction c with
    | zero => rfl
    | succ c ih => rw [List.replicate_succ, ← ih (by omega)]; rfl
  rw [e1]
  exact ⟨rfl, hB⟩
/-- the first blocks of 64 -/
def chunks (n : Nat) (l : List UInt8) : List (List UInt8) := (List.range n).map fun i => (l.drop (64 * i)).take 64
theorem chunks_succ (n : Nat) (l : List UInt8) : chunks (n + 1) l = chunks n l ++ [(l.drop (64 * n)).take 64] := by
  unfold chunks
  rw [List.range_succ, List.map_append]
  rfl
theorem padS_len (l : List UInt8) : (padS l).length % 64 = 0 := by
  unfold padS tail64
  simp
  omega
theorem pad_drop (l : List UInt8) (k : Nat) (hk : k = l.length / 64) (r : List UInt8) (hr : l.drop (64 * k) = r) (c : Nat) (hc : (119 - r.length) % 64 = c) :
    r ++ 128 :: List.replicate c 0 ++ (List.range 8).map (fun i => UInt8.ofNat (8 * l.length / 2 ^ (56 - 8 * i))) = (padS l).drop (64 * k) := by
  have hl : r.length = l.length % 64 := by rw [← hr]; simp; omega
  unfold padS tail64
  rw [List.drop_append_of_le_length (by omega), hr, ← hc, hl]
  simp
theorem chunks_pad (l : List UInt8) (k : Nat) (hk : 64 * k ≤ l.length) : chunks k l = chunks k (padS l) := by
  unfold chunks
  apply List.map_congr_left
  intro i hi
  have hi := List.mem_range.1 hi
  unfold padS
  rw [List.drop_append_of_le_length (by omega), List.take_append_of_le_length (by simp; omega)]
/-- what the iterator does to memory: its own variable alone, beside new memory -/
def OwnStep (b : Nat) (_ : Unit) (W : World) (_ : Unit) (W' : World) : Prop := W.grownBy W' (some b)
def KeepS (b : Nat) (_ : Unit) (W W' : World) : Prop := KeepB b W W'
def AtBlock (_ : List (List UInt8)) (y : List UInt8) (_ : Unit) (_ : World) : Prop := y.length = 64

set_option maxRecDepth 100000 in
set_option maxHeartbeats 8000000 in
theorem blocks1_in (n : Nat) (hn : 1 ≤ n) (lp : Nat) (b : Nat) (l : List UInt8) (hl : l.length ≤ 140737488355328) (J Jx : List (List UInt8) → Unit → World → Prop)
    (hJ : ∀ s x A y B, J s x A → OwnStep b x A y B → J s y B) (hJx : ∀ s x A y B, Jx s x A → OwnStep b x A y B → Jx s y B)
    (hY : ∀ pre y x A, J pre x A → AtBlock pre y x A → YieldAt Fence.wide (n - 1) Tryd.prog lp #[.string (bs y)] A fun e B =>
      (e = .returned (.bool true) ∧ J (pre ++ [y]) x B ∧ KeepS b x A B) ∨ (e = .returned (.bool false) ∧ Jx (pre ++ [y]) x B))
    (w : World) (hb : Blk w b 9 #[.string (bs l)]) (h0 : J [] () w) :
    CallsIn Fence.wide n Tryd.prog 96 #[.func (.yield lp) #[] #[], .pointer (some ⟨b, 0, none⟩)] w fun e B => (∃ v, e = .returned v) ∧
      ((∃ xs x, xs = chunks ((padS l).length / 64) (padS l) ∧ J xs x B) ∨ (∃ pre x, True ∧ Jx pre x B)) := by
  refine callsIn_of_wp Tryd.func96 rfl trivial ?_ rfl
  simp only [Tryd.ntmps96, List.size_toArray, List.length_cons, List.length_nil, Nat.reduceAdd, Nat.reduceSub, Array.replicate_succ, Array.replicate_zero, List.push_toArray, List.append_toArray, List.nil_append, List.cons_append]
  have K0 := Lib.hid hb
  clear hb
  (have k0 := Blk.cell K0.out; have f0 := Blk.free K0.out; have l0 := Blk.lt K0.out; have m0 := Nat.le_of_lt l0)
  gi_wp2
  gi_loopw [8] (fun _ wr => ∃ k : Nat, 64 * k ≤ l.length ∧ Blk wr b 9 #[.string (bs (l.drop (64 * k)))] ∧ J (chunks k l) () wr) (fun _ wr => boxLen b wr)
  case atStart => exact ⟨0, Nat.zero_le _, K0.out, h0⟩
  case round =>
    clear K0 k0 f0 l0 m0 h0
    obtain ⟨k, hk, K0, hj⟩ := hrel
    have hbl := boxLen_of K0
    obtain ⟨r, hr⟩ : ∃ r, l.drop (64 * k) = r := ⟨_, rfl⟩
    have hrl : r.length = l.length - 64 * k := by rw [← hr]; simp
    rw [hr] at K0 hbl
    have HR := Lib.hid hr
    have HRL := Lib.hid hrl
    have HBL := Lib.hid hbl
    clear hr hbl
    replace K0 := Lib.hid K0
    by_cases hlt : 64 ≤ r.length
    · obtain ⟨fn, tmps, assign, body, hy, hR⟩ := hY (chunks k l) (r.take 64) () wr hj (by unfold AtBlock; simp; omega)
      clear hrl
      (have k0 := Blk.cell K0.out; have f0 := Blk.free K0.out; have l0 := Blk.lt K0.out; have m0 := Nat.le_of_lt l0)
      gi_wp2
      refine hR.mono ?_
      rintro e W3 (⟨rfl, hJ3, hk3⟩ | ⟨rfl, hJx3⟩)
      · have K1 := Lib.hid (show Blk W3 b _ _ from Eq.trans hk3 K0.out)
        clear k0 f0 l0 m0 K0 hk3
        (have k1 := Blk.cell K1.out; have f1 := Blk.free K1.out; have l1 := Blk.lt K1.out; have m1 := Nat.le_of_lt l1)
        gi_wp2
        have K2 := K1.out.set_ 0 (.string (bs (r.drop 64)))
        simp only [List.setIfInBounds_toArray, List.set_cons_zero] at K2
        have hrl := HRL.out
        go_roundw
        case rel => exact ⟨k + 1, by omega, by rw [show 64 * (k + 1) = 64 * k + 64 by omega, ← List.drop_drop, HR.out]; exact K2, by rw [chunks_succ, HR.out]; exact hJ _ _ _ _ _ hJ3 (grownBy_setCell' _ _ _)⟩
        case measure => rw [HBL.out, boxLen_of K2]; simp; omega
      · gi_wp2
        refine bodyPost_ret (results_none rfl _ _ _) rfl ?_
        exact ⟨⟨_, rfl⟩, .inr ⟨_, _, trivial, hJx3⟩⟩
    · have hc : k = l.length / 64 := by omega
      clear hrl
      (have k0 := Blk.cell K0.out; have f0 := Blk.free K0.out; have l0 := Blk.lt K0.out; have m0 := Nat.le_of_lt l0)
      gi_wp2
      refine wpIn_wide.2 ?_
      have e1 : IntKind.i64.wrap (119 - ↑r.length) = ((119 - r.length : Nat) : Int) := by rw [IntWalk.i64_in _ (by omega)]; omega
      obtain ⟨c, hc0⟩ : ∃ c, (119 - r.length) % 64 = c := ⟨_, rfl⟩
      have hc1 : c < 64 := by omega
      have e2 : ((119 - r.length : Nat) : Int) % 64 = (c : Int) := by omega
      have HC0 := Lib.hid hc0
      have HC := Lib.hid hc
      clear hc0 hc
      have c128 : (⟨#[128]⟩ : ByteArray) = bs [128] := rfl
      (refine wp_region_later_tail 8 (by kernel_rfl) (by kernel_rfl) ?_; simp only [List.take_succ_cons, List.take_zero, List.drop_succ_cons, List.drop_zero]; (repeat (go_big_quiet_step ((go_at_call 97; exact lq (repeat0 c (by omega) _))))); refine wpQuiet_nil ?_; intro w' hB)
      have K1 := Lib.hid (K0.out.below hB)
      have G := grown_of (b := b) hB
      clear k0 f0 l0 m0 K0 hB
      (have k1 := Blk.cell K1.out; have f1 := Blk.free K1.out; have l1 := Blk.lt K1.out; have m1 := Nat.le_of_lt l1)
      go_wp2_with fail
      gi_wp2
      have K2 := K1.out.set_ 0 (.string (bs (r ++ 128 :: List.replicate c 0)))
      simp only [List.setIfInBounds_toArray, List.set_cons_zero] at K2
      replace G := grown_set (i := 0) (u := .string (bs (r ++ 128 :: List.replicate c 0))) G
      have hj2 := hJ _ () _ () _ hj G
      clear k1 f1 l1 m1 K1 G hj
      generalize w'.setCell ⟨b, 0, none⟩ (.string (bs (r ++ 128 :: List.replicate c 0))) = w2 at K2 hj2 ⊢
      gi_loopw [4] (fun i wr => ∃ j : Nat, j ≤ 8 ∧ i = .int .i64 (56 - 8 * j) ∧ Blk wr b 9 #[.string (bs (r ++ 128 :: List.replicate c 0 ++ (List.range j).map fun i => UInt8.ofNat (8 * l.length / 2 ^ (56 - 8 * i))))] ∧ J (chunks k l) () wr) (fun i _ => (intOf i + 8).toNat)
      case atStart => exact ⟨0, by omega, rfl, by simpa using K2, hj2⟩
      case round =>
        clear K2 hj2
        obtain ⟨j, hj8, rfl, K0, hj⟩ := hrel
        by_cases hlt8 : j < 8
        · obtain ⟨q, hq⟩ : ∃ q, (r ++ 128 :: List.replicate c 0 ++ (List.range j).map fun i => UInt8.ofNat (8 * l.length / 2 ^ (56 - 8 * i))) = q := ⟨_, rfl⟩
          rw [hq] at K0
          have HQ := Lib.hid hq
          clear hq
          replace K0 := Lib.hid K0
          (have k0 := Blk.cell K0.out; have f0 := Blk.free K0.out; have l0 := Blk.lt K0.out; have m0 := Nat.le_of_lt l0)
          gi_wp2
          refine wpIn_wide.2 ?_
          have hb0 := k0 0
          have hbf := f0 0
          simp only [List.getElem?_toArray, List.getElem?_cons_zero] at hb0
          have hql : q.length ≤ 300 := by rw [← HQ.out]; simp; omega
          clear k0 f0
          go_region
          have hv : UInt8.ofNat (8 * (l.length : Int) / 2 ^ (56 - 8 * j) % 256).toNat = UInt8.ofNat (8 * l.length / 2 ^ (56 - 8 * j)) := by
            have e : (8 * (l.length : Int) / 2 ^ (56 - 8 * j)) = ((8 * l.length / 2 ^ (56 - 8 * j) : Nat) : Int) := by simp
            rw [e]
            generalize 8 * l.length / 2 ^ (56 - 8 * j) = m
            apply UInt8.toNat_inj.1
            simp
            omega
          rw [hv]
          clear hv hb0 hbf
          have K1 := (((K0.out.set_ 0 (.string (bs (q ++ [UInt8.ofNat (8 * l.length / 2 ^ (56 - 8 * j))])))).alloc (.cells #[.int .u8 (8 * ↑l.length / 2 ^ (56 - 8 * j) % 256)] 5)).drew)
          simp only [List.setIfInBounds_toArray, List.set_cons_zero] at K1
          have hj2 := hJ _ () _ () _ hj (show OwnStep b () wr () (((wr.setCell ⟨b, 0, none⟩ (.string (bs (q ++ [UInt8.ofNat (8 * l.length / 2 ^ (56 - 8 * j))])))).alloc (.cells #[.int .u8 (8 * ↑l.length / 2 ^ (56 - 8 * j) % 256)] 5)).drew) from grown_on (grownBy_setCell' _ _ _) (((Below.refl _ _).alloc (Nat.le_refl _) _).drew))
          gi_wp2
          go_roundw
          case rel => exact ⟨j + 1, by omega, by congr 1; omega, by rw [List.range_succ, List.map_append, ← List.append_assoc, HQ.out]; exact K1, hj2⟩
          case measure => simp [intOf]; omega
        · obtain rfl : j = 8 := by omega
          simp only [show (56 : Int) - 8 * ((8 : Nat) : Int) = -8 from rfl]
          rw [pad_drop l k HC.out r HR.out c HC0.out] at K0
          rw [chunks_pad l k hk] at hj
          have hpl := padS_len l
          have hkp : 64 * k ≤ (padS l).length := by unfold padS; simp; omega
          clear HC HR HC0 HRL HBL hlt hc1 e1 e2 c128 hlt8 hk
          obtain ⟨p, hp⟩ : ∃ p, padS l = p := ⟨_, rfl⟩
          rw [hp] at K0 hj hpl hkp
          have HP := Lib.hid hp
          clear hp
          replace K0 := Lib.hid K0
          gi_wp2
          gi_loopw [39] (fun _ wr => ∃ m : Nat, 64 * m ≤ p.length ∧ Blk wr b 9 #[.string (bs (p.drop (64 * m)))] ∧ J (chunks m p) () wr) (fun _ wr => boxLen b wr)
          case atStart => exact ⟨k, hkp, K0.out, hj⟩
          case round =>
            clear K0 hj hkp
            obtain ⟨m, hm, K0, hj⟩ := hrel
            have hbl := boxLen_of K0
            obtain ⟨q, hq⟩ : ∃ q, p.drop (64 * m) = q := ⟨_, rfl⟩
            have hql : q.length = p.length - 64 * m := by rw [← hq]; simp
            rw [hq] at K0 hbl
            have HQ := Lib.hid hq
            have HQL := Lib.hid hql
            have HBL := Lib.hid hbl
            clear hq hbl
            replace K0 := Lib.hid K0
            by_cases hlt : 64 ≤ q.length
            · obtain ⟨fn, tmps, assign, body, hy, hR⟩ := hY (chunks m p) (q.take 64) () wr hj (by unfold AtBlock; simp; omega)
              have hne : q.isEmpty = false := by
                cases q with
                | nil => simp at hlt
                | cons => rfl
              clear hql
              (have k0 := Blk.cell K0.out; have f0 := Blk.free K0.out; have l0 := Blk.lt K0.out; have m0 := Nat.le_of_lt l0)
              gi_wp2
              refine hR.mono ?_
              rintro e W3 (⟨rfl, hJ3, hk3⟩ | ⟨rfl, hJx3⟩)
              · have K1 := Lib.hid (show Blk W3 b _ _ from Eq.trans hk3 K0.out)
                clear k0 f0 l0 m0 K0 hk3
                (have k1 := Blk.cell K1.out; have f1 := Blk.free K1.out; have l1 := Blk.lt K1.out; have m1 := Nat.le_of_lt l1)
                gi_wp2
                have K2 := K1.out.set_ 0 (.string (bs (q.drop 64)))
                simp only [List.setIfInBounds_toArray, List.set_cons_zero] at K2
                have hql := HQL.out
                go_roundw
                case rel => exact ⟨m + 1, by omega, by rw [show 64 * (m + 1) = 64 * m + 64 by omega, ← List.drop_drop, HQ.out]; exact K2, by rw [chunks_succ, HQ.out]; exact hJ _ _ _ _ _ hJ3 (grownBy_setCell' _ _ _)⟩
                case measure => rw [HBL.out, boxLen_of K2]; simp; omega
              · gi_wp2
                refine bodyPost_ret (results_none rfl _ _ _) rfl ?_
                exact ⟨⟨_, rfl⟩, .inr ⟨_, (), trivial, hJx3⟩⟩
            · have hq0 : q = [] := List.eq_nil_of_length_eq_zero (by omega)
              have hmT : m = p.length / 64 := by omega
              subst hq0
              (have k0 := Blk.cell K0.out; have f0 := Blk.free K0.out; have l0 := Blk.lt K0.out; have m0 := Nat.le_of_lt l0)
              gi_wp2
              go_end0
              exact ⟨⟨_, rfl⟩, .inl ⟨_, (), by rw [HP.out, ← hmT], hj⟩⟩

theorem blocks_stops (n : Nat) (hn : 1 ≤ n) (b : Nat) (l : List UInt8) (hl : l.length ≤ 140737488355328) (w : World) (hb : Blk w b 9 #[.string (bs l)]) :
    SeqSt Fence.wide n Tryd.prog 96 #[.pointer (some ⟨b, 0, none⟩)] (fun y : List UInt8 => #[.string (bs y)]) AtBlock (KeepS b) (OwnStep b) () (fun xs => xs = chunks ((padS l).length / 64) (padS l)) (fun _ => True) w :=
  fun lp J Jx W hW hJ hJx hY h0 => blocks1_in n hn lp b l hl J Jx hJ hJx hY W (hb.on hW hb.lt) h0
theorem blocks_in (n : Nat) (s : ByteArray) (w : World) :
    CallsIn Fence.wide n Tryd.prog 59 #[.string s] w fun e w' => e = .returned (.func (.func 96) #[] #[.pointer (some ⟨w.heap.size, 0, none⟩)]) ∧ w' = w.alloc (.cells #[.string s] 9) := by
  refine callsIn_of_wp Tryd.func59 rfl trivial ?_ rfl
  simp only [Tryd.ntmps59, List.size_toArray, List.length_cons, List.length_nil, Nat.reduceAdd, Nat.reduceSub, Array.replicate_succ, Array.replicate_zero, List.push_toArray, List.append_toArray, List.nil_append, List.cons_append]
  gi_wp2
  go_ret
  exact ⟨rfl, rfl⟩
end Go.Proofs.YtpmmjomejackkaaDoor
