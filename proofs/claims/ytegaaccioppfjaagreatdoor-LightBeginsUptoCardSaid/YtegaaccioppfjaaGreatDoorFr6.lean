/- What the later texts stand on (Strs, Bs, Sha4, Sha5, SeqB, RowB, App, Lrow, Sha6, Sha7): plain laws and walks, each by its own conditions. -/
import Derived.Test.YtegaaccioppfjaaGreatDoorFr2
import Derived.Carry
import Derived.SliceStrings
import Derived.Deep.DeepHandedRow
import Derived.Lib.LaidTab
import Derived.Test.YtegaaccioppfjaaGreatDoorShelf
import Derived.RegionTactic
import Derived.ChangeAlike
import Derived.Deep.MidRow
import Derived.Lib.FrozenHead
import Derived.Laws.OwnMore
import Derived.Test.YtegaaccioppfjaaGreatDoorFr9
import Derived.Deep.AppendLies
import Derived.Maps.OwnIn
set_option linter.unusedSimpArgs false
set_option linter.unusedVariables false
section
namespace Go.Proofs.YtegaaccioppfjaaGreatDoor
open Go.ChangeShapes Go.WideShapes Go.ChangeAt Go.RowKit Go.Joins
set_option maxRecDepth 100000

/-- a slice's address leads to these texts -/
def Strs (w : World) (A : Option Addr) (xs : List ByteArray) : Prop :=
 0 < xs.length → ∃ b o, A = some ⟨b, o, none⟩ ∧ b < w.heap.size ∧ ∀ (i : Nat) (x : ByteArray), xs[i]? = some x → w.cell? ⟨b, o + i, none⟩ = some (.string x)
theorem Strs.nil (w : World) (A : Option Addr) : Strs w A [] := fun h => absurd h (by simp)
theorem Strs.keep {w w' : World} {A : Option Addr} {xs : List ByteArray} (h : Strs w A xs) (hz : w.heap.size ≤ w'.heap.size) (hk : ∀ b o, b < w.heap.size → w'.cell? ⟨b, o, none⟩ = w.cell? ⟨b, o, none⟩) : Strs w' A xs := fun h0 => by
 obtain ⟨b, o, ha, hb, hc⟩ := h h0
 exact ⟨b, o, ha, by omega, fun i x hx => (hk _ _ hb).trans (hc i x hx)⟩
theorem Strs.below {w w' : World} {A : Option Addr} {xs : List ByteArray} (h : Strs w A xs) (hb : Below w.heap.size w w') : Strs w' A xs := h.keep hb.size fun b o hp => hb.cell (p := ⟨b, o, none⟩) hp
/-- .. of cells at an address -/
theorem Strs.mk {w : World} {b o : Nat} {xs : List ByteArray} (hb : b < w.heap.size) (h : ∀ (i : Nat) (x : ByteArray), xs[i]? = some x → w.cell? ⟨b, o + i, none⟩ = some (.string x)) : Strs w (some ⟨b, o, none⟩) xs := fun _ => ⟨b, o, rfl, hb, h⟩

section
variable {H : Type} {enc : TypeId × Value → H} {P : Program}
/-- arguments read behind the call as they did -/
theorem stays_all (hl : laidOutB P = true) {W W' : World} (hb : Below W.heap.size W W') : ∀ {ts : List TypeId} {vs : List Value} {ds : List (DataW H)} {ps : List MemPlace},
  (ts.all fun t => P.readableRec t && decide (t < P.types.size)) = true → DataW.TrodAll enc P W 0 (fun _ => true) true ts vs ds ps → (∀ x ∈ ps, x.block < W.heap.size) →
  ∀ sp : Nat → Bool, (∀ x ∈ ps, sp x.block = true) → DataW.TrodAll enc P W' 0 sp true ts vs ds ps := by
 intro ts
 induction ts with
 | nil =>
  intro vs ds ps _ h _ sp _
  obtain ⟨rfl, rfl, rfl⟩ := trodAll_nil h
  exact trodAll_mk0
 | cons t ts ih =>
  intro vs ds ps hr h hlt sp hsp
  obtain ⟨v, vs', d, ds', p, p', rfl, rfl, rfl, h0, h1⟩ := trodAll_cons h
  simp only [List.all_cons, Bool.and_eq_true, decide_eq_true_eq] at hr
  exact trodAll_cons_mk (WideElems.Trod_stays hl hr.1.1 hr.1.2 h0 (fun x hx => hb.same (hlt x (by simp [hx]))) (fun x hx => hsp x (by simp [hx])))
   (ih hr.2 h1 (fun x hx => hlt x (by simp [hx])) sp (fun x hx => hsp x (by simp [hx])))
end
theorem laidOut : laidOutB Tryz.prog = true := by kernel_rfl

section
variable {H : Type} {enc : TypeId × Value → H} {w : World} {base : Nat} {spare : Nat → Bool} {held : Bool} {r : Reach} {b0 : Nat} {v : Value} {d : DataW H} {p : List MemPlace}
end
end Go.Proofs.YtegaaccioppfjaaGreatDoor
end
section
namespace Go.Proofs.YtegaaccioppfjaaGreatDoor
open BigFrame Go.RowKit Go.Phx Go.Shelf
attribute [local go_sem] Oper.semAt_some

/-- a list of bytes as a text -/
def bs (l : List UInt8) : ByteArray := ⟨l.toArray⟩
theorem bs_list (l : List UInt8) : (bs l).data.toList = l := rfl
theorem bs_of (s : ByteArray) : bs s.data.toList = s := rfl
@[go_sem] theorem bs_size (l : List UInt8) : (bs l).size = l.length := by simp [bs, ByteArray.size]
@[go_sem] theorem bs_toList (l : List UInt8) : (bs l).toList = l := by
 rw [ByteArray.toList_eq]
 rfl
@[go_sem] theorem bs_app (a b : List UInt8) : bs a ++ bs b = bs (a ++ b) := by
 apply ByteArray.ext
 simp [bs, ByteArray.data_append]
theorem bs_ext (l : List UInt8) (a b : Nat) : (bs l).extract a b = bs ((l.drop a).take (b - a)) := by
 apply ByteArray.ext
 simp [bs, ByteArray.data_extract]
@[go_sem] theorem bs_take (l : List UInt8) (b : Nat) : (bs l).extract 0 b = bs (l.take b) := by rw [bs_ext]; simp
@[go_sem] theorem bs_drop (l : List UInt8) (a : Nat) : (bs l).extract a l.length = bs (l.drop a) := by
 rw [bs_ext, List.take_of_length_le (by simp)]
theorem conv1 (W : World) (t : TypeId) (a : Int) (k : Nat) : (convert 108 9 (.slice (some ⟨W.heap.size, 0, none⟩) 1 k)).run Tryz.prog (W.alloc (.cells #[.int .u8 a] t)) =
  .ok (.string (bs [UInt8.ofNat a.toNat])) (W.alloc (.cells #[.int .u8 a] t)) := by
 have hs : Tryz.prog.underlying 108 = some (.slice 5) := by kernel_rfl
 have he : Tryz.prog.underlying 5 = some (.int .u8) := by kernel_rfl
 have hd : Tryz.prog.underlying 9 = some .string := by kernel_rfl
 exact run_convert_bytes_arg _ _ _ hs he W.heap.size 0 1 k [a] rfl (fun i hi => by
  have hK := Blk.new0 W t #[.int .u8 a]
  rw [hK.cell]
  obtain rfl : i = 0 := by omega
  rfl) _ hd
theorem conv1d (W : World) (t : TypeId) (a : Int) (k : Nat) : (convert 108 9 (.slice (some ⟨W.heap.size, 0, none⟩) 1 k)).run Tryz.prog (W.alloc (.cells #[.int .u8 a] t)).drew =
  .ok (.string (bs [UInt8.ofNat a.toNat])) (W.alloc (.cells #[.int .u8 a] t)).drew := by
 have hs : Tryz.prog.underlying 108 = some (.slice 5) := by kernel_rfl
 have he : Tryz.prog.underlying 5 = some (.int .u8) := by kernel_rfl
 have hd : Tryz.prog.underlying 9 = some .string := by kernel_rfl
 exact run_convert_bytes_arg _ _ _ hs he W.heap.size 0 1 k [a] rfl (fun i hi => by
  have hK := (Blk.new0 W t #[.int .u8 a]).drew
  rw [hK.cell]
  obtain rfl : i = 0 := by omega
  rfl) _ hd
attribute [go_sem] conv1 conv1d
/-- how long the text in a variable is -/
def boxLen (b : Nat) (w : World) : Nat := match w.cell? ⟨b, 0, none⟩ with
 | some (.string s) => s.size
 | _ => 0
theorem boxLen_of {b : Nat} {w : World} {t : TypeId} {l : List UInt8} (h : Blk w b t #[.string (bs l)]) : boxLen b w = l.length := by
 unfold boxLen
 rw [h.cell 0]
 exact bs_size l
theorem Blk.grown {w w' : World} {g : Nat} {t : TypeId} {cs : Array Value} {row : Option Nat} (h : Blk w g t cs) (hg : w.grownBy w' row) (hn : some g ≠ row) : Blk w' g t cs := (hg.block g h.lt hn).trans h
theorem HasK.grown {w w' : World} {row : Option Nat} (h : HasK w) (hg : w.grownBy w' row) (hn : some 0 ≠ row) : HasK w' :=
 ⟨fun i hi => (World.cell?_of_block (w := w) (a := ⟨0, i, none⟩) (hg.block _ h.2 hn)).trans (h.1 i hi), Nat.lt_of_lt_of_le h.2 hg.size⟩
theorem keepsOthers_row {W W' : World} {b : Nat} {t : TypeId} {cs : Array Value} (h : Blk W b t cs) (hg : W.grownBy W' (some b)) : KeepsOthers W W' :=
 KeepsOthers.of_grownBy hg fun j o e ho => by
  cases e
  unfold Blk at h
  rw [h] at ho
  injection ho with ho
  subst ho
  rfl
theorem below_row {w W W' : World} {b : Nat} (h : Below w.heap.size w W) (hg : W.grownBy W' (some b)) (hb : w.heap.size ≤ b) : Below w.heap.size w W' := h.grown hg h.size fun k e => by injection e with e; omega

/-- a row of N bytes, the first k of L laid -/
def bcells (N : Nat) (L : List UInt8) (k : Nat) : Array Value := ((L.take k ++ List.replicate (N - k) 0).map fun c : UInt8 => Value.int .u8 (c.toNat : Int)).toArray
theorem bcells_set (N : Nat) (L : List UInt8) (k : Nat) (hk : k < N) (hL : L.length = N) (v : Int) (hv : v = ((L.getD k 0).toNat : Int)) : (bcells N L k).setIfInBounds k (.int .u8 v) = bcells N L (k + 1) := by
 subst hv
 unfold bcells
 rw [List.setIfInBounds_toArray, ← List.map_set (f := fun c : UInt8 => Value.int .u8 (c.toNat : Int)), List.set_append_right _ _ (by simp; omega)]
 congr 1
 congr 1
 rw [List.length_take, show k - min k L.length = 0 by omega, show N - k = (N - (k + 1)) + 1 by omega, List.replicate_succ, List.set_cons_zero, List.take_add_one, List.getElem?_eq_getElem (by omega), List.append_assoc]
 simp [List.getD, List.getElem?_eq_getElem (show k < L.length by omega)]
theorem bcells_at (N : Nat) (L : List UInt8) (k : Nat) (hk : k < N) (hL : L.length = N) : (bcells N L k)[k]? = some (.int .u8 0) := by
 unfold bcells
 rw [List.getElem?_toArray, List.getElem?_map, List.getElem?_append_right (by simp; omega), List.getElem?_replicate, if_pos (by simp; omega)]
 rfl
theorem bcells_all (N : Nat) (L : List UInt8) (hL : L.length = N) : bcells N L N = (L.map fun c : UInt8 => Value.int .u8 (c.toNat : Int)).toArray := by
 unfold bcells
 rw [List.take_of_length_le (by omega), Nat.sub_self]
 simp
theorem strOfNums_map (L : List UInt8) : strOfNums (L.map fun c : UInt8 => (c.toNat : Int)) = bs L := by
 unfold strOfNums bs
 rw [List.map_map]
 have e : ((fun n : Int => UInt8.ofNat n.toNat) ∘ fun c : UInt8 => (c.toNat : Int)) = id := by
  funext c
  simp
 rw [e, List.map_id]
/-- a row of bytes as a text -/
theorem conv_row (W : World) (g : Nat) (t : TypeId) (L : List UInt8) (n c : Nat) (h : Blk W g t (L.map fun c : UInt8 => Value.int .u8 (c.toNat : Int)).toArray) (hn : L.length = n) :
  (convert 108 9 (.slice (some ⟨g, 0, none⟩) n c)).run Tryz.prog W = .ok (.string (bs L)) W := by
 have hs : Tryz.prog.underlying 108 = some (.slice 5) := by kernel_rfl
 have he : Tryz.prog.underlying 5 = some (.int .u8) := by kernel_rfl
 have hd : Tryz.prog.underlying 9 = some .string := by kernel_rfl
 have := run_convert_bytes_arg (P := Tryz.prog) W _ _ hs he g 0 n c (L.map fun c : UInt8 => (c.toNat : Int)) (by simpa using hn) (fun i hi => by
  rw [h.cell]
  simp [List.getD, List.getElem?_eq_getElem (show i < L.length by omega)]) _ hd
 rw [this, strOfNums_map]
end Go.Proofs.YtegaaccioppfjaaGreatDoor
end
section
namespace Go.Proofs.YtegaaccioppfjaaGreatDoor
open BigFrame Go.RowKit Go.Phx Go.Shelf
attribute [local go_sem] Oper.semAt_some

theorem repeat0 (c : Nat) (hc : c ≤ 65536) (w : World) : Calls Tryz.prog 148 #[.string { data := #[0] }, .int .i64 c] w (Ret w (.string (bs (List.replicate c 0)))) := by
 refine (Tryz.strings_Repeat (bs [0]) c w (by omega) (by rw [bs_size]; simp; omega)).mono ?_
 rintro e w' ⟨rfl, hB⟩
 have e1 : Lib.repeatL (bs [0]).data.toList c = List.replicate c 0 := by
  rw [bs_list]
  induction c with
  | zero => rfl
  | succ c ih => rw [List.replicate_succ, ← ih (by omega)]; rfl
 rw [e1]
 exact ⟨rfl, hB⟩
/-- the first blocks of 64 -/
def chunks (n : Nat) (l : List UInt8) : List (List UInt8) := (List.range n).map fun i => (l.drop (64 * i)).take 64
theorem chunks_succ (n : Nat) (l : List UInt8) : chunks (n + 1) l = chunks n l ++ [(l.drop (64 * n)).take 64] := by
 unfold chunks
 rw [List.range_succ, List.map_append]
 rfl
theorem padS_len (l : List UInt8) : (padS l).length % 64 = 0 := by
 unfold padS tail64
 simp
 omega
theorem pad_drop (l : List UInt8) (k : Nat) (hk : k = l.length / 64) (r : List UInt8) (hr : l.drop (64 * k) = r) (c : Nat) (hc : (119 - r.length) % 64 = c) :
  r ++ 128 :: List.replicate c 0 ++ (List.range 8).map (fun i => UInt8.ofNat (8 * l.length / 2 ^ (56 - 8 * i))) = (padS l).drop (64 * k) := by
 have hl : r.length = l.length % 64 := by rw [← hr]; simp; omega
 unfold padS tail64
 rw [List.drop_append_of_le_length (by omega), hr, ← hc, hl]
 simp
theorem chunks_pad (l : List UInt8) (k : Nat) (hk : 64 * k ≤ l.length) : chunks k l = chunks k (padS l) := by
 unfold chunks
 apply List.map_congr_left
 intro i hi
 have hi := List.mem_range.1 hi
 unfold padS
 rw [List.drop_append_of_le_length (by omega), List.take_append_of_le_length (by simp; omega)]
/-- what the iterator does to memory: its own variable alone, beside new memory -/
def OwnStep (b : Nat) (_ : Unit) (W : World) (_ : Unit) (W' : World) : Prop := W.grownBy W' (some b)
def KeepS (b : Nat) (_ : Unit) (W W' : World) : Prop := KeepB b W W'
def AtBlock (_ : List (List UInt8)) (y : List UInt8) (_ : Unit) (_ : World) : Prop := y.length = 64

set_option maxRecDepth 100000 in
set_option maxHeartbeats 8000000 in
theorem blocks1_in (n : Nat) (hn : 1 ≤ n) (lp : Nat) (b : Nat) (l : List UInt8) (hl : l.length ≤ 140737488355328) (J Jx : List (List UInt8) → Unit → World → Prop)
  (hJ : ∀ s x A y B, J s x A → OwnStep b x A y B → J s y B) (hJx : ∀ s x A y B, Jx s x A → OwnStep b x A y B → Jx s y B)
  (hY : ∀ pre y x A, J pre x A → AtBlock pre y x A → YieldAt Fence.wide (n - 1) Tryz.prog lp #[.string (bs y)] A fun e B =>
   (e = .returned (.bool true) ∧ J (pre ++ [y]) x B ∧ KeepS b x A B) ∨ (e = .returned (.bool false) ∧ Jx (pre ++ [y]) x B))
  (w : World) (hb : Blk w b 9 #[.string (bs l)]) (h0 : J [] () w) :
  CallsIn Fence.wide n Tryz.prog 196 #[.func (.yield lp) #[] #[], .pointer (some ⟨b, 0, none⟩)] w fun e B => (∃ v, e = .returned v) ∧
   ((∃ xs x, xs = chunks ((padS l).length / 64) (padS l) ∧ J xs x B) ∨ (∃ pre x, True ∧ Jx pre x B)) := by
 refine callsIn_of_wp Tryz.func196 rfl trivial ?_ rfl
 simp only [Tryz.ntmps196, List.size_toArray, List.length_cons, List.length_nil, Nat.reduceAdd, Nat.reduceSub, Array.replicate_succ, Array.replicate_zero, List.push_toArray, List.append_toArray, List.nil_append, List.cons_append]
 have K0 := Lib.hid hb
 clear hb
 (obtain ⟨k0, f0, l0, m0⟩ := K0.out.rl)
 gi_wp2
 gi_loopw [8] (fun _ wr => ∃ k : Nat, 64 * k ≤ l.length ∧ Blk wr b 9 #[.string (bs (l.drop (64 * k)))] ∧ J (chunks k l) () wr) (fun _ wr => boxLen b wr)
 case atStart => exact ⟨0, Nat.zero_le _, K0.out, h0⟩
 case round =>
  clear K0 k0 f0 l0 m0 h0
  obtain ⟨k, hk, K0, hj⟩ := hrel
  have hbl := boxLen_of K0
  obtain ⟨r, hr⟩ : ∃ r, l.drop (64 * k) = r := ⟨_, rfl⟩
  have hrl : r.length = l.length - 64 * k := by rw [← hr]; simp
  rw [hr] at K0 hbl
  have HR := Lib.hid hr
  have HRL := Lib.hid hrl
  have HBL := Lib.hid hbl
  clear hr hbl
  replace K0 := Lib.hid K0
  by_cases hlt : 64 ≤ r.length
  ·obtain ⟨fn, tmps, assign, body, hy, hR⟩ := hY (chunks k l) (r.take 64) () wr hj (by unfold AtBlock; simp; omega)
   clear hrl
   (obtain ⟨k0, f0, l0, m0⟩ := K0.out.rl)
   gi_wp2
   refine hR.mono ?_
   rintro e W3 (⟨rfl, hJ3, hk3⟩ | ⟨rfl, hJx3⟩)
   ·have K1 := Lib.hid (show Blk W3 b _ _ from Eq.trans hk3 K0.out)
    clear k0 f0 l0 m0 K0 hk3
    (obtain ⟨k1, f1, l1, m1⟩ := K1.out.rl)
    gi_wp2
    have K2 := K1.out.set_ 0 (.string (bs (r.drop 64)))
    simp only [List.setIfInBounds_toArray, List.set_cons_zero] at K2
    have hrl := HRL.out
    go_roundw
    case rel => exact ⟨k + 1, by omega, by rw [show 64 * (k + 1) = 64 * k + 64 by omega, ← List.drop_drop, HR.out]; exact K2, by rw [chunks_succ, HR.out]; exact hJ _ _ _ _ _ hJ3 (grownBy_setCell' _ _ _)⟩
    case measure => rw [HBL.out, boxLen_of K2]; simp; omega
   ·gi_wp2
    refine bodyPost_ret (results_none rfl _ _ _) rfl ?_
    exact ⟨⟨_, rfl⟩, .inr ⟨_, _, trivial, hJx3⟩⟩
  ·have hc : k = l.length / 64 := by omega
   clear hrl
   (obtain ⟨k0, f0, l0, m0⟩ := K0.out.rl)
   gi_wp2
   refine wpIn_wide.2 ?_
   have e1 : IntKind.i64.wrap (119 - ↑r.length) = ((119 - r.length : Nat) : Int) := by rw [IntWalk.i64_in _ (by omega)]; omega
   obtain ⟨c, hc0⟩ : ∃ c, (119 - r.length) % 64 = c := ⟨_, rfl⟩
   have hc1 : c < 64 := by omega
   have e2 : ((119 - r.length : Nat) : Int) % 64 = (c : Int) := by omega
   have HC0 := Lib.hid hc0
   have HC := Lib.hid hc
   clear hc0 hc
   have c128 : (⟨#[128]⟩ : ByteArray) = bs [128] := rfl
   (refine wp_region_later_tail 8 (by kernel_rfl) (by kernel_rfl) ?_; simp only [List.take_succ_cons, List.take_zero, List.drop_succ_cons, List.drop_zero]; (repeat (go_big_quiet_step ((go_at_call 148; exact lq (repeat0 c (by omega) _))))); refine wpQuiet_nil ?_; intro w' hB)
   have K1 := Lib.hid (K0.out.below hB)
   have G := grown_of (b := b) hB
   clear k0 f0 l0 m0 K0 hB
   (obtain ⟨k1, f1, l1, m1⟩ := K1.out.rl)
   go_wp2_with fail
   gi_wp2
   have K2 := K1.out.set_ 0 (.string (bs (r ++ 128 :: List.replicate c 0)))
   simp only [List.setIfInBounds_toArray, List.set_cons_zero] at K2
   replace G := grown_set (i := 0) (u := .string (bs (r ++ 128 :: List.replicate c 0))) G
   have hj2 := hJ _ () _ () _ hj G
   clear k1 f1 l1 m1 K1 G hj
   generalize w'.setCell ⟨b, 0, none⟩ (.string (bs (r ++ 128 :: List.replicate c 0))) = w2 at K2 hj2 ⊢
   gi_loopw [4] (fun i wr => ∃ j : Nat, j ≤ 8 ∧ i = .int .i64 (56 - 8 * j) ∧ Blk wr b 9 #[.string (bs (r ++ 128 :: List.replicate c 0 ++ (List.range j).map fun i => UInt8.ofNat (8 * l.length / 2 ^ (56 - 8 * i))))] ∧ J (chunks k l) () wr) (fun i _ => (intOf i + 8).toNat)
   case atStart => exact ⟨0, by omega, rfl, by simpa using K2, hj2⟩
   case round =>
    clear K2 hj2
    obtain ⟨j, hj8, rfl, K0, hj⟩ := hrel
    by_cases hlt8 : j < 8
    ·obtain ⟨q, hq⟩ : ∃ q, (r ++ 128 :: List.replicate c 0 ++ (List.range j).map fun i => UInt8.ofNat (8 * l.length / 2 ^ (56 - 8 * i))) = q := ⟨_, rfl⟩
     rw [hq] at K0
     have HQ := Lib.hid hq
     clear hq
     replace K0 := Lib.hid K0
     (obtain ⟨k0, f0, l0, m0⟩ := K0.out.rl)
     gi_wp2
     refine wpIn_wide.2 ?_
     have hb0 := k0 0
     have hbf := f0 0
     simp only [List.getElem?_toArray, List.getElem?_cons_zero] at hb0
     have hql : q.length ≤ 300 := by rw [← HQ.out]; simp; omega
     clear k0 f0
     go_region
     have hv : UInt8.ofNat (8 * (l.length : Int) / 2 ^ (56 - 8 * j) % 256).toNat = UInt8.ofNat (8 * l.length / 2 ^ (56 - 8 * j)) := by
      have e : (8 * (l.length : Int) / 2 ^ (56 - 8 * j)) = ((8 * l.length / 2 ^ (56 - 8 * j) : Nat) : Int) := by simp
      rw [e]
      generalize 8 * l.length / 2 ^ (56 - 8 * j) = m
      apply UInt8.toNat_inj.1
      simp
      omega
     rw [hv]
     clear hv hb0 hbf
     have K1 := (((K0.out.set_ 0 (.string (bs (q ++ [UInt8.ofNat (8 * l.length / 2 ^ (56 - 8 * j))])))).alloc (.cells #[.int .u8 (8 * ↑l.length / 2 ^ (56 - 8 * j) % 256)] 5)).drew)
     simp only [List.setIfInBounds_toArray, List.set_cons_zero] at K1
     have hj2 := hJ _ () _ () _ hj (show OwnStep b () wr () (((wr.setCell ⟨b, 0, none⟩ (.string (bs (q ++ [UInt8.ofNat (8 * l.length / 2 ^ (56 - 8 * j))])))).alloc (.cells #[.int .u8 (8 * ↑l.length / 2 ^ (56 - 8 * j) % 256)] 5)).drew) from grown_on (grownBy_setCell' _ _ _) (((Below.refl _ _).alloc (Nat.le_refl _) _).drew))
     gi_wp2
     go_roundw
     case rel => exact ⟨j + 1, by omega, by congr 1; omega, by rw [List.range_succ, List.map_append, ← List.append_assoc, HQ.out]; exact K1, hj2⟩
     case measure => simp [intOf]; omega
    ·obtain rfl : j = 8 := by omega
     simp only [show (56 : Int) - 8 * ((8 : Nat) : Int) = -8 from rfl]
     rw [pad_drop l k HC.out r HR.out c HC0.out] at K0
     rw [chunks_pad l k hk] at hj
     have hpl := padS_len l
     have hkp : 64 * k ≤ (padS l).length := by unfold padS; simp; omega
     clear HC HR HC0 HRL HBL hlt hc1 e1 e2 c128 hlt8 hk
     obtain ⟨p, hp⟩ : ∃ p, padS l = p := ⟨_, rfl⟩
     rw [hp] at K0 hj hpl hkp
     have HP := Lib.hid hp
     clear hp
     replace K0 := Lib.hid K0
     gi_wp2
     gi_loopw [39] (fun _ wr => ∃ m : Nat, 64 * m ≤ p.length ∧ Blk wr b 9 #[.string (bs (p.drop (64 * m)))] ∧ J (chunks m p) () wr) (fun _ wr => boxLen b wr)
     case atStart => exact ⟨k, hkp, K0.out, hj⟩
     case round =>
      clear K0 hj hkp
      obtain ⟨m, hm, K0, hj⟩ := hrel
      have hbl := boxLen_of K0
      obtain ⟨q, hq⟩ : ∃ q, p.drop (64 * m) = q := ⟨_, rfl⟩
      have hql : q.length = p.length - 64 * m := by rw [← hq]; simp
      rw [hq] at K0 hbl
      have HQ := Lib.hid hq
      have HQL := Lib.hid hql
      have HBL := Lib.hid hbl
      clear hq hbl
      replace K0 := Lib.hid K0
      by_cases hlt : 64 ≤ q.length
      ·obtain ⟨fn, tmps, assign, body, hy, hR⟩ := hY (chunks m p) (q.take 64) () wr hj (by unfold AtBlock; simp; omega)
       have hne : q.isEmpty = false := by
        cases q with
        | nil => simp at hlt
        | cons => rfl
       clear hql
       (obtain ⟨k0, f0, l0, m0⟩ := K0.out.rl)
       gi_wp2
       refine hR.mono ?_
       rintro e W3 (⟨rfl, hJ3, hk3⟩ | ⟨rfl, hJx3⟩)
       ·have K1 := Lib.hid (show Blk W3 b _ _ from Eq.trans hk3 K0.out)
        clear k0 f0 l0 m0 K0 hk3
        (obtain ⟨k1, f1, l1, m1⟩ := K1.out.rl)
        gi_wp2
        have K2 := K1.out.set_ 0 (.string (bs (q.drop 64)))
        simp only [List.setIfInBounds_toArray, List.set_cons_zero] at K2
        have hql := HQL.out
        go_roundw
        case rel => exact ⟨m + 1, by omega, by rw [show 64 * (m + 1) = 64 * m + 64 by omega, ← List.drop_drop, HQ.out]; exact K2, by rw [chunks_succ, HQ.out]; exact hJ _ _ _ _ _ hJ3 (grownBy_setCell' _ _ _)⟩
        case measure => rw [HBL.out, boxLen_of K2]; simp; omega
       ·gi_wp2
        refine bodyPost_ret (results_none rfl _ _ _) rfl ?_
        exact ⟨⟨_, rfl⟩, .inr ⟨_, (), trivial, hJx3⟩⟩
      ·have hq0 : q = [] := List.eq_nil_of_length_eq_zero (by omega)
       have hmT : m = p.length / 64 := by omega
       subst hq0
       (obtain ⟨k0, f0, l0, m0⟩ := K0.out.rl)
       gi_wp2
       go_end0
       exact ⟨⟨_, rfl⟩, .inl ⟨_, (), by rw [HP.out, ← hmT], hj⟩⟩

theorem blocks_stops (n : Nat) (hn : 1 ≤ n) (b : Nat) (l : List UInt8) (hl : l.length ≤ 140737488355328) (w : World) (hb : Blk w b 9 #[.string (bs l)]) :
  SeqSt Fence.wide n Tryz.prog 196 #[.pointer (some ⟨b, 0, none⟩)] (fun y : List UInt8 => #[.string (bs y)]) AtBlock (KeepS b) (OwnStep b) () (fun xs => xs = chunks ((padS l).length / 64) (padS l)) (fun _ => True) w :=
 fun lp J Jx W hW hJ hJx hY h0 => blocks1_in n hn lp b l hl J Jx hJ hJx hY W (hb.on hW hb.lt) h0
theorem blocks_in (n : Nat) (s : ByteArray) (w : World) :
  CallsIn Fence.wide n Tryz.prog 155 #[.string s] w fun e w' => e = .returned (.func (.func 196) #[] #[.pointer (some ⟨w.heap.size, 0, none⟩)]) ∧ w' = w.alloc (.cells #[.string s] 9) := by
 refine callsIn_of_wp Tryz.func155 rfl trivial ?_ rfl
 simp only [Tryz.ntmps155, List.size_toArray, List.length_cons, List.length_nil, Nat.reduceAdd, Nat.reduceSub, Array.replicate_succ, Array.replicate_zero, List.push_toArray, List.append_toArray, List.nil_append, List.cons_append]
 gi_wp2
 go_ret
 exact ⟨rfl, rfl⟩
end Go.Proofs.YtegaaccioppfjaaGreatDoor
end
section
namespace Go.Proofs.YtegaaccioppfjaaGreatDoor
open BigFrame Go.RowKit Go.Phx Go.Shelf
attribute [local go_sem] Oper.semAt_some

/-- texts, one behind the other -/
def cat (xs : List ByteArray) : List UInt8 := (xs.map fun s => s.data.toList).flatten
theorem join_cat (xs : List ByteArray) : Lib.join (xs.map fun s => s.data.toList) [] = cat xs := by
 unfold cat Lib.join
 generalize xs.map (fun s => s.data.toList) = ys
 induction ys with
 | nil => rfl
 | cons y ys ih =>
  cases ys with
  | nil => simp
  | cons z zs =>
   simp at ih ⊢
   exact ih
theorem join_calls (A : Option Addr) (c : Nat) (xs : List ByteArray) (w : World) (hs : Strs w A xs) (hc : xs.length ≤ c) (hN : xs.length ≤ 140737488355328) (hlen : (cat xs).length ≤ 140737488355328) :
  Calls Tryz.prog 156 #[.slice A xs.length c, .string { data := #[] }] w (Ret w (.string (bs (cat xs)))) := by
 rcases Nat.eq_zero_or_pos xs.length with h0 | h0
 ·obtain rfl := List.eq_nil_of_length_eq_zero h0
  refine (Tryz.strings_Join_none A c _ w).mono ?_
  rintro e w' ⟨rfl, rfl⟩
  exact ⟨rfl, Below.refl _ _⟩
 ·obtain ⟨b, o, rfl, hb, hcell⟩ := hs h0
  have := Tryz.strings_Join b o c xs ⟨#[]⟩ w hcell hb hN hc (by rw [show (⟨#[]⟩ : ByteArray).data.toList = [] from rfl, join_cat]; exact hlen)
  rw [show (⟨#[]⟩ : ByteArray).data.toList = [] from rfl, join_cat] at this
  exact this
theorem iv_cells : cS iv = #[.int .u32 1779033703, .int .u32 3144134277, .int .u32 1013904242, .int .u32 2773480762, .int .u32 1359893119, .int .u32 2600822924, .int .u32 528734635, .int .u32 1541459225] := rfl
/-- blocks taken in -/
def takes (pre : List (List UInt8)) : St := pre.foldl takeB iv
theorem takes_snoc (pre : List (List UInt8)) (y : List UInt8) : takes (pre ++ [y]) = takeB (takes pre) y := by simp [takes]
def SumI (w : World) (bh : Nat) (pre : List (List UInt8)) (W : World) : Prop := Blk W bh 151 (cS (takes pre)) ∧ HasK W ∧ Below w.heap.size w W
theorem takes_from (h : St) (n : Nat) (p : List UInt8) : (chunks n p).foldl takeB h = takeAll n h p := by
 induction n generalizing h p with
 | zero => rfl
 | succ n ih =>
  rw [takeAll, ← ih]
  unfold chunks
  rw [List.range_succ_eq_map, List.map_cons, List.foldl_cons, List.map_map]
  congr 1
  apply List.map_congr_left
  intro i _
  simp [List.drop_drop, Nat.mul_add, Nat.add_comm]
theorem takes_all (l : List UInt8) : (takes (chunks ((padS l).length / 64) (padS l))).bytes = sha l := by
 unfold takes
 rw [takes_from]
 rfl
def wS (v : St) : List Wd := [v.a, v.b, v.c, v.d, v.e, v.f, v.g, v.h]
theorem cS_words (v : St) : cS v = cw (wS v) := rfl
theorem bytes_len (v : St) : v.bytes.length = 32 := rfl
theorem sbyte_at (v : St) : ∀ k, k < 32 → v.bytes.getD k 0 = UInt8.ofNat (((wS v).getD (k / 4) 0).toNat / 2 ^ (24 - 8 * (k % 4)))
 | 0, _ => rfl
 | 1, _ => rfl
 | 2, _ => rfl
 | 3, _ => by simp [St.bytes, bytesW, wS]
 | 4, _ => rfl
 | 5, _ => rfl
 | 6, _ => rfl
 | 7, _ => by simp [St.bytes, bytesW, wS]
 | 8, _ => rfl
 | 9, _ => rfl
 | 10, _ => rfl
 | 11, _ => by simp [St.bytes, bytesW, wS]
 | 12, _ => rfl
 | 13, _ => rfl
 | 14, _ => rfl
 | 15, _ => by simp [St.bytes, bytesW, wS]
 | 16, _ => rfl
 | 17, _ => rfl
 | 18, _ => rfl
 | 19, _ => by simp [St.bytes, bytesW, wS]
 | 20, _ => rfl
 | 21, _ => rfl
 | 22, _ => rfl
 | 23, _ => by simp [St.bytes, bytesW, wS]
 | 24, _ => rfl
 | 25, _ => rfl
 | 26, _ => rfl
 | 27, _ => by simp [St.bytes, bytesW, wS]
 | 28, _ => rfl
 | 29, _ => rfl
 | 30, _ => rfl
 | 31, _ => by simp [St.bytes, bytesW, wS]
 | k + 32, h => absurd h (by omega)
theorem byte_of (v : St) (k : Nat) (hk : k < 32) : vw ((wS v).getD (k / 4) 0) / 2 ^ (24 - 8 * (k % 4)) % 256 = ((v.bytes.getD k 0).toNat : Int) := by
 rw [sbyte_at v k hk]
 generalize (wS v).getD (k / 4) 0 = x
 unfold vw
 have e : ((x.toNat : Int)) / 2 ^ (24 - 8 * (k % 4)) = ((x.toNat / 2 ^ (24 - 8 * (k % 4)) : Nat) : Int) := by simp
 rw [e]
 generalize x.toNat / 2 ^ (24 - 8 * (k % 4)) = m
 simp
set_option maxRecDepth 100000 in
set_option maxHeartbeats 8000000 in
theorem sum_calls (A : Option Addr) (c : Nat) (xs : List ByteArray) (w : World) (hk : HasK w) (hs : Strs w A xs) (hc : xs.length ≤ c) (hN : xs.length ≤ 140737488355328) (hlen : (cat xs).length ≤ 140737488355200) :
  Calls Tryz.prog 114 #[.slice A xs.length c] w (Ret w (.string (bs (sha (cat xs))))) := by
 refine (callsIn_wide (n := 9)).1 ?_
 have hwf : ∀ f, Fence.wide.fn f := fun _ => trivial
 refine callsIn_of_wp_marks Tryz.func114 rfl trivial ?_ rfl
 simp only [Tryz.ntmps114, List.size_toArray, List.length_cons, List.length_nil, Nat.reduceAdd, Nat.reduceSub, Array.replicate_succ, Array.replicate_zero, List.push_toArray, List.append_toArray, List.nil_append, List.cons_append]
 gi_wp2
 gi_wp2_with fail
 have hs1 := hs.below ((Below.refl w.heap.size w).alloc (Nat.le_refl _) (.cells (cS iv) 151))
 rw [iv_cells] at hs1
 refine (callsIn_wide.2 (join_calls A c xs _ hs1 hc hN (by omega))).mono ?_
 rintro e w1 ⟨rfl, hB1⟩
 gi_wp2_with (gi_at_call 155; refine (blocks_in _ _ _).mono ?_; rintro e w' ⟨rfl, rfl⟩)
 have hB2 : Below w.heap.size w w1 := Below.on hB1 ((Below.refl _ _).alloc (Nat.le_refl _) _)
 have hbh : w.heap.size < w1.heap.size := by have := hB1.size; simp at this; omega
 have K0 : Blk w1 w.heap.size 151 (cS iv) := (iv_cells ▸ Blk.new0 w _ _ : Blk (w.alloc (.cells #[.int .u32 1779033703, .int .u32 3144134277, .int .u32 1013904242, .int .u32 2773480762, .int .u32 1359893119, .int .u32 2600822924, .int .u32 528734635, .int .u32 1541459225] 151)) w.heap.size 151 (cS iv)).below hB1
 obtain ⟨b, hbe⟩ : ∃ b, w1.heap.size = b := ⟨_, rfl⟩
 obtain ⟨W0, hW0⟩ : ∃ W0, w1.alloc (.cells #[.string (bs (cat xs))] 9) = W0 := ⟨_, rfl⟩
 have hs0 : W0.heap.size = b + 1 := by rw [← hW0]; simp [hbe]
 have KS : Blk W0 b 9 #[.string (bs (cat xs))] := by rw [← hW0, ← hbe]; exact Blk.new0 _ _ _
 have hI0 : SumI w w.heap.size [] W0 := by
  rw [← hW0]
  exact ⟨K0.alloc _, (hk.from hB2 hk.2).alloc _, hB2.alloc (by omega) _⟩
 rw [hW0, hbe]
 rw [hbe] at hbh
 clear hW0 hbe K0 hB1 hs1
 have hf := enters_of Tryz.func196 (by kernel_rfl) rfl
 have hkl := hk.2
 refine wpIn_rangeFunc_st rfl (by decide) (gf := 196) (lb := #[.pointer (some ⟨b, 0, none⟩)]) rfl trivial hf
  (blocks_stops 8 (by decide) b (cat xs) (by omega) W0 KS) (fun _ => rfl) (fun _ _ _ _ h k => h.trans k) (fun _ W l o o' hl h1 h2 h3 => keepB_b (by omega) W l o o' hl h1 h2 h3)
  (fun _ A _ B k o hab hkk hA _ _ => (hab.block k (Array.getElem?_eq_some_iff.1 hA).1 (by intro e; injection e; omega)).trans hA)
  (fun _ _ _ _ _ _ _ h _ _ _ => h)
  (fun pre _ W => SumI w w.heap.size pre W ∧ b < W.heap.size) (fun _ _ _ _ => False)
  (fun _ s A B row h hg hr => ?own) (fun _ _ _ _ _ _ h _ _ => h)
  (fun s _ A _ B h hab => ?step) (fun _ _ _ _ _ _ h _ => h) ⟨hI0, by omega⟩
  (fun y => { tmps := #[.slice A xs.length c, undef, .string { data := #[] }, .pointer (some ⟨w.heap.size, 0, none⟩), .string (bs y), undef, undef, .agg #[.int .u32 1779033703, .int .u32 3144134277, .int .u32 1013904242, .int .u32 2773480762, .int .u32 1359893119, .int .u32 2600822924, .int .u32 528734635, .int .u32 1541459225],
   .slice A xs.length c, .string (bs (cat xs)), .func (.func 196) #[] #[.pointer (some ⟨b, 0, none⟩)], .string (bs y), undef, undef, undef, undef, undef, undef, undef, undef, undef, undef, undef, undef, undef, undef, undef, undef, undef, undef, undef, undef], defers := [] })
  ?assign ?body ?done ?stop
 case own =>
  obtain ⟨⟨h1, h2, h3⟩, hbx⟩ := h
  have hne : ∀ r, row = some r → W0.heap.size ≤ r := fun r e => (hr r e).1
  exact ⟨⟨h1.grown hg (fun e => by have := hne _ e.symm; omega), h2.grown hg (fun e => by have := hne _ e.symm; omega), h3.grown hg h3.size (fun k e => by have := hne k e; omega)⟩, Nat.lt_of_lt_of_le hbx hg.size⟩
 case step =>
  obtain ⟨⟨h1, h2, h3⟩, hbx⟩ := h
  exact ⟨⟨h1.grown hab (fun e => by injection e; omega), h2.grown hab (fun e => by injection e; omega), below_row h3 hab (by omega)⟩, Nat.lt_of_lt_of_le hbx hab.size⟩
 case assign =>
  intro l y W K hK
  gi_wp2
  exact hK
 case body =>
  rintro l pre y x W ⟨⟨h1, h2, h3⟩, hbx⟩ hy
  gi_wp2_with fail
  refine (CallsIn.inRound l (callsIn_wide.2 (take_calls w.heap.size (takes pre) (bs y) ((bs_size y).trans hy) W h2 h1 (by omega)))).mono ?_
  rintro e w2 ⟨rfl, hg, hb2⟩
  rw [bs_list, ← takes_snoc] at hb2
  gi_wp2
  exact ⟨keepsOthers_row h1 hg, (hg.block b hbx (by intro e; injection e; omega)), ⟨hb2, h2.grown hg (by intro e; injection e; omega), below_row h3 hg (Nat.le_refl _)⟩, Nat.lt_of_lt_of_le hbx hg.size⟩
 case done =>
  rintro D ys x W hD rfl ⟨⟨h1, h2, h3⟩, hbx⟩ hK
  have TA := Lib.hid (takes_all (cat xs))
  obtain ⟨V, hV⟩ : ∃ V, takes (chunks ((padS (cat xs)).length / 64) (padS (cat xs))) = V := ⟨_, rfl⟩
  rw [hV] at h1 TA
  have hB := h3
  have K1 := Lib.hid h1
  clear hV h1 h2 h3 hI0 KS hB2 hk hs
  gi_wp2
  have K0 := Lib.hid (Blk.new0 W 159 (bcells 32 V.bytes 0))
  have hBo := hB.alloc (by have := hB.size; omega) (.cells (bcells 32 V.bytes 0) 159)
  have hDo := (KeepsOthers.alloc W (.cells (bcells 32 V.bytes 0) 159)).same D _ hK rfl
  replace K1 := Lib.hid (K1.out.alloc (.cells (bcells 32 V.bytes 0) 159))
  have hwW : w.heap.size < W.heap.size := by omega
  gi_loopw [14] (fun i wr => ∃ k : Nat, k ≤ 32 ∧ i = .int .i64 k ∧ Blk wr W.heap.size 159 (bcells 32 V.bytes k) ∧ Blk wr w.heap.size 151 (cS V) ∧ Below w.heap.size w wr ∧ wr.heap[D]? = some (.deferred (some [])))
   (fun i _ => (32 - intOf i).toNat)
  case atStart => exact ⟨0, by omega, rfl, K0.out, K1.out, hBo, hDo⟩
  case round =>
   clear K0 K1 hBo hDo hB hK
   obtain ⟨k, hk, rfl, K0, K1, hB, hK⟩ := hrel
   by_cases hlt : k < 32
   ·have hx := byte_of V k hlt
    have hset := bcells_set 32 V.bytes k hlt (bytes_len V) _ hx
    rw [cS_words] at K1
    have g0 := cw_get (L := wS V) (i := k / 4) (by simp [wS]; omega)
    generalize (wS V).getD (k / 4) 0 = x at *
    have v1 := vw_nonneg x
    have HS := Lib.hid hset
    clear hset hx
    replace K0 := Lib.hid K0
    replace K1 := Lib.hid K1
    have hKD := Lib.hid hK
    clear hK
    (obtain ⟨k0, f0, l0, m0⟩ := K0.out.rl; obtain ⟨k1, f1, l1, m1⟩ := K1.out.rl)
    have gk := bcells_at 32 V.bytes k hlt (bytes_len V)
    gi_wp2
    go_roundw
    case rel => exact ⟨k + 1, by omega, by go_num, by rw [← HS.out]; exact K0.out.set_ _ _, by rw [cS_words]; exact K1.out.over (by simp; omega), hB.setCell (by have := hB.size; simp; omega) _, (KeepsOthers.setCell _ _ _).same D _ hKD.out rfl⟩
    case measure => simp [intOf]; omega
   ·obtain rfl : k = 32 := by omega
    rw [bcells_all 32 V.bytes (bytes_len V), TA.out] at K0
    have hcv := fun c => conv_row wr W.heap.size _ (sha (cat xs)) 32 c K0 (sha_len _)
    have hKD := Lib.hid hK
    have hKK := Lib.hid (KeepsOthers.refl wr)
    clear hK
    replace K0 := Lib.hid K0
    replace K1 := Lib.hid K1
    simp only [show ((32 : Nat) : Int) = 32 from rfl]
    gi_wp2
    refine ⟨by simp, .inl ⟨_, _, rfl, run_takeDeferred hKD.out, ?_⟩⟩
    exact ⟨.string (bs (sha (cat xs))), by simp [results, Tryz.results114, go_sem], rfl, below_shut hB (Nat.le_refl _) (by omega)⟩
 case stop =>
  rintro D c pre x W _ _ h _
  exact h.elim
end Go.Proofs.YtegaaccioppfjaaGreatDoor
end
section
namespace Go.Proofs.YtegaaccioppfjaaGreatDoor
open Go.RowKit Go.Phx Go.Shelf

/-- block g is just these cells now -/
def setRow (w : World) (g : Nat) (t : TypeId) (cs : Array Value) : World := w.putObj g (.cells cs t (0, 0))
theorem Blk.row {w : World} {g : Nat} {t : TypeId} {cs : Array Value} (hg : g < w.heap.size) : Blk (setRow w g t cs) g t cs := World.putObj_heap_same hg
theorem Blk.rowOver {w : World} {g g' : Nat} {t t' : TypeId} {cs cs' : Array Value} (hn : g ≠ g') (h : Blk w g t cs) : Blk (setRow w g' t' cs') g t cs := (World.putObj_heap_other hn).trans h
theorem grown_row (w : World) (g : Nat) (t : TypeId) (cs : Array Value) : w.grownBy (setRow w g t cs) (some g) := grownBy_putObj' _ _ _
theorem size_row (w : World) (g : Nat) (t : TypeId) (cs : Array Value) : (setRow w g t cs).heap.size = w.heap.size := by simp [setRow]
theorem Below.row {n : Nat} {w W : World} {g : Nat} {t : TypeId} {cs : Array Value} (h : Below n w W) (hg : n ≤ g) (hz : n ≤ W.heap.size) : Below n w (setRow W g t cs) := h.grown (grown_row _ _ _ _) hz fun k e => by injection e with e; omega
theorem row_set (w : World) (g : Nat) (t : TypeId) (cs : Array Value) (i : Nat) (v : Value) (hg : g < w.heap.size) : (setRow w g t cs).setCell ⟨g, i, none⟩ v = setRow w g t (cs.setIfInBounds i v) := by
 unfold setRow World.putObj World.setCell
 congr 1
 apply Array.ext_getElem?
 intro k
 by_cases hk : k = g
 ·subst hk
  rw [Array.getElem?_modify, if_pos rfl, Array.getElem?_setIfInBounds_self, if_pos hg, Array.getElem?_setIfInBounds_self, if_pos hg]
  rfl
 ·simp [Array.getElem?_modify, Array.getElem?_setIfInBounds, Ne.symm hk, hk]
theorem row_of (w : World) (g : Nat) (t : TypeId) (cs : Array Value) (h : Blk w g t cs) : setRow w g t cs = w := by
 unfold setRow World.putObj
 have : w.heap.setIfInBounds g (.cells cs t (0, 0)) = w.heap := by
  apply Array.ext_getElem?
  intro k
  by_cases hk : k = g
  ·subst hk
   rw [Array.getElem?_setIfInBounds_self, if_pos h.lt]
   exact h.symm
  ·rw [Array.getElem?_setIfInBounds_ne (Ne.symm hk)]
 rw [this]
theorem row_cells (w : World) (g : Nat) (t : TypeId) (hg : g < w.heap.size) : ∀ (vs pre olds : List Value), olds.length = vs.length → (setRow w g t (pre ++ olds).toArray).setCells g pre.length vs = setRow w g t (pre ++ vs).toArray
 | [], pre, olds, h => by
  obtain rfl := List.eq_nil_of_length_eq_zero h
  rfl
 | v :: vs, pre, [], h => by simp at h
 | v :: vs, pre, u :: olds, h => by
  rw [World.setCells, row_set w g t _ _ _ hg, List.setIfInBounds_toArray, List.set_append_right _ _ (Nat.le_refl _), Nat.sub_self, List.set_cons_zero]
  have := row_cells w g t hg vs (pre ++ [v]) olds (by simpa using h)
  simp only [List.length_append, List.length_cons, List.length_nil, List.append_assoc, List.cons_append, List.nil_append] at this
  exact this
theorem setCells_row {w : World} {g : Nat} {t : TypeId} {cs cells : Array Value} (h : Blk w g t cs) (hs : cells.size = cs.size) : w.setCells g 0 cells.toList = setRow w g t cells := by
 have := row_cells w g t h.lt cells.toList [] cs.toList (by simp [hs])
 simp only [List.nil_append, List.length_nil] at this
 rw [row_of w g t _ (by simpa using h)] at this
 exact this
theorem wpList_store_blk {P : Program} {ops : Array Oper} {rest : List Oper} {o : Oper} {a : Act} {w : World} {Q : Exit → Act → World → Prop} {g : Nat} {t ty : TypeId} {cs cells : Array Value} (h0 : Blk w g t cs)
  (hgd : o.guard = none) (x y : Operand) (ho : o.op = .store ty x y) (hx : a.eval x = .pointer (some ⟨g, 0, none⟩)) (hy : a.eval y = .agg cells)
  (hs : cells.size = cs.size) (hi : (P.info? ty).map (·.size) = some cells.size) (h1 : cells.all (·.oneCell') = true)
  (h : wpList P ops Q rest (a.put o.dst undef) (setRow w g t cells)) : wpList P ops Q (o :: rest) a w := by
 refine wpList_store_mid hgd ty x y ho g 0 cells hx hy (fun j hj => ?_) hi h1 ?_
 ·rw [h0.cell, h0.free, Nat.zero_add]
  have : j < cs.size := by omega
  simp [this]
 ·rw [setCells_row h0 hs]
  exact h
theorem wpList_load_row' {P : Program} {ops : Array Oper} {rest : List Oper} {o : Oper} {a : Act} {w : World} {Q : Exit → Act → World → Prop} {g : Nat} {t ty : TypeId} {cs : Array Value} {d : TypeDesc} (h0 : Blk w g t cs)
  (hu : P.underlying ty = some d) (hd : (match d with | .struct _ | .array _ _ => true | _ => false) = true) (hi : (P.info? ty).map (·.size) = some cs.size)
  (hgd : o.guard = none) (x : Operand) (ho : o.op = .load ty x) (hx : a.eval x = .pointer (some ⟨g, 0, none⟩))
  (h : wpList P ops Q rest (a.put o.dst (.agg cs)) w) : wpList P ops Q (o :: rest) a w :=
 wpList_load_blk h0 hgd x ho hx hu hd hi h
theorem row_new (w : World) (t : TypeId) (cs cs' : Array Value) : setRow (w.alloc (.cells cs t)) w.heap.size t cs' = w.alloc (.cells cs' t) := by
 unfold setRow World.putObj World.alloc
 congr 1
 apply Array.ext_getElem?
 intro k
 by_cases hk : k = w.heap.size
 ·subst hk
  simp
 ·rw [Array.getElem?_setIfInBounds_ne (Ne.symm hk), Array.getElem?_push, Array.getElem?_push, if_neg hk, if_neg hk]
/-- .. into a variable that was just made -/
theorem wpList_store_new {P : Program} {ops : Array Oper} {rest : List Oper} {o : Oper} {a : Act} {w : World} {Q : Exit → Act → World → Prop} {t ty : TypeId} {cs cells : Array Value}
  (hgd : o.guard = none) (x y : Operand) (ho : o.op = .store ty x y) (hx : a.eval x = .pointer (some ⟨w.heap.size, 0, none⟩)) (hy : a.eval y = .agg cells)
  (hs : cells.size = cs.size) (hi : (P.info? ty).map (·.size) = some cells.size) (h1 : cells.all (·.oneCell') = true)
  (h : wpList P ops Q rest (a.put o.dst undef) (w.alloc (.cells cells t))) : wpList P ops Q (o :: rest) a (w.alloc (.cells cs t)) := by
 refine wpList_store_blk (Blk.new0 w t cs) hgd x y ho hx hy hs hi h1 ?_
 rw [row_new]
 exact h
theorem cw_one (L : List Wd) : (cw L).all (·.oneCell') = true := by
 unfold cw
 rw [Array.all_eq_true_iff_forall_mem]
 intro v hv
 simp at hv
 obtain ⟨x, _, rfl⟩ := hv
 rfl
theorem cw_size (L : List Wd) : (cw L).size = L.length := by simp [cw]
end Go.Proofs.YtegaaccioppfjaaGreatDoor
end
section
namespace Go.Proofs.YtegaaccioppfjaaGreatDoor
open Go.RowKit Go.Phx Go.Shelf

/-- a slice value owns these cells; what is frozen of its row lies behind its capacity -/
def OwnX (w : World) (base : Nat) (e : TypeId) (v : Value) (n : Nat) (xs : List Value) : Prop :=
 xs.length = n ∧ ∃ g cap cur fz, v = .slice (some ⟨g, 0, none⟩) n cap ∧ base ≤ g ∧ w.heap[g]? = some (.cells cur e fz) ∧ (fz.2 ≤ fz.1 ∨ cap ≤ fz.1) ∧ n ≤ cap ∧ cap ≤ maxLen ∧ cur.size = cap ∧ cur.toList.take n = xs
theorem OwnX.form {w : World} {base : Nat} {e : TypeId} {v : Value} {n : Nat} {xs : List Value} (h : OwnX w base e v n xs) :
  ∃ g cap, v = .slice (some ⟨g, 0, none⟩) n cap ∧ base ≤ g ∧ g < w.heap.size ∧ n ≤ cap ∧ cap ≤ maxLen ∧ ∀ j u, xs[j]? = some u → w.cell? ⟨g, j, none⟩ = some u := by
 obtain ⟨_, g, cap, cur, fz, hv, hb, hg, _, hnc, hcm, _, ht⟩ := h
 refine ⟨g, cap, hv, hb, (Array.getElem?_eq_some_iff.1 hg).1, hnc, hcm, fun j u hu => ?_⟩
 rw [cell_of_row w g j cur e fz hg]
 rw [← ht, List.getElem?_take] at hu
 split at hu
 ·simpa using hu
 ·cases hu
theorem OwnX.kept {w w' : World} {base : Nat} {e : TypeId} {v : Value} {n : Nat} {xs : List Value} {row : Option Nat} (h : OwnX w base e v n xs) (hg : w.grownBy w' row) (hne : v.ownBlock ≠ row) : OwnX w' base e v n xs := by
 obtain ⟨hl, g, cap, cur, fz, hv, hb, hh, r⟩ := h
 refine ⟨hl, g, cap, cur, fz, hv, hb, ?_, r⟩
 rw [hg.block g (Array.getElem?_eq_some_iff.1 hh).1 (by subst hv; simpa [Value.ownBlock] using hne)]
 exact hh
theorem OwnX.alloc {w : World} {base : Nat} {e : TypeId} {v : Value} {n : Nat} {xs : List Value} (h : OwnX w base e v n xs) (o : Obj) : OwnX (w.alloc o) base e v n xs :=
 h.kept (World.grownBy_alloc w o none) (by
  obtain ⟨_, g, cap, cur, fz, rfl, _⟩ := h
  simp [Value.ownBlock])
theorem OwnX.below {w w' : World} {base : Nat} {e : TypeId} {v : Value} {n : Nat} {xs : List Value} (h : OwnX w base e v n xs) (hB : Below w.heap.size w w') : OwnX w' base e v n xs := by
 obtain ⟨hl, g, cap, cur, fz, hv, hb, hh, r⟩ := h
 exact ⟨hl, g, cap, cur, fz, hv, hb, (hB.block g (Array.getElem?_eq_some_iff.1 hh).1).trans hh, r⟩
theorem run_storeCells_X (P : Program) (g o : Nat) (t : TypeId) (fz : Nat × Nat) : ∀ (vs : List Value) (i : Nat) (cur : Array Value) (w : World), w.heap[g]? = some (.cells cur t fz) → (fz.2 ≤ fz.1 ∨ cur.size ≤ fz.1) → o + i + vs.length ≤ cur.size → (∀ v ∈ vs, v.oneCell' = true) →
  (storeCells ⟨g, o, none⟩ vs i).run P w = .ok () (w.setRow g (cur.toList.take (o + i) ++ vs ++ cur.toList.drop (o + i + vs.length)).toArray)
 | [], i, cur, w, hg, _, _, _ => by
  simp only [storeCells, List.append_nil, List.length_nil, Nat.add_zero, List.take_append_drop, Array.toArray_toList]
  rw [setRow_self w g cur t fz hg]
  rfl
 | v :: rest, i, cur, w, hg, hfz, hl, h1 => by
  have hi : o + i < cur.size := by simp at hl; omega
  have hadd : (⟨g, o, none⟩ : Addr).add i = ⟨g, o + i, none⟩ := by unfold Addr.add; split <;> simp_all
  have hcell : w.cell? ⟨g, o + i, none⟩ = some cur[o + i] := by simp [World.cell?, hg, hi]
  have hfro : w.frozen? ⟨g, o + i, none⟩ = false := by
   obtain ⟨lo, hi'⟩ := fz
   simp only [World.frozen?, hg, Bool.and_eq_false_iff, decide_eq_false_iff_not]
   simp only at hfz
   omega
  have hst : (store ((⟨g, o, none⟩ : Addr).add i) v).run P w = .ok () (w.setRow g (cur.setIfInBounds (o + i) v)) := by
   rw [hadd, run_store P w _ v _ (h1 v (by simp)), hcell]
   simp [hfro, setCell_eq_setRow w g (o + i) cur t fz v hg]
  have ih := run_storeCells_X P g o t fz rest (i + 1) (cur.setIfInBounds (o + i) v) (w.setRow g (cur.setIfInBounds (o + i) v)) (setRow_heap w g cur _ t _ hg) (by simpa using hfz) (by simp at hl ⊢; omega) (fun x hx => h1 x (by simp [hx]))
  simp only [storeCells, Sem.run_bind, hst, Result.andThen_ok, ih, setRow_setRow]
  congr 3
  have e := list_seg_step cur.toList (o + i) v rest (by simp at hl ⊢; omega)
  simpa [Array.toList_setIfInBounds, Nat.add_assoc] using e

theorem run_append_X {P : Program} (w : World) (base : Nat) (t ty e : TypeId) (i : TypeInfo) (z : Value) (ht : P.underlying t = some (.slice e)) (hi : P.info? e = some i) (hz : i.zero = some z)
  (hsize : i.size = 1) (hby : i.bytes = 1) (hzs : z.cells.size = 1)
  (v : Value) (n : Nat) (xs : List Value) (hown : OwnX w base e v n xs)
  (a : Addr) (m c : Nat) (news : List Value) (hl : news.length = m) (hnews : ∀ j u, news[j]? = some u → w.cell? (a.add j) = some u) (h1 : ∀ u ∈ news, u.oneCell' = true)
  (h63 : n + m ≤ 140737488355328) (hbase : base ≤ w.heap.size) :
  ∃ v' w', (Builtin.append_ #[t, t] ty #[v, .slice (some a) m c]).run P w = .ok v' w' ∧ OwnX w' base e v' (n + m) (xs ++ news) ∧ w.grownBy w' v.ownBlock := by
 obtain ⟨hxl, g, cap, cur, fz, rfl, hbg, hg, hfz, hnc, hcm, hcs, htake⟩ := hown
 have hlen : (xs ++ news).length = n + m := by rw [List.length_append, hxl, hl]
 by_cases hroom : n + m ≤ cap
 ·have hf := run_firstCells_some (P := P) w i.size m a m c news (by rw [hsize, Nat.mul_one]; exact hl) hnews
  rw [hsize] at hf
  have hst := run_storeCells_X P g n e fz news 0 cur w hg (by rw [hcs]; exact hfz) (by omega) h1
  simp only [Nat.add_zero] at hst
  refine ⟨.slice (some ⟨g, 0, none⟩) (n + m) cap, w.setRow g (cur.toList.take n ++ news ++ cur.toList.drop (n + news.length)).toArray, ?_, ⟨hlen, g, cap, _, fz, rfl, hbg, setRow_heap w g cur _ e _ hg, hfz, hroom, hcm, ?_, ?_⟩,
   ⟨rfl, rfl, rfl, by simp, fun k _ hk => setRow_other w g k _ (fun e => hk (by simp [Value.ownBlock, e]))⟩⟩
  ·simp [Builtin.append_, run_underlying ht, sizeOf, typeInfo, hi, Builtin.lenOf, hroom, hf, Addr.add_lit, hst, hsize]
  ·simp only [List.size_toArray, List.length_append, List.length_take, List.length_drop, Array.length_toList]
   omega
  ·rw [htake, ← hlen]
   exact List.take_left
 ·have holds : ∀ j u, xs[j]? = some u → w.cell? ((⟨g, 0, none⟩ : Addr).add j) = some u := fun j u hu => by
   have hadd : (⟨g, 0, none⟩ : Addr).add j = ⟨g, j, none⟩ := by unfold Addr.add; split <;> simp_all
   rw [hadd, cell_of_row w g j cur e fz hg]
   rw [← htake, List.getElem?_take] at hu
   split at hu
   ·simpa using hu
   ·cases hu
  have hr := run_append_grow (P := P) w t ty e i z ht hi hz ⟨g, 0, none⟩ n cap xs (by rw [hsize, Nat.mul_one]; exact hxl) holds a m c news (by rw [hsize, Nat.mul_one]; exact hl) hnews (by omega) (by omega) (growslice_fits (by omega) (by rw [hby]; omega))
  have hge := grownCap_ge w (n + m) cap e
  have hcm2 : grownCap w (n + m) cap e ≤ maxLen := grownCap_le_maxLen w (n + m) cap e (by unfold maxLen; omega)
  refine ⟨_, _, hr, ⟨hlen, w.heap.size, _, _, (0, 0), rfl, hbase, heap_alloc_new w.drew _, .inl (Nat.le_refl _), hge, hcm2, ?_, ?_⟩, ⟨rfl, rfl, rfl, by simp, fun k hk _ => heap_alloc_old w.drew _ hk⟩⟩
  ·simp only [Array.size_append, List.size_toArray, size_zeroCells, hzs, hxl, hl]
   omega
  ·simp only [Array.toList_append, List.append_assoc]
   rw [← List.append_assoc, ← hlen]
   exact List.take_left
theorem wpList_append_X {P : Program} {ops : Array Oper} {rest : List Oper} {o : Oper} {a : Act} {w : World} {Q : Exit → Act → World → Prop} (hgd : o.guard = none) (s x : Operand) (t : TypeId)
  (ho : o.op = .call { callee := .builtin .append, args := #[s, x], argTypes := #[t, t] })
  (base : Nat) (e : TypeId) (i : TypeInfo) (z : Value) (ht : P.underlying t = some (.slice e)) (hi : P.info? e = some i) (hz : i.zero = some z) (hsize : i.size = 1) (hby : i.bytes = 1) (hzs : z.cells.size = 1)
  (v : Value) (n : Nat) (xs : List Value) (hs : a.eval s = v) (hown : OwnX w base e v n xs)
  (ad : Addr) (m c : Nat) (news : List Value) (hx : a.eval x = .slice (some ad) m c) (hl : news.length = m) (hnews : ∀ j u, news[j]? = some u → w.cell? (ad.add j) = some u) (h1 : ∀ u ∈ news, u.oneCell' = true)
  (h63 : n + m ≤ 140737488355328) (hbase : base ≤ w.heap.size)
  (h : ∀ v' w', OwnX w' base e v' (n + m) (xs ++ news) → w.grownBy w' v.ownBlock → wpList P ops Q rest (a.put o.dst v') w') : wpList P ops Q (o :: rest) a w := by
 refine wpList_plain hgd fun K hK => ?_
 obtain ⟨v', w', hr, h2, h3⟩ := run_append_X (P := P) w base t o.type e i z ht hi hz hsize hby hzs v n xs hown ad m c news hl hnews h1 h63 hbase
 unfold Oper.wp execOp
 simp only [ho, resolve, invoke, builtin, Sem.run_bind, Sem.run_pure, Result.andThen_ok, List.map_toArray, List.map_cons, List.map_nil, hs, hx, hr]
 exact hK _ _ (h v' w' h2 h3)
/-- one byte in a block that was just made -/
theorem news1 (W : World) (t : TypeId) (v : Value) : ∀ j u, [v][j]? = some u → (W.alloc (.cells #[v] t)).cell? ((⟨W.heap.size, 0, none⟩ : Addr).add j) = some u := by
 intro j u hu
 match j, hu with
 | 0, hu =>
  have := (Blk.new0 W t #[v]).cell 0
  simp at hu
  subst hu
  simp [Addr.add]
/-- a byte's value -/
def bv (c : UInt8) : Value := .int .u8 (c.toNat : Int)
/-- a text's own bytes -/
def txtCells (w : World) (s : ByteArray) : World :=
 w.drew.alloc (.cells (bytesRow s (grownCap w s.size 0 5)) 5 ((bytesRow s (grownCap w s.size 0 5)).size, (bytesRow s (grownCap w s.size 0 5)).size + 1))
@[go_sem] theorem conv_txt (w : World) (s : ByteArray) : (convert 9 108 (.string s)).run Tryz.prog w = .ok (.slice (some ⟨w.heap.size, 0, none⟩) s.size (grownCap w s.size 0 5)) (txtCells w s) :=
 run_bytes_of_string w _ _ _ s (show Tryz.prog.underlying 9 = some .string by kernel_rfl) (show Tryz.prog.underlying 108 = some (.slice 5) by kernel_rfl) (show Tryz.prog.underlying 5 = some (.int .u8) by kernel_rfl)
theorem txt_own (w : World) (l : List UInt8) (base : Nat) (hb : base ≤ w.heap.size) (hl : l.length ≤ 140737488355328) :
  OwnX (txtCells w (bs l)) base 5 (.slice (some ⟨w.heap.size, 0, none⟩) l.length (grownCap w l.length 0 5)) l.length (l.map bv) := by
 have hge := grownCap_ge w l.length 0 5
 unfold txtCells
 rw [bs_size]
 refine ⟨by simp, w.heap.size, _, _, _, rfl, hb, heap_alloc_new w.drew _, .inr ?_, hge, grownCap_le_maxLen w _ _ _ (by unfold maxLen; omega), ?_, ?_⟩
 ·show _ ≤ (bytesRow (bs l) _).size
  have e1 : (bs l).data.size = l.length := by simp [bs]
  unfold bytesRow
  rw [Array.size_append, Array.size_map, Array.size_replicate, bs_size, e1]
  omega
 ·have e1 : (bs l).data.size = l.length := by simp [bs]
  unfold bytesRow
  rw [Array.size_append, Array.size_map, Array.size_replicate, bs_size, e1]
  omega
 ·simp [bytesRow, bs]
  exact fun _ _ => rfl
theorem txt_below (w : World) (s : ByteArray) : Below w.heap.size w (txtCells w s) := ((Below.refl _ _).drew).alloc (Nat.le_refl _) _
theorem txt_size (w : World) (s : ByteArray) : (txtCells w s).heap.size = w.heap.size + 1 := by simp [txtCells]
theorem conv_cells (W : World) (g : Nat) (L : List UInt8) (n c : Nat) (hn : L.length = n) (h : ∀ j u, (L.map bv)[j]? = some u → W.cell? ⟨g, j, none⟩ = some u) :
  (convert 108 9 (.slice (some ⟨g, 0, none⟩) n c)).run Tryz.prog W = .ok (.string (bs L)) W := by
 have hs : Tryz.prog.underlying 108 = some (.slice 5) := by kernel_rfl
 have he : Tryz.prog.underlying 5 = some (.int .u8) := by kernel_rfl
 have hd : Tryz.prog.underlying 9 = some .string := by kernel_rfl
 have := run_convert_bytes_arg (P := Tryz.prog) W _ _ hs he g 0 n c (L.map fun c : UInt8 => (c.toNat : Int)) (by simpa using hn) (fun i hi => by
  rw [Nat.zero_add, h i (bv (L.getD i 0)) (by rw [List.getElem?_map, List.getElem?_eq_getElem (by omega), List.getD, List.getElem?_eq_getElem (by omega)]; rfl)]
  unfold bv
  simp [List.getD, List.getElem?_eq_getElem (show i < L.length by omega)]) _ hd
 rw [this, strOfNums_map]
theorem own_cells {w : World} {base : Nat} {e : TypeId} {n cap g : Nat} {xs : List Value} (h : w.ownsRow base e 1 (.slice (some ⟨g, 0, none⟩) n cap) n xs) : ∀ j u, xs[j]? = some u → w.cell? ⟨g, j, none⟩ = some u := fun j u hu => by
 have := h.cells (g := g) rfl j u hu
 rwa [Addr.add_mid, Nat.zero_add] at this
/-- bytes of the call's own, so far -/
structure HoldsX (w0 wr : World) (v : Value) (q : List UInt8) : Prop where
 own : OwnX wr w0.heap.size 5 v q.length (q.map bv)
 below : Below w0.heap.size w0 wr
theorem HoldsX.step {w0 wr w' : World} {v v' : Value} {q : List UInt8} {o : Obj} {x : Int} (c : UInt8) (h : HoldsX w0 wr v q) (hx : x = (c.toNat : Int)) (hown : OwnX w' w0.heap.size 5 v' (q.length + 1) (q.map bv ++ [.int .u8 x])) (hg : (wr.alloc o).grownBy w' v.ownBlock) :
  HoldsX w0 w' v' (q ++ [c]) := by
 subst hx
 refine ⟨by simpa [bv] using hown, (h.below.alloc h.below.size o).grown hg (by have := h.below.size; simp; omega) fun k e => ?_⟩
 obtain ⟨g, cap, hv, hb, _⟩ := h.own.form
 rw [hv] at e
 simp [Value.ownBlock] at e
 omega
end Go.Proofs.YtegaaccioppfjaaGreatDoor
end
section
namespace Go.Proofs.YtegaaccioppfjaaGreatDoor
open BigFrame Go.RowKit Go.Phx Go.Shelf
attribute [local go_sem] Oper.semAt_some

/-- a slice's address leads to these texts -/
def Txts (w : World) (A : Option Addr) (L : List Bytes) : Prop := Strs w A (L.map bs)
theorem Txts.at {w : World} {A : Option Addr} {L : List Bytes} (h : Txts w A L) (i : Nat) (hi : i < L.length) : ∃ b o, A = some ⟨b, o, none⟩ ∧ b < w.heap.size ∧ w.cell? ⟨b, o + i, none⟩ = some (.string (bs (L.getD i []))) := by
 obtain ⟨b, o, ha, hb, hc⟩ := h (by simp; omega)
 exact ⟨b, o, ha, hb, hc i _ (by rw [List.getElem?_map, List.getElem?_eq_getElem hi, List.getD, List.getElem?_eq_getElem hi]; rfl)⟩
def tv (b : Bytes) : Value := .string (bs b)
/-- a row of texts of the call's own -/
def LRow (base : Nat) (w : World) (v : Value) (L : List Bytes) : Prop := w.ownsRow base 9 1 v L.length (L.map tv)
theorem LRow.txts {base : Nat} {w : World} {v : Value} {L : List Bytes} (h : LRow base w v L) : ∃ A c, v = .slice A L.length c ∧ Txts w A L := by
 rcases h.2 with ⟨rfl, h0⟩ | ⟨g, cap, cur, rfl, _⟩
 ·obtain rfl := List.eq_nil_of_length_eq_zero h0
  exact ⟨none, 0, rfl, Strs.nil _ _⟩
 ·refine ⟨_, _, rfl, Strs.mk (h.lt g rfl).2 fun i x hx => ?_⟩
  have hi : i < L.length := by have := (List.getElem?_eq_some_iff.1 hx).1; simpa using this
  rw [Nat.zero_add, World.ownsRow.cellAt h i (by omega)]
  rw [List.getElem?_map] at hx ⊢
  cases hl : L[i]? with
  | none => rw [hl] at hx; cases hx
  | some y => rw [hl] at hx; simp only [Option.map_some, Option.some.injEq] at hx ⊢; rw [← hx]; rfl
theorem LRow.cells {base : Nat} {w : World} {v : Value} {L : List Bytes} (h : LRow base w v L) : ∀ j, v.ownBlock = some j → base ≤ j ∧ ∃ cs t fz, w.heap[j]? = some (.cells cs t fz) := fun j hj => by
 rcases h.2 with ⟨rfl, h0⟩ | ⟨g, cap, cur, rfl, hb, hg, _⟩
 ·cases hj
 ·cases hj
  exact ⟨hb, cur, _, _, hg⟩
theorem LRow.mono {base base' : Nat} {w : World} {v : Value} {L : List Bytes} (h : LRow base w v L) (hb : base' ≤ base) : LRow base' w v L :=
 ⟨h.1, h.2.imp id fun ⟨g, cap, cur, a, b, r⟩ => ⟨g, cap, cur, a, Nat.le_trans hb b, r⟩⟩
theorem LRow.at {base : Nat} {w : World} {g cap : Nat} {L : List Bytes} {n : Nat} (h : LRow base w (.slice (some ⟨g, 0, none⟩) n cap) L) (i : Nat) (hi : i < L.length) : w.cell? ⟨g, i, none⟩ = some (.string (bs (L.getD i []))) := by
 have hn : L.length = n := by
  rcases h.2 with ⟨h', _⟩ | ⟨g', cap', cur, h', _⟩
  ·simp at h'
  ·simp only [Value.slice.injEq] at h'
   exact h'.2.1.symm
 subst hn
 rw [World.ownsRow.cellAt h i (by omega), List.getElem?_map, List.getElem?_eq_getElem hi, List.getD, List.getElem?_eq_getElem hi]
 rfl
theorem infoStr : (Tryz.prog.info? 9).map (fun i => (i.zero, i.size, i.bytes)) = some (some (.string ByteArray.empty), 1, 16) := by kernel_rfl
theorem LRow.keep {base : Nat} {w w' : World} {v : Value} {L : List Bytes} {r : Option Nat} (h : LRow base w v L) (hg : w.grownBy w' r) (hn : ∀ j, v.ownBlock = some j → r ≠ some j) : LRow base w' v L :=
 h.kept hg (by
  cases hv : v.ownBlock with
  | none => exact .inl rfl
  | some g => exact .inr fun e => hn g hv e.symm)
theorem LRow.on {base : Nat} {w : World} {v : Value} {L : List Bytes} (h : LRow base w v L) (o : Obj) : LRow base (w.alloc o) v L :=
 h.keep (World.grownBy_alloc w o none) fun _ _ e => by cases e
theorem wpList_append_txt {ops : Array Oper} {rest : List Oper} {o : Oper} {a : Act} {w : World} {Q : Exit → Act → World → Prop} (hgd : o.guard = none) (s x : Operand)
  (ho : o.op = .call { callee := .builtin .append, args := #[s, x], argTypes := #[27, 27] }) (base : Nat) (v : Value) (L : List Bytes) (hs : a.eval s = v) (R : LRow base w v L)
  (u : Bytes) (ad : Addr) (hx : a.eval x = .slice (some ad) 1 1) (hc : w.cell? (ad.add 0) = some (tv u)) (hl : L.length ≤ 1000000000) (hb : base ≤ w.heap.size)
  (h : ∀ v' w', LRow base w' v' (L ++ [u]) → w.grownBy w' v.ownBlock → (v'.ownBlock = v.ownBlock ∨ v'.ownBlock = some w.heap.size) → wpList Tryz.prog ops Q rest (a.put o.dst v') w') : wpList Tryz.prog ops Q (o :: rest) a w := by
 refine wpList_plain hgd fun K hK => ?_
 obtain ⟨i0, hi, hz0, hz1, hz2⟩ := info_parts infoStr
 obtain ⟨v', w', hr, h2, h3, _, h5⟩ := run_append_own_at (P := Tryz.prog) w base 27 o.type 9 i0 (.string ByteArray.empty) 1 16 Tryz.underlying27 hi hz0 hz1 hz2 rfl (by decide) v L.length (L.map tv) R ad 1 1 [tv u] rfl (fun j y hy => by
  match j, hy with
  | 0, hy => simp at hy; subst hy; exact hc) (by simp [Value.oneCell', tv]) (by unfold maxLen; omega) (by omega) hb
 unfold Oper.wp execOp
 simp only [ho, resolve, invoke, builtin, Sem.run_bind, Sem.run_pure, Result.andThen_ok, List.map_toArray, List.map_cons, List.map_nil, hs, hx, hr]
 refine hK _ _ (h v' w' ?_ h3 h5)
 unfold LRow
 rw [List.length_append, List.map_append]
 exact h2
/-- .. of one text in a block that was just made -/
theorem new_cell (w : World) (t : TypeId) (v : Value) : (w.alloc (.cells #[v] t)).cell? ((⟨w.heap.size, 0, none⟩ : Addr).add 0) = some v := news1 w t v 0 v rfl
/-- what a row of texts of its own, grown by one, leaves -/
theorem below_app {w W w' : World} {v : Value} {L : List Bytes} (hB : Below w.heap.size w W) (R : LRow w.heap.size W v L) (hg : W.grownBy w' v.ownBlock) : Below w.heap.size w w' :=
 hB.grown hg hB.size fun j e => (R.lt j e).1
/-- a row of texts of the call's own, made with room, and texts that came in behind none of its own -/
theorem start_append (w : World) (base : Nat) (hb : base ≤ w.heap.size) (n : Nat) (hn : n ≤ 1048576) (A : Option Addr) (c : Nat) (L : List Bytes) (hL : L.length ≤ 1048576) (hs : Txts w A L) :
  ∃ v w1, (Instr.makeSlice 27 (.int .i64 0) (.int .i64 n)).run Tryz.prog w = .ok v w1 ∧ Below w.heap.size w w1 ∧
   ∃ v' w', (Builtin.append_ #[27, 27] 27 #[v, .slice A L.length c]).run Tryz.prog w1 = .ok v' w' ∧ LRow base w' v' L ∧ Below w.heap.size w w' := by
 obtain ⟨i0, hi, hz0, hz1, hz2⟩ := info_parts infoStr
 obtain ⟨w1, hmk, hown, hgr⟩ := run_make_own (P := Tryz.prog) w base 27 9 i0 (.string ByteArray.empty) 1 Tryz.underlying27 hi hz0 hz1 .i64 .i64 n (by rw [hz2]; omega) (by unfold maxLen; omega) hb
 have hB1 : Below w.heap.size w w1 := (Below.refl w.heap.size w).grown hgr (Nat.le_refl _) (fun k e => by cases e)
 refine ⟨_, w1, hmk, hB1, ?_⟩
 by_cases h0 : L = []
 ·subst h0
  refine ⟨.slice (some ⟨w.heap.size, 0, none⟩) 0 n, w1, ?_, hown, hB1⟩
  have hsc : Builtin.firstCells 1 0 (.slice A 0 c) = pure #[] := by
   cases A <;> simp [Builtin.firstCells, loadCells, loadCellsFrom]
  simp [Builtin.append_, run_underlying Tryz.underlying27, sizeOf, typeInfo, hi, hz1, Builtin.lenOf, hsc, storeCells]
 ·have hpos : 0 < L.length := by cases L with | nil => exact absurd rfl h0 | cons => simp
  obtain ⟨b, o, rfl, hb2, _⟩ := hs.at 0 hpos
  have hcs : ∀ (j : Nat) u, (L.map tv)[j]? = some u → w1.cell? ((⟨b, o, none⟩ : Addr).add j) = some u := fun j u hu => by
   have hj : j < L.length := by have := (List.getElem?_eq_some_iff.1 hu).1; simpa using this
   obtain ⟨b', o', he, hlt, hc⟩ := hs.at j hj
   simp only [Option.some.injEq, Addr.mk.injEq, and_true] at he
   obtain ⟨rfl, rfl⟩ := he
   rw [Addr.add_mid, hB1.cell (p := ⟨b, o + j, none⟩) hlt, hc]
   rw [List.getElem?_map, List.getElem?_eq_getElem hj] at hu
   simp only [Option.map_some, Option.some.injEq] at hu
   rw [← hu, List.getD, List.getElem?_eq_getElem hj]
   rfl
  obtain ⟨v', w', hr, h2, h3, _, _⟩ := run_append_own_at (P := Tryz.prog) w1 base 27 27 9 i0 (.string ByteArray.empty) 1 16 Tryz.underlying27 hi hz0 hz1 hz2 rfl (by decide) _ 0 [] hown ⟨b, o, none⟩ L.length c (L.map tv) (by simp) hcs (fun u hu => by
   simp only [List.mem_map] at hu
   obtain ⟨x, _, rfl⟩ := hu
   rfl) (by unfold maxLen; omega) (by omega) (Nat.le_trans hb hB1.size)
  refine ⟨v', w', hr, ?_, hB1.grown h3 hB1.size fun j e => (?_ : w.heap.size ≤ j)⟩
  ·have := h2
   simp only [Nat.zero_add, List.nil_append] at this
   exact this
  ·simp [Value.ownBlock] at e
   omega
/-- append, by its run -/
theorem wpList_append_run {P : Program} {ops : Array Oper} {rest : List Oper} {o : Oper} {a : Act} {w w' : World} {Q : Exit → Act → World → Prop} (hgd : o.guard = none) (s x : Operand) (t u : TypeId)
  (ho : o.op = .call { callee := .builtin .append, args := #[s, x], argTypes := #[t, u] }) (v y v' : Value) (hs : a.eval s = v) (hx : a.eval x = y)
  (hr : (Builtin.append_ #[t, u] o.type #[v, y]).run P w = .ok v' w') (h : wpList P ops Q rest (a.put o.dst v') w') : wpList P ops Q (o :: rest) a w := by
 refine wpList_plain hgd fun K hK => ?_
 unfold Oper.wp execOp
 simp only [ho, resolve, invoke, builtin, Sem.run_bind, Sem.run_pure, Result.andThen_ok, List.map_toArray, List.map_cons, List.map_nil, hs, hx, hr]
 exact hK _ _ h
end Go.Proofs.YtegaaccioppfjaaGreatDoor
end
section
namespace Go.Proofs.YtegaaccioppfjaaGreatDoor
open BigFrame Go.RowKit Go.Phx Go.Shelf
attribute [local go_sem] Oper.semAt_some

theorem shr_n (x : Wd) (n : Nat) : vw x / 2 ^ n = vw (x >>> n) := shr_w x n _ rfl
theorem shl_n (x : Wd) (n : Nat) : vw x * 2 ^ n % 4294967296 = vw (x <<< n) := shl_w' x n _ rfl
set_option maxRecDepth 100000 in
theorem rturn_nat (x : Wd) (n : Nat) (h0 : 0 < n) (h1 : n < 32) (w : World) : Calls Tryz.prog 180 #[.int .u32 (vw x), .int .i64 n] w (Ret w (.int .u32 (vw (ror x n)))) := by
 have v1 := vw_nonneg x
 have v2 := vw_lt x
 have e1 := shr_n x n
 have e2 := shl_n x (32 - n)
 have e3 : IntKind.i64.wrap (32 - (n : Int)) = 32 - (n : Int) := IntWalk.i64_in _ (by omega)
 go_enter Tryz.func180, Tryz.ntmps180
 go_wp2_with fail
 go_quiet (fail)
 go_wp2_with fail
 go_ret
 exact ⟨by simp only [e2]; rfl, below_drewN (Below.refl _ _) _⟩
theorem rturn_calls (x : Wd) (n : Int) (h : 0 < n ∧ n < 32) (w : World) : Calls Tryz.prog 180 #[.int .u32 (vw x), .int .i64 n] w (Ret w (.int .u32 (vw (ror x n.toNat)))) := by
 obtain ⟨m, rfl⟩ : ∃ m : Nat, n = m := ⟨n.toNat, by omega⟩
 exact rturn_nat x m (by omega) (by omega) w

theorem wordOf4 (a b c d : UInt8) : wordOf [a, b, c, d] = bw a <<< 24 ||| bw b <<< 16 ||| bw c <<< 8 ||| bw d := by
 unfold wordOf
 simp only [List.foldl_cons, List.foldl_nil]
 rw [show (0 : Wd) <<< 8 = 0 from rfl, show ∀ x : Wd, (0 : Wd) ||| x = x from fun x => BitVec.zero_or, BitVec.shiftLeft_or_distrib, BitVec.shiftLeft_or_distrib, BitVec.shiftLeft_or_distrib, ← BitVec.shiftLeft_add, ← BitVec.shiftLeft_add, ← BitVec.shiftLeft_add]
 rfl
theorem take4 (l : List UInt8) (k : Nat) (h : 4 * k + 4 ≤ l.length) : (l.drop (4 * k)).take 4 = [l.getD (4 * k) 0, l.getD (4 * k + 1) 0, l.getD (4 * k + 2) 0, l.getD (4 * k + 3) 0] := by
 have e : ∀ i, i < 4 → (l.drop (4 * k))[i]? = some (l.getD (4 * k + i) 0) := fun i hi => by
  rw [List.getElem?_drop, List.getD, List.getElem?_eq_getElem (by omega)]
  rfl
 apply List.ext_getElem?
 intro i
 by_cases hi : i < 4
 ·rw [List.getElem?_take_of_lt hi, e i hi]
  match i, hi with
  | 0, _ => rfl
  | 1, _ => rfl
  | 2, _ => rfl
  | 3, _ => rfl
 ·rw [List.getElem?_eq_none (by simp; omega), List.getElem?_eq_none (by simp; omega)]
/-- the first words, so many -/
def headW (l : List UInt8) (k : Nat) : List Wd := (words16 l).take k ++ List.replicate (64 - k) 0
theorem headW_len (l : List UInt8) (k : Nat) (hk : k ≤ 16) : (headW l k).length = 64 := by
 unfold headW
 simp [words16_len]
 omega
theorem headW_all (l : List UInt8) : headW l 16 = moreW l 0 := by
 unfold headW moreW
 rw [List.take_of_length_le (by rw [words16_len]; exact Nat.le_refl _)]
 rfl
theorem headW_next (l : List UInt8) (hl : l.length = 64) (k : Nat) (hk : k < 16) :
  headW l (k + 1) = (headW l k).set k (bw (l.getD (4 * k) 0) <<< 24 ||| bw (l.getD (4 * k + 1) 0) <<< 16 ||| bw (l.getD (4 * k + 2) 0) <<< 8 ||| bw (l.getD (4 * k + 3) 0)) := by
 rw [← wordOf4, ← take4 l k (by omega)]
 unfold headW
 rw [List.set_append_right _ _ (by simp; omega), List.length_take, words16_len, show k - min k 16 = 0 by omega, show 64 - k = (64 - (k + 1)) + 1 by omega, List.replicate_succ, List.set_cons_zero, List.take_add_one,
  List.getElem?_eq_getElem (by rw [words16_len]; exact hk), List.append_assoc]
 simp [words16]
/-- cells of bytes from a place on -/
def BytesAt (w : World) (g o : Nat) (l : List UInt8) : Prop := g < w.heap.size ∧ ∀ j, j < l.length → w.cell? ⟨g, o + j, none⟩ = some (.int .u8 (vw (bw (l.getD j 0))))
theorem BytesAt.from {n : Nat} {w w' : World} {g o : Nat} {l : List UInt8} (h : BytesAt w g o l) (hB : Below n w w') (hn : g < n) (hz : w.heap.size ≤ w'.heap.size) : BytesAt w' g o l :=
 ⟨Nat.lt_of_lt_of_le h.1 hz, fun j hj => (hB.cell (p := ⟨g, o + j, none⟩) hn).trans (h.2 j hj)⟩

set_option maxRecDepth 100000 in
set_option maxHeartbeats 8000000 in
theorem spread_calls (g o c : Nat) (l : List UInt8) (hl : l.length = 64) (w : World) (hb : BytesAt w g o l) (ho : o + 64 ≤ 9223372036854775807) (hc : 64 ≤ c) :
  Calls Tryz.prog 178 #[.slice (some ⟨g, o, none⟩) 64 c] w (Ret w (.agg (cw (moreW l 48)))) := by
 have HBA := Lib.hid hb
 have hgl := hb.1
 clear hb
 go_enter Tryz.func178, Tryz.ntmps178
 go_wp2_with fail
 go_loopw [4] (fun i wr => ∃ k : Nat, k ≤ 64 ∧ i = .int .i64 k ∧ Blk wr (w.heap.size + 1) 183 (cw (if k ≤ 16 then headW l k else moreW l (k - 16))) ∧ Blk wr w.heap.size 183 (cw (List.replicate 64 0)) ∧ Below w.heap.size w wr ∧ w.heap.size + 1 < wr.heap.size)
  (fun i _ => (64 - intOf i).toNat)
 case atStart => exact ⟨0, by omega, rfl, by rw [if_pos (by omega)]; exact Blk.to (Blk.new1 _ _ _ _) rfl, Blk.to ((Blk.new0 _ _ _).alloc _) rfl, bel, by simp⟩
 case round =>
  obtain ⟨k, hk, rfl, K0, K1, HB, hz⟩ := hrel
  replace K1 := Lib.hid K1
  have hBA := HBA.out.from HB hgl (by have := HB.size; exact this)
  by_cases h16 : k < 16
  ·rw [if_pos (by omega)] at K0
   have b0 := hBA.2 (4 * k) (by omega)
   have b1 := hBA.2 (4 * k + 1) (by omega)
   have b2 := hBA.2 (4 * k + 2) (by omega)
   have b3 := hBA.2 (4 * k + 3) (by omega)
   have HN := headW_next l hl k h16
   have hc := cw_set (headW l k) k (bw (l.getD (4 * k) 0) <<< 24 ||| bw (l.getD (4 * k + 1) 0) <<< 16 ||| bw (l.getD (4 * k + 2) 0) <<< 8 ||| bw (l.getD (4 * k + 3) 0))
   rw [← HN] at hc
   have gk := cw_get (L := headW l k) (i := k) (by rw [headW_len l k (by omega)]; omega)
   have hgr := hBA.1
   clear HN hBA
   generalize l.getD (4 * k) 0 = x0 at *
   generalize l.getD (4 * k + 1) 0 = x1 at *
   generalize l.getD (4 * k + 2) 0 = x2 at *
   generalize l.getD (4 * k + 3) 0 = x3 at *
   have p0 := vw_nonneg (bw x0)
   have p1 := vw_nonneg (bw x1)
   have p2 := vw_nonneg (bw x2)
   have p3 := vw_nonneg (bw x3)
   have q0 := bw_lt x0
   have q1 := bw_lt x1
   have q2 := bw_lt x2
   have q3 := bw_lt x3
   have s0 : vw (bw x0) * 16777216 = vw (bw x0 <<< 24) := by have := shl_w' (bw x0) 24 16777216 rfl; omega
   have s1 : vw (bw x1) * 65536 = vw (bw x1 <<< 16) := by have := shl_w' (bw x1) 16 65536 rfl; omega
   have s2 : vw (bw x2) * 256 = vw (bw x2 <<< 8) := by have := shl_w' (bw x2) 8 256 rfl; omega
   generalize headW l k = L at *
   replace hc := Lib.hid hc
   replace K0 := Lib.hid K0
   (obtain ⟨k0, f0, l0, m0⟩ := K0.out.rl; obtain ⟨k1, f1, l1, m1⟩ := K1.out.rl)
   go_wp2_with fail
   (refine wp_region_later_tail 35 (by kernel_rfl) (by kernel_rfl) ?_; simp only [List.take_succ_cons, List.take_zero, List.drop_succ_cons, List.drop_zero]; (repeat (go_big_quiet_step (fail))); refine wpQuiet_nil ?_; intro w' hB)
   (have HBn : Below w.heap.size w w' := Below.on hB bel; have N0 := Lib.hid (Blk.below (g := w.heap.size + 1) (by have kk := K0.out; exact blJ) hB); (try simp only [List.setIfInBounds_toArray, List.set_cons_succ, List.set_cons_zero] at N0); have N1 := Lib.hid (Blk.below (g := w.heap.size) (by have kk := K1.out; exact blJ) hB); (try simp only [List.setIfInBounds_toArray, List.set_cons_succ, List.set_cons_zero] at N1); clear K0 k0 f0 l0 m0 K1 k1 f1 l1 m1; (try clear HB); clear hB; have HB := HBn; clear HBn; have HZw' := HB.size; have K0 := N0; clear N0; obtain ⟨k0, f0, l0, m0⟩ := K0.out.rl; have K1 := N1; clear N1; obtain ⟨k1, f1, l1, m1⟩ := K1.out.rl)
   go_wp2_with fail
   go_roundw
   case rel => exact ⟨k + 1, by omega, by go_num, by rw [if_pos (by omega), ← hc.out, ← or_w, ← or_w, ← or_w, ← s0, ← s1, ← s2]; exact K0.out.set_ _ _, K1.out.over (by simp), bel, by rw [size_set]; exact l0⟩
   case measure => simp [intOf]; omega
  ·obtain ⟨j, rfl⟩ : ∃ j, k = j + 16 := ⟨k - 16, by omega⟩
   have hj48 : j ≤ 48 := by omega
   have e0 : (if j + 16 ≤ 16 then headW l (j + 16) else moreW l (j + 16 - 16)) = moreW l j := by
    by_cases h0 : j = 0
    ·subst h0
     exact headW_all l
    ·rw [if_neg (by omega)]
     rfl
   rw [e0] at K0
   clear e0 hBA
   by_cases hlt : j < 48
   ·have HN := moreW_next l j hlt
    have hlen := moreW_len l j hj48
    have hc := cw_set (moreW l j) (j + 16) ((moreW l j).getD j 0 + (moreW l j).getD (j + 9) 0 + sig0 ((moreW l j).getD (j + 1) 0) + sig1 ((moreW l j).getD (j + 14) 0))
    rw [← HN] at hc
    have g0 := cw_get (L := moreW l j) (i := j) (by omega)
    have g9 := cw_get (L := moreW l j) (i := j + 9) (by omega)
    have g1 := cw_get (L := moreW l j) (i := j + 1) (by omega)
    have g14 := cw_get (L := moreW l j) (i := j + 14) (by omega)
    have g16 := cw_get (L := moreW l j) (i := j + 16) (by omega)
    clear HN hlen
    generalize (moreW l j).getD j 0 = x0 at *
    generalize (moreW l j).getD (j + 9) 0 = x9 at *
    generalize (moreW l j).getD (j + 1) 0 = x1 at *
    generalize (moreW l j).getD (j + 14) 0 = x14 at *
    generalize (moreW l j).getD (j + 16) 0 = x16 at *
    generalize moreW l j = L at *
    have g9' := g9
    rw [show j + 9 = j + 16 - 7 from rfl] at g9'
    have g1' := g1
    rw [show j + 1 = j + 16 - 15 from rfl] at g1'
    have g14' := g14
    rw [show j + 14 = j + 16 - 2 from rfl] at g14'
    replace hc := Lib.hid hc
    have e1 := shr_w x1 3 8 rfl
    have e2 := shr_w x14 10 1024 rfl
    replace K0 := Lib.hid K0
    (obtain ⟨k0, f0, l0, m0⟩ := K0.out.rl; obtain ⟨k1, f1, l1, m1⟩ := K1.out.rl)
    go_wp2_with fail
    refine (rturn_calls _ _ (by decide) _).mono ?_
    rintro e w1 ⟨rfl, h1⟩
    go_wp2_with fail
    refine (rturn_calls _ _ (by decide) _).mono ?_
    rintro e w2 ⟨rfl, h2⟩
    go_wp2_with fail
    refine (rturn_calls _ _ (by decide) _).mono ?_
    rintro e w3 ⟨rfl, h3⟩
    go_wp2_with fail
    refine (rturn_calls _ _ (by decide) _).mono ?_
    rintro e w4 ⟨rfl, h4⟩
    have hB : Below wr.heap.size wr w4 := Below.on h4 (Below.on h3 (Below.on h2 h1))
    clear h1 h2 h3 h4
    (have HBn : Below w.heap.size w w4 := Below.on hB bel; have N0 := Lib.hid (Blk.below (g := w.heap.size + 1) (by have kk := K0.out; exact blJ) hB); (try simp only [List.setIfInBounds_toArray, List.set_cons_succ, List.set_cons_zero] at N0); have N1 := Lib.hid (Blk.below (g := w.heap.size) (by have kk := K1.out; exact blJ) hB); (try simp only [List.setIfInBounds_toArray, List.set_cons_succ, List.set_cons_zero] at N1); clear K0 k0 f0 l0 m0 K1 k1 f1 l1 m1; (try clear HB); clear hB; have HB := HBn; clear HBn; have HZw4 := HB.size; have K0 := N0; clear N0; obtain ⟨k0, f0, l0, m0⟩ := K0.out.rl; have K1 := N1; clear N1; obtain ⟨k1, f1, l1, m1⟩ := K1.out.rl)
    go_wp2_with fail
    have ea : x0 + (ror x1 7 ^^^ ror x1 18 ^^^ x1 >>> 3) + x9 + (ror x14 17 ^^^ ror x14 19 ^^^ x14 >>> 10) = x0 + x9 + sig0 x1 + sig1 x14 := by
     unfold sig0 sig1
     ac_rfl
    replace ea := Lib.hid ea
    (refine wp_region_later_tail 15 (by kernel_rfl) (by kernel_rfl) ?_; simp only [List.take_succ_cons, List.take_zero, List.drop_succ_cons, List.drop_zero]; (repeat (go_big_quiet_step (fail))); refine wpQuiet_nil ?_; intro w' hB)
    (have HBn : Below w.heap.size w w' := Below.on hB bel; have N0 := Lib.hid (Blk.below (g := w.heap.size + 1) (by have kk := K0.out; exact blJ) hB); (try simp only [List.setIfInBounds_toArray, List.set_cons_succ, List.set_cons_zero] at N0); have N1 := Lib.hid (Blk.below (g := w.heap.size) (by have kk := K1.out; exact blJ) hB); (try simp only [List.setIfInBounds_toArray, List.set_cons_succ, List.set_cons_zero] at N1); clear K0 k0 f0 l0 m0 K1 k1 f1 l1 m1; (try clear HB); clear hB; have HB := HBn; clear HBn; have HZw' := HB.size; have K0 := N0; clear N0; obtain ⟨k0, f0, l0, m0⟩ := K0.out.rl; have K1 := N1; clear N1; obtain ⟨k1, f1, l1, m1⟩ := K1.out.rl)
    go_wp2_with fail
    rw [ea.out]
    go_roundw
    case rel => exact ⟨j + 1 + 16, by omega, by congr 1 <;> omega, by rw [if_neg (by omega), show j + 1 + 16 - 16 = j + 1 by omega, ← hc.out]; exact K0.out.set_ _ _, K1.out.over (by simp), bel, by rw [size_set]; exact l0⟩
    case measure => simp [intOf]; omega
   ·obtain rfl : j = 48 := by omega
    simp only [show ((48 + 16 : Nat) : Int) = 64 from rfl]
    replace K0 := Lib.hid K0
    have hsz := (cw_size (moreW l 48)).trans (moreW_len l 48 (by decide))
    have HSZ := Lib.hid hsz
    clear hsz
    go_wp2_with (first
     | (with_reducible refine wpList_load_row' (o := ⟨some 89, _, _, _, _, _⟩) K0.out Tryz.underlying183 rfl ?hi rfl _ rfl rfl ?_)
     | (with_reducible refine wpList_store_blk (o := ⟨none, .store 183 _ _, _, _, _, _⟩) K1.out rfl _ _ rfl rfl rfl ?hs ?hi2 (cw_one _) ?_))
    case hi => rw [HSZ.out]; kernel_rfl
    case hs => rw [HSZ.out]; simp [cw]
    case hi2 => rw [HSZ.out]; kernel_rfl
    refine bodyPost_ret (results_cell_row rfl _ _ w.heap.size _ _ _ _ rfl (Blk.row K1.out.lt) Tryz.underlying183 rfl (by rw [HSZ.out]; kernel_rfl)) rfl ⟨rfl, Below.row HB (Nat.le_refl _) HB.size⟩
end Go.Proofs.YtegaaccioppfjaaGreatDoor
end
section
namespace Go.Proofs.YtegaaccioppfjaaGreatDoor
open BigFrame Go.RowKit Go.Phx Go.Shelf
attribute [local go_sem] Oper.semAt_some

theorem ch_eq (e f g : Wd) : e &&& f ^^^ ~~~e &&& g = chf e f g := by
 unfold chf
 ext i hi
 simp
 cases e[i] <;> cases f[i] <;> cases g[i] <;> rfl
theorem maj_eq (a b c : Wd) : a &&& b ^^^ a &&& c ^^^ b &&& c = maj a b c := by
 unfold maj
 ext i hi
 simp
 cases a[i] <;> cases b[i] <;> cases c[i] <;> rfl
set_option maxRecDepth 100000 in
set_option maxHeartbeats 2000000 in
theorem words_calls (w : World) : Calls Tryz.prog 179 #[] w (Ret w (.agg (cw kTab))) := by
 go_enter Tryz.func179, Tryz.ntmps179
 go_wp2_with (first
  | (with_reducible refine wpList_store_blk (o := ⟨none, .store 183 _ _, _, _, _, _⟩) (Blk.new0 _ _ _) rfl _ _ rfl rfl rfl ?hs ?hi2 ?h1 ?_))
 case hs => kernel_rfl
 case hi2 => kernel_rfl
 case h1 => kernel_rfl
 refine bodyPost_ret (results_cell_row rfl _ _ w.heap.size _ _ _ _ rfl (Blk.row (by simp)) Tryz.underlying183 rfl (by kernel_rfl)) rfl ⟨?_, Below.row bel (Nat.le_refl _) (by simp)⟩
 kernel_rfl
end Go.Proofs.YtegaaccioppfjaaGreatDoor
end
