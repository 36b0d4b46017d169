/- Plain laws and walks, each by its own conditions. -/
import Derived.Test.YtegaaccioppfjaaGreatDoorChecked
import Derived.Test.YtegaaccioppfjaaGreatDoorFm1
import Derived.WalkKit
import Derived.WalkSpells
import Derived.RangeFuncNested
import Derived.RangeFuncBound
import Derived.RangeFuncCalls
import Derived.RangeFuncLeaves
import Derived.RangeFuncBox
import Derived.Shelf.Abstract
import Derived.Shelf.RegionOpen
import Derived.OwnWalkIn
import Derived.TacticsInMore
import Derived.LoopNIn
import Derived.LoopIn
import Derived.WalkSmall
import Derived.WalkMore
import Derived.BigQuiet
import Derived.Deep.QuietTactic
import Derived.Deep.RegionHeld3
import Derived.Deep.RegionWith
import Derived.Lib.Hide
import Derived.Laws.Rows
import Derived.StillTail
import Derived.OrdersIn
import Derived.Test.YtegaaccioppfjaaGreatDoorRows
import Derived.ProofKit
import Derived.OpenShut
import Derived.Lib.SmallJoins
import Derived.ChangeMaps5
import Derived.Carry
import Derived.SliceStrings
import Derived.Deep.DeepHandedRow
import Derived.Lib.LaidTab
import Derived.Test.YtegaaccioppfjaaGreatDoorFmS
import Derived.RegionTactic
import Derived.ChangeAlike
set_option linter.unusedSimpArgs false
set_option linter.unusedVariables false
set_option maxRecDepth 100000
set_option maxHeartbeats 16000000
section
namespace Go.Proofs.YtegaaccioppfjaaGreatDoor
open Go.RowKit Go.Shelf

def Ret (w : World) (v : Value) (e : Ending) (w' : World) : Prop := e = .returned v ∧ Below w.heap.size w w'

def KeepB (B : Nat) (W W' : World) : Prop := W'.heap[B]? = W.heap[B]?
theorem KeepB.refl (B : Nat) (W : World) : KeepB B W W := rfl
theorem KeepB.trans {B : Nat} {a b c : World} (h : KeepB B a b) (k : KeepB B b c) : KeepB B a c := Eq.trans k h
theorem KeepB.cell {B : Nat} {W W' : World} (h : KeepB B W W') (o : Nat) : W'.cell? ⟨B, o, none⟩ = W.cell? ⟨B, o, none⟩ := World.cell?_of_block (w := W) h
theorem KeepB.frozen {B : Nat} {W W' : World} (h : KeepB B W W') (o : Nat) : W'.frozen? ⟨B, o, none⟩ = W.frozen? ⟨B, o, none⟩ := World.frozen?_of_block (w := W) h
theorem keepB_b {B : Nat} {w : World} (hB : B < w.heap.size) (W : World) (l : Nat) (o o' : Obj) (hl : w.heap.size ≤ l) (_ : W.heap[l]? = some o) (_ : o.isCells = false) (_ : o.isWalk = false) : KeepB B W (W.putObj l o') :=
 World.putObj_heap_other (by omega)
theorem keepB_t {B : Nat} {a b c : World} (h : KeepB B a b) (k : KeepB B b c) : KeepB B a c := h.trans k
theorem KeepB.below {B n : Nat} {W W' : World} (h : Below n W W') (hB : B < n) : KeepB B W W' := h.block B hB
theorem KeepB.setCell {B : Nat} {W : World} {a : Addr} (h : B ≠ a.block) (v : Value) : KeepB B W (W.setCell a v) := Below.heap_setCell _ _ _ _ h
theorem KeepsOthers.below {W W' : World} (h : Below W.heap.size W W') : KeepsOthers W W' :=
 ⟨h.size, fun k _ hk _ => (h.block k (Array.getElem?_eq_some_iff.1 hk).1).trans hk⟩
theorem below_shut {n : Nat} {w W : World} {D : Nat} {o' : Obj} (hB : Below n w W) (hn : n ≤ w.heap.size) (hD : n ≤ D) : Below n w (W.putObj D o') :=
 hB.grown (grownBy_putObj' W D o') (Nat.le_trans hn hB.size) (fun k e => by cases e; exact hD)
theorem qs {P : Program} {f : FuncId} {args : Array Value} {w : World} {n : Nat} {v : Value} (h : Calls P f args (w.drewN n) fun e w' => e = .returned v ∧ w.drewN n = w') :
  Calls P f args (w.drewN n) fun e w'' => e = .returned v ∧ ∃ m, w'' = w.drewN m :=
 h.mono fun _ _ ⟨he, hm⟩ => ⟨he, n, hm.symm⟩

theorem qa {P : Program} {f : FuncId} {args : Array Value} {w : World} {a n : Nat} {v : Value} (h : Calls P f args (w.drewN (a + n)) fun e w' => e = .returned v ∧ w.drewN (a + n) = w') :
  Calls P f args (w.drewN (a + n)) fun e w'' => e = .returned v ∧ ∃ m, w'' = w.drewN (a + m) :=
 h.mono fun _ _ ⟨he, hm⟩ => ⟨he, n, hm.symm⟩

theorem Below.via {n m : Nat} {w W w' : World} (h : Below m W w') (hm : n ≤ m) (hB : Below n w W) : Below n w w' := hB.trans (h.mono hm)
theorem Below.on {w W w' : World} (h : Below W.heap.size W w') (hB : Below w.heap.size w W) : Below w.heap.size w w' := hB.trans (h.mono hB.size)
theorem bcell {n : Nat} {W w1 : World} (hb : Below n W w1) : (∀ b o, b < n → w1.cell? ⟨b, o, none⟩ = W.cell? ⟨b, o, none⟩) ∧ (∀ b o, b < n → w1.frozen? ⟨b, o, none⟩ = W.frozen? ⟨b, o, none⟩) :=
 ⟨fun b o h => hb.cell (p := ⟨b, o, none⟩) h, fun b o h => hb.frozen (p := ⟨b, o, none⟩) h⟩

theorem wpIn_scope {n : Nat} {P : Program} {c : Code} {Q : Exit → Act → World → Prop} {a : Act} {w : World} (h : c.wpIn Fence.wide n P (Exit.noGoto Q) a w) : (Code.scope c).wpIn Fence.wide n P Q a w :=
 wpIn_wide.2 (wp_scope_straight (wpIn_wide.1 h))

def v2 (z : Go.Phx.F2) : Value := .agg #[.int .u64 (Go.Phx.vz z.1), .int .u64 (Go.Phx.vz z.2)]
theorem bel {n : Nat} {w w' : World} (h : Below n w w' := by repeat (first | assumption | exact Below.refl _ _ | refine Below.setCell ?_ (by first | exact Nat.le_refl _ | (simp; done) | omega | (simp; omega)) _ | refine Below.alloc ?_ (by first | exact Nat.le_refl _ | (simp; done) | omega | (simp; omega)) _ | refine below_drewN ?_ _ | refine Below.drew ?_ | refine Below.on (by assumption) ?_ | refine Below.via (by assumption) (by first | exact Nat.le_refl _ | (simp; done) | omega | (simp; omega)) ?_)) : Below n w w' := h
def Later (w : World) : Type := { w' : World // Below w.heap.size w w' }
instance instLater (w : World) : Nonempty (Later w) := ⟨⟨w, Below.refl _ _⟩⟩
def Later.at {w : World} (x : Later w) : World := x.1
theorem Later.below {w : World} (x : Later w) : Below w.heap.size w x.at := x.2
@[go_sem] theorem Later.cell {w : World} (x : Later w) (b o : Nat) (h : b < w.heap.size) : x.at.cell? ⟨b, o, none⟩ = w.cell? ⟨b, o, none⟩ := x.below.cell (p := ⟨b, o, none⟩) h
@[go_sem] theorem Later.frozen {w : World} (x : Later w) (b o : Nat) (h : b < w.heap.size) : x.at.frozen? ⟨b, o, none⟩ = w.frozen? ⟨b, o, none⟩ := x.below.frozen (p := ⟨b, o, none⟩) h

theorem wp_region_later {P : Program} {id : Nat} {Q : Exit → Act → World → Prop} {a : Act} {w : World} {l : List Oper} (hm : P.follows .mixedOrders = true) (hB : Region.lexB .any l.toArray = true)
  (h : wpQuiet P l.toArray (fun w' => ∃ x : Later w, w' = x.at) (fun a' => ∀ w', Below w.heap.size w w' → Q .normal a' w') l a) : (Code.region id l.toArray true).wp P Q a w :=
 wp_region_quiet (C := fun w' => ∃ x : Later w, w' = x.at) hm hB ⟨⟨_, (Below.refl _ w).drew⟩, rfl⟩ (by
  have e : ∀ a', (∀ w', Below w.heap.size w w' → Q .normal a' w') → ∀ w', (∃ x : Later w, w' = x.at) → Q .normal a' w' := fun a' h w' ⟨x, hx⟩ => h w' (by rw [hx]; exact x.below)
  have mono : ∀ (l' : List Oper) (a : Act) (Q₁ Q₂ : Act → Prop), (∀ a, Q₁ a → Q₂ a) → wpQuiet P l.toArray (fun w' => ∃ x : Later w, w' = x.at) Q₁ l' a → wpQuiet P l.toArray (fun w' => ∃ x : Later w, w' = x.at) Q₂ l' a := by
   intro l'
   induction l' with
   | nil => exact fun a Q₁ Q₂ hq h => hq _ h
   | cons o l' ih =>
    intro a Q₁ Q₂ hq h
    simp only [wpQuiet] at h ⊢
    split
    ·rename_i hw
     rw [if_pos hw] at h
     exact Oper.quiet_mono (fun a h => ih a _ _ hq h) h
    ·rename_i hw
     rw [if_neg hw] at h
     exact ih _ _ _ hq h
  simpa using mono _ _ _ _ e h)

theorem lq {P : Program} {f : FuncId} {args : Array Value} {w : World} {x : Later w} {v : Value} (h : Calls P f args x.at (Ret x.at v)) :
  Calls P f args x.at fun e w'' => e = .returned v ∧ ∃ y : Later w, w'' = y.at :=
 h.mono fun _ _ ⟨he, hb⟩ => ⟨he, ⟨_, Below.on hb x.below⟩, rfl⟩
theorem lw {P : Program} {f : FuncId} {args : Array Value} {w : World} {x : Later w} {v : Value} (h : Calls P f args x.at fun e w' => e = .returned v ∧ x.at = w') :
  Calls P f args x.at fun e w'' => e = .returned v ∧ ∃ y : Later w, w'' = y.at :=
 h.mono fun _ _ ⟨he, hb⟩ => ⟨he, x, hb.symm⟩
end Go.Proofs.YtegaaccioppfjaaGreatDoor
end
section
namespace Go.Proofs.YtegaaccioppfjaaGreatDoor
open Go.RowKit Go.Shelf

def Blk (w : World) (g : Nat) (t : TypeId) (cs : Array Value) : Prop := w.heap[g]? = some (.cells cs t (0, 0))
section
variable {w w' : World} {g : Nat} {t : TypeId} {cs : Array Value}
theorem Blk.lt (h : Blk w g t cs) : g < w.heap.size := by
 rcases Nat.lt_or_ge g w.heap.size with hlt | hge
 ·exact hlt
 ·unfold Blk at h; rw [Array.getElem?_eq_none hge] at h; cases h
theorem Blk.cell (h : Blk w g t cs) (i : Nat) : w.cell? ⟨g, i, none⟩ = cs[i]? := cell_of_row w g i cs t (0, 0) h
theorem Blk.free (h : Blk w g t cs) (i : Nat) : w.frozen? ⟨g, i, none⟩ = false := by
 unfold Blk at h
 simp [World.frozen?, h]
theorem Blk.new0 (w : World) (t : TypeId) (cs : Array Value) : Blk (w.alloc (.cells cs t)) w.heap.size t cs := heap_alloc_new w _
theorem size_alloc (w : World) (o : Obj) : (w.alloc o).heap.size = w.heap.size + 1 := by
 show (w.heap.push o).size = _
 simp
theorem Blk.new1 (w : World) (o1 : Obj) (t : TypeId) (cs : Array Value) : Blk ((w.alloc o1).alloc (.cells cs t)) (w.heap.size + 1) t cs := by
 have := Blk.new0 (w.alloc o1) t cs
 rwa [size_alloc] at this
theorem Blk.new2 (w : World) (o1 o2 : Obj) (t : TypeId) (cs : Array Value) : Blk (((w.alloc o1).alloc o2).alloc (.cells cs t)) (w.heap.size + 1 + 1) t cs := by
 have := Blk.new1 (w.alloc o1) o2 t cs
 rwa [size_alloc] at this
theorem Blk.new3 (w : World) (o1 o2 o3 : Obj) (t : TypeId) (cs : Array Value) : Blk ((((w.alloc o1).alloc o2).alloc o3).alloc (.cells cs t)) (w.heap.size + 1 + 1 + 1) t cs := by
 have := Blk.new2 (w.alloc o1) o2 o3 t cs
 rwa [size_alloc] at this
theorem Blk.new4 (w : World) (o1 o2 o3 o4 : Obj) (t : TypeId) (cs : Array Value) : Blk (((((w.alloc o1).alloc o2).alloc o3).alloc o4).alloc (.cells cs t)) (w.heap.size + 1 + 1 + 1 + 1) t cs := by
 have := Blk.new3 (w.alloc o1) o2 o3 o4 t cs
 rwa [size_alloc] at this
theorem Blk.drew (h : Blk w g t cs) : Blk w.drew g t cs := h
theorem Blk.drewN (h : Blk w g t cs) (n : Nat) : Blk (w.drewN n) g t cs := h
theorem Blk.alloc (h : Blk w g t cs) (o : Obj) : Blk (w.alloc o) g t cs := (Below.heap_alloc w o g h.lt).trans h
theorem Blk.set_ (h : Blk w g t cs) (i : Nat) (u : Value) : Blk (w.setCell ⟨g, i, none⟩ u) g t (cs.setIfInBounds i u) := by
 unfold Blk at h ⊢
 simp [World.setCell, Array.getElem?_modify, h]
theorem Blk.far (h : Blk w g t cs) {p : Addr} (hp : g ≠ p.block) (u : Value) : Blk (w.setCell p u) g t cs := (Below.heap_setCell w p u g hp).trans h
theorem Blk.over {p : Addr} (hp : g ≠ p.block) {u : Value} (h : Blk w g t cs) : Blk (w.setCell p u) g t cs := h.far hp u
theorem Blk.on {B : Nat} (h : Blk w g t cs) (hb : Below B w w') (hg : g < B) : Blk w' g t cs := (hb.block g hg).trans h
theorem Blk.below (h : Blk w g t cs) (hb : Below w.heap.size w w') : Blk w' g t cs := (hb.block g h.lt).trans h
theorem wpList_load_blk {P : Program} {ops : Array Oper} {rest : List Oper} {o : Oper} {a : Act} {w : World} {Q : Exit → Act → World → Prop} {g : Nat} {t ty : TypeId} {cs : Array Value} {d : TypeDesc} (h0 : Blk w g t cs)
  (hgd : o.guard = none) (x : Operand) (ho : o.op = .load ty x) (hx : a.eval x = .pointer (some ⟨g, 0, none⟩))
  (hu : P.underlying ty = some d) (hd : (match d with | .struct _ | .array _ _ => true | _ => false) = true) (hi : (P.info? ty).map (·.size) = some cs.size)
  (h : wpList P ops Q rest (a.put o.dst (.agg cs)) w) : wpList P ops Q (o :: rest) a w :=
 wpList_load_row hgd ty x ho g hx t cs (0, 0) d h0 hu hd hi h
end
theorem Blk.rl {w : World} {g : Nat} {t : TypeId} {cs : Array Value} (h : Blk w g t cs) : (∀ i, w.cell? ⟨g, i, none⟩ = cs[i]?) ∧ (∀ i, w.frozen? ⟨g, i, none⟩ = false) ∧ g < w.heap.size ∧ g ≤ w.heap.size := ⟨Blk.cell h, Blk.free h, Blk.lt h, Nat.le_of_lt (Blk.lt h)⟩
theorem nwI {w : World} {g : Nat} {t : TypeId} {cs : Array Value} (h : Blk w g t cs := by first | with_reducible exact Blk.new0 _ _ _ | with_reducible exact Blk.new1 _ _ _ _ | with_reducible exact Blk.new2 _ _ _ _ _ | with_reducible exact Blk.new3 _ _ _ _ _ _ | with_reducible exact Blk.new4 _ _ _ _ _ _ _) : Blk w g t cs := h
end Go.Proofs.YtegaaccioppfjaaGreatDoor
end
section
namespace Go.Phx

abbrev Wd := BitVec 32
def ror (x : Wd) (n : Nat) : Wd := x >>> n ||| x <<< (32 - n)
def kTab : List Wd := [
 0x428a2f98, 0x71374491, 0xb5c0fbcf, 0xe9b5dba5, 0x3956c25b, 0x59f111f1, 0x923f82a4, 0xab1c5ed5,
 0xd807aa98, 0x12835b01, 0x243185be, 0x550c7dc3, 0x72be5d74, 0x80deb1fe, 0x9bdc06a7, 0xc19bf174,
 0xe49b69c1, 0xefbe4786, 0x0fc19dc6, 0x240ca1cc, 0x2de92c6f, 0x4a7484aa, 0x5cb0a9dc, 0x76f988da,
 0x983e5152, 0xa831c66d, 0xb00327c8, 0xbf597fc7, 0xc6e00bf3, 0xd5a79147, 0x06ca6351, 0x14292967,
 0x27b70a85, 0x2e1b2138, 0x4d2c6dfc, 0x53380d13, 0x650a7354, 0x766a0abb, 0x81c2c92e, 0x92722c85,
 0xa2bfe8a1, 0xa81a664b, 0xc24b8b70, 0xc76c51a3, 0xd192e819, 0xd6990624, 0xf40e3585, 0x106aa070,
 0x19a4c116, 0x1e376c08, 0x2748774c, 0x34b0bcb5, 0x391c0cb3, 0x4ed8aa4a, 0x5b9cca4f, 0x682e6ff3,
 0x748f82ee, 0x78a5636f, 0x84c87814, 0x8cc70208, 0x90befffa, 0xa4506ceb, 0xbef9a3f7, 0xc67178f2]
def wordOf (l : List UInt8) : Wd := l.foldl (fun x c => x <<< 8 ||| BitVec.ofNat 32 c.toNat) 0
def sig0 (x : Wd) : Wd := ror x 7 ^^^ ror x 18 ^^^ x >>> 3
def sig1 (x : Wd) : Wd := ror x 17 ^^^ ror x 19 ^^^ x >>> 10
def big0 (x : Wd) : Wd := ror x 2 ^^^ ror x 13 ^^^ ror x 22
def big1 (x : Wd) : Wd := ror x 6 ^^^ ror x 11 ^^^ ror x 25
def chf (e f g : Wd) : Wd := g ^^^ e &&& (f ^^^ g)
def maj (a b c : Wd) : Wd := a &&& b ||| c &&& (a ||| b)
def nextW (w : List Wd) : Wd := w.getD (w.length - 16) 0 + w.getD (w.length - 7) 0 + sig0 (w.getD (w.length - 15) 0) + sig1 (w.getD (w.length - 2) 0)
def grow : Nat → List Wd → List Wd
 | 0, w => w
 | n + 1, w => grow n (w ++ [nextW w])
structure St where
 a : Wd
 b : Wd
 c : Wd
 d : Wd
 e : Wd
 f : Wd
 g : Wd
 h : Wd
deriving DecidableEq
def one (v : St) (k w : Wd) : Wd := v.h + big1 v.e + chf v.e v.f v.g + k + w
def two (v : St) : Wd := big0 v.a + maj v.a v.b v.c
def rnd (v : St) (k w : Wd) : St := ⟨one v k w + two v, v.a, v.b, v.c, v.d + one v k w, v.e, v.f, v.g⟩
def rounds (v : St) (kw : List (Wd × Wd)) : St := kw.foldl (fun v x => rnd v x.1 x.2) v
def St.add (v u : St) : St := ⟨v.a + u.a, v.b + u.b, v.c + u.c, v.d + u.d, v.e + u.e, v.f + u.f, v.g + u.g, v.h + u.h⟩
def words16 (l : List UInt8) : List Wd := (List.range 16).map fun i => wordOf ((l.drop (4 * i)).take 4)
def takeB (h : St) (l : List UInt8) : St := h.add (rounds h (kTab.zip (grow 48 (words16 l))))
def iv : St := ⟨0x6a09e667, 0xbb67ae85, 0x3c6ef372, 0xa54ff53a, 0x510e527f, 0x9b05688c, 0x1f83d9ab, 0x5be0cd19⟩
def bytesW (x : Wd) : List UInt8 := [UInt8.ofNat (x.toNat / 16777216), UInt8.ofNat (x.toNat / 65536), UInt8.ofNat (x.toNat / 256), UInt8.ofNat x.toNat]
def St.bytes (v : St) : List UInt8 := bytesW v.a ++ bytesW v.b ++ bytesW v.c ++ bytesW v.d ++ bytesW v.e ++ bytesW v.f ++ bytesW v.g ++ bytesW v.h
def tail64 (n : Nat) : List UInt8 := [128] ++ List.replicate ((119 - n % 64) % 64) 0 ++ (List.range 8).map fun i => UInt8.ofNat (8 * n / 2 ^ (56 - 8 * i))
def padS (l : List UInt8) : List UInt8 := l ++ tail64 l.length
def takeAll : Nat → St → List UInt8 → St
 | 0, h, _ => h
 | n + 1, h, l => takeAll n (takeB h (l.take 64)) (l.drop 64)
def sha (l : List UInt8) : List UInt8 := (takeAll ((padS l).length / 64) iv (padS l)).bytes

theorem bytesW_len (x : Wd) : (bytesW x).length = 4 := rfl
theorem sha_len (l : List UInt8) : (sha l).length = 32 := by unfold sha St.bytes; simp [bytesW_len]
end Go.Phx
end
section
namespace Go.Proofs.YtegaaccioppfjaaGreatDoor
open Go.RowKit Go.Shelf

def SeqSt {α σ : Type} (F : Fence) (n : Nat) (P : Program) (g : Nat) (lb : Array Value) (encs : α → Array Value) (At : List α → α → σ → World → Prop)
  (Kp : σ → World → World → Prop) (Ab : σ → World → σ → World → Prop) (x0 : σ) (S Sp : List α → Prop) (w : World) : Prop :=
 ∀ (l : Nat) (J Jx : List α → σ → World → Prop) (W : World), Below w.heap.size w W →
  (∀ s x A y B, J s x A → Ab x A y B → J s y B) → (∀ s x A y B, Jx s x A → Ab x A y B → Jx s y B) →
  (∀ pre y x A, J pre x A → At pre y x A → YieldAt F (n - 1) P l (encs y) A fun e B =>
   (e = .returned (.bool true) ∧ J (pre ++ [y]) x B ∧ Kp x A B) ∨ (e = .returned (.bool false) ∧ Jx (pre ++ [y]) x B)) →
  J [] x0 W →
  CallsIn F n P g (#[.func (.yield l) #[] #[]] ++ lb) W fun e B => (∃ v, e = .returned v) ∧ ((∃ xs x, S xs ∧ J xs x B) ∨ (∃ pre x, Sp pre ∧ Jx pre x B))

theorem wpIn_rangeFunc_st {α σ : Type} {F : Fence} {n : Nat} {P : Program} {g : Operand} {ps : Array Tmp} {assign body : Code} {Q : Exit → Act → World → Prop} {a : Act} {w : World}
  (hro : F.round = none) (h1 : 1 ≤ n) {gf : Nat} {lb : Array Value} (hg : a.eval g = .func (.func gf) #[] lb) (hFg : F.fn gf) (eg : ∀ args w, (callFunc gf args).run P w = .ok (.enter gf args) w)
  {encs : α → Array Value} {At : List α → α → σ → World → Prop} {Kp : σ → World → World → Prop} {Ab : σ → World → σ → World → Prop} {x0 : σ} {S Sp : List α → Prop}
  (hseq : SeqSt F (n - 1) P gf lb encs At Kp Ab x0 S Sp w) (hps : ∀ y, (encs y).size = ps.size)
  (hKt : ∀ x A B C, Kp x A B → Kp x B C → Kp x A C) (hKb : ∀ x (W : World) (l : Nat) (o o' : Obj), w.heap.size ≤ l → W.heap[l]? = some o → o.isCells = false → o.isWalk = false → Kp x W (W.putObj l o'))
  (hAb : ∀ x (A : World) y (B : World) (k : Nat) (o : Obj), Ab x A y B → w.heap.size ≤ k → A.heap[k]? = some o → o.isCells = false → o.isWalk = false → B.heap[k]? = some o)
  (hAt : ∀ pre y x (W : World) (l : Nat) (o o' : Obj), At pre y x W → w.heap.size ≤ l → W.heap[l]? = some o → o.isCells = false → At pre y x (W.putObj l o'))
  (I : List α → σ → World → Prop) (Ix : Code → List α → σ → World → Prop) (hI : ∀ x, OwnFrom w.heap.size fun s W => I s x W) (hIx : ∀ c x, OwnFrom w.heap.size fun s W => Ix c s x W)
  (hIA : ∀ s x A y B, I s x A → Ab x A y B → I s y B) (hIxA : ∀ c s x A y B, Ix c s x A → Ab x A y B → Ix c s y B)
  (h0 : I [] x0 w) (a₁ : α → Act)
  (hassign : ∀ (l : Nat) (y : α) (W : World) (K : Act → World → Prop), K (a₁ y) W →
   assign.wpIn (F.inRound l) (n - 1 - 1) P (Exit.then K (fun _ _ _ => False)) { tmps := (ps.zip (encs y)).foldl (fun t (p, v) => t.setIfInBounds p v) a.tmps, defers := [] } W)
  (hbody : ∀ (l : Nat) (pre : List α) (y : α) (x : σ) (W : World), I pre x W → At pre y x W →
   body.wpIn (F.inRound l) (n - 1 - 1) P (ownPostK (Kp x) (fun s W => I s x W) (fun c s W => Ix c s x W) (pre ++ [y]) W) (a₁ y) W)
  (hdone : ∀ (D : Nat) (xs : List α) (x : σ) (W : World), w.heap.size ≤ D → S xs → I xs x W → W.heap[D]? = some (.deferred (some [])) → Q .normal { a with defers := { target := .collected D, args := #[] } :: a.defers } W)
  (hstop : ∀ (D : Nat) (c : Code) (pre : List α) (x : σ) (W : World), w.heap.size ≤ D → Sp pre → Ix c pre x W → W.heap[D]? = some (.deferred (some [])) → c.wpIn F n P Q { a with defers := { target := .collected D, args := #[] } :: a.defers } W) :
  (Code.rangeFunc g ps assign body).wpIn F n P Q a w := by
 refine wpIn_rangeFunc fun fn hfn => ?_
 rw [hro]
 obtain ⟨rec, hrec⟩ : ∃ rec : LoopState → Option Code → Loop, rec = fun st pe => { state := st, pending := pe, fn, tmps := a.tmps, params := ps, assign, body, defers := w.heap.size } := ⟨_, rfl⟩
 obtain ⟨V, hV⟩ : ∃ V, (w.alloc (.deferred (some []))).alloc (.loop (rec .ready none)) = V := ⟨_, rfl⟩
 have hLV : V.heap[w.heap.size + 1]? = some (.loop (rec .ready none)) := by
  rw [← hV]
  have := World.alloc_heap_new (w.alloc (.deferred (some []))) (.loop (rec .ready none))
  rwa [World.size_alloc] at this
 have hDV : V.heap[w.heap.size]? = some (.deferred (some [])) := by
  rw [← hV]
  exact (Below.heap_alloc _ _ _ (by simp)).trans (World.alloc_heap_new w _)
 have hIV : I [] x0 V := by rw [← hV]; exact (hI x0).alloc _ ((hI x0).alloc _ h0)
 have hBV : Below w.heap.size w V := by rw [← hV]; exact ((Below.refl _ w).alloc (Nat.le_refl _) _).alloc (by simp) _
 -- the caller's word with the two blocks of book-keeping beside it
 let J : List α → σ → World → Prop := fun s x W => I s x W ∧ W.heap[w.heap.size + 1]? = some (.loop (rec .ready none)) ∧ W.heap[w.heap.size]? = some (.deferred (some []))
 let Jx : List α → σ → World → Prop := fun s x W => ∃ c, Ix c s x W ∧ W.heap[w.heap.size + 1]? = some (.loop (rec .done (some c))) ∧ W.heap[w.heap.size]? = some (.deferred (some []))
 have hJ : ∀ s x A y B, J s x A → Ab x A y B → J s y B := fun s x A y B h hab => ⟨hIA _ _ _ _ _ h.1 hab, hAb _ _ _ _ _ _ hab (by omega) h.2.1 rfl rfl, hAb _ _ _ _ _ _ hab (Nat.le_refl _) h.2.2 rfl rfl⟩
 have hJx : ∀ s x A y B, Jx s x A → Ab x A y B → Jx s y B := fun s x A y B h hab => by
  obtain ⟨c, h1, h2, h3⟩ := h
  exact ⟨c, hIxA _ _ _ _ _ _ h1 hab, hAb _ _ _ _ _ _ hab (by omega) h2 rfl rfl, hAb _ _ _ _ _ _ hab (Nat.le_refl _) h3 rfl rfl⟩
 have round : ∀ pre y x A, J pre x A → At pre y x A → YieldAt F (n - 1 - 1) P (w.heap.size + 1) (encs y) A fun e B =>
   (e = .returned (.bool true) ∧ J (pre ++ [y]) x B ∧ Kp x A B) ∨ (e = .returned (.bool false) ∧ Jx (pre ++ [y]) x B) := by
  rintro pre y x W ⟨hi, hl, hk⟩ hat
  have hlt : w.heap.size + 1 < W.heap.size := (Array.getElem?_eq_some_iff.1 hl).1
  have hy := run_yield (P := P) (args := encs y) hl (by rw [hrec]; exact hps y)
  rw [hrec] at hy
  refine ⟨fn, _, assign, body, hy, roundIn_of_wpIn hfn (hassign _ y W _ ⟨_, run_beginRound hl (by rw [hrec]), ?_⟩)⟩
  have hl2 : (W.putObj (w.heap.size + 1) (.loop { rec .ready none with state := .busy })).heap[w.heap.size + 1]? = some (.loop { rec .ready none with state := .busy }) := World.putObj_heap_same hlt
  have hk2 : (W.putObj (w.heap.size + 1) (.loop { rec .ready none with state := .busy })).heap[w.heap.size]? = some (.deferred (some [])) := (World.putObj_heap_other (by omega)).trans hk
  have hw2 : Kp x W (W.putObj (w.heap.size + 1) (.loop { rec .ready none with state := .busy })) := hKb _ _ _ _ _ (by omega) hl rfl rfl
  refine wpIn_mono (hbody _ pre y x _ ((hI x).putObj _ hi (by omega) hl rfl) (hAt _ _ _ _ _ _ _ hat (by omega) hl rfl)) ?_
  have fin : ∀ (jump : Option Code) (W3 : World), KeepsOthers (W.putObj (w.heap.size + 1) (.loop { rec .ready none with state := .busy })) W3 →
    (Instr.endRound (w.heap.size + 1) jump).run P W3 = .ok (.bool jump.isNone) (W3.putObj (w.heap.size + 1) (.loop (rec (if jump.isNone then .ready else .done) jump))) ∧
    W3.heap[w.heap.size + 1]? = some (.loop { rec .ready none with state := .busy }) ∧
    (W3.putObj (w.heap.size + 1) (.loop (rec (if jump.isNone then .ready else .done) jump))).heap[w.heap.size + 1]? = some (.loop (rec (if jump.isNone then .ready else .done) jump)) ∧
    (W3.putObj (w.heap.size + 1) (.loop (rec (if jump.isNone then .ready else .done) jump))).heap[w.heap.size]? = some (.deferred (some [])) := fun jump W3 hk3 => by
   have hl3 := hk3.same _ _ hl2 rfl
   have h4 := run_endRound (P := P) jump hl3
   rw [hrec] at h4 ⊢
   exact ⟨h4, by rw [hrec] at hl3; exact hl3, World.putObj_heap_same (Array.getElem?_eq_some_iff.1 hl3).1, (World.putObj_heap_other (by omega)).trans (hk3.same _ _ hk2 rfl)⟩
  rintro e a3 W3 hp
  cases e with
  | normal =>
   obtain ⟨hk3, hkp3, hi3⟩ := hp
   obtain ⟨hr, hl3, hl4, hk4⟩ := fin none W3 hk3
   exact ⟨_, _, hr, .inl ⟨rfl, ⟨(hI x).putObj _ hi3 (by omega) hl3 rfl, hl4, hk4⟩, hKt _ _ _ _ (hKt _ _ _ _ hw2 hkp3) (hKb _ _ _ _ _ (by omega) hl3 rfl rfl)⟩⟩
  | ret =>
   obtain ⟨hr, hl3, hl4, hk4⟩ := fin (some .ret) W3 hp.1
   exact ⟨_, _, hr, .inr ⟨rfl, .ret, (hIx _ x).putObj _ hp.2 (by omega) hl3 rfl, hl4, hk4⟩⟩
  | exit id =>
   obtain ⟨hr, hl3, hl4, hk4⟩ := fin (some (.exit id)) W3 hp.1
   exact ⟨_, _, hr, .inr ⟨rfl, .exit id, (hIx _ x).putObj _ hp.2 (by omega) hl3 rfl, hl4, hk4⟩⟩
  | goto t =>
   obtain ⟨hr, hl3, hl4, hk4⟩ := fin (some (.goto t)) W3 hp.1
   exact ⟨_, _, hr, .inr ⟨rfl, .goto t, (hIx _ x).putObj _ hp.2 (by omega) hl3 rfl, hl4, hk4⟩⟩
  | panic ch => exact hp.elim
  | outgrown => exact hp.elim
 refine ⟨w.heap.size + 1, [{ target := .collected w.heap.size, args := #[] }], V, { target := .fn (.func gf) lb, args := #[.func (.yield (w.heap.size + 1)) #[] #[]] }, V, gf,
  #[.func (.yield (w.heap.size + 1)) #[] #[]] ++ lb, V, ?_, ?_, ?_, ?_, fun _ => h1, ?_⟩
 ·rw [← hV, hrec]; exact run_enterLoop_outer _ _ _ _ _
 ·simp only [resolve, hg]
  simp [go_sem]
 ·intro f' hf'
  simp [Target.leads] at hf'
  subst hf'
  exact hFg
 ·simp [invoke, go_sem, eg]
 refine (hseq (w.heap.size + 1) J Jx V hBV hJ hJx round ⟨hIV, hLV, hDV⟩).mono ?_
 rintro e W2 ⟨⟨v, rfl⟩, (⟨xs, x, hS, hi, hl, hk⟩ | ⟨pre, x, hSp, c, hi, hl, hk⟩)⟩
 ·exact ⟨none, _, by have := run_endLoop (P := P) hl (by rw [hrec]; simp); rw [hrec] at this; exact this, hdone _ xs x _ (Nat.le_refl _) hS ((hI x).putObj _ hi (by omega) hl rfl) ((World.putObj_heap_other (by omega)).trans hk)⟩
 ·exact ⟨some c, _, by have := run_endLoop (P := P) hl (by rw [hrec]; simp); rw [hrec] at this; exact this, hstop _ c pre x _ (Nat.le_refl _) hSp ((hIx c x).putObj _ hi (by omega) hl rfl) ((World.putObj_heap_other (by omega)).trans hk)⟩
end Go.Proofs.YtegaaccioppfjaaGreatDoor
end
section
namespace Go.Proofs.YtegaaccioppfjaaGreatDoor
open Go.RowKit Go.Shelf

section
variable {P : Program} {ops : Array Oper} {md : Region.Mode} {C : World → Prop}
def wpHd (P : Program) (md : Region.Mode) (ops : Array Oper) (C : World → Prop) (n : Nat) (L : Array Bool → Act → Prop) : Nat → Array Bool → Act → Prop
 | 0, listed, a => L listed a
 | f + 1, listed, a => Region.ready md ops listed ≠ [] ∧ ∀ i ∈ Region.ready md ops listed, i < n ∧ qOp P ops C i (wpHd P md ops C n L f (listed.setIfInBounds i true)) a
theorem any_of_hd {n g : Nat} {L : Array Bool → Act → Prop} {Q' : Exit → Act → World → Prop} (hL : ∀ listed a, L listed a → ∀ w, C w → wpAny P md ops Q' g listed a w) :
  ∀ (f : Nat) (listed : Array Bool) (a : Act) (w : World), C w → wpHd P md ops C n L f listed a → wpAny P md ops Q' (f + g) listed a w
 | 0, listed, a, w, hw, h => by rw [Nat.zero_add]; exact hL _ _ h w hw
 | f + 1, listed, a, w, hw, h => by
  rw [show f + 1 + g = (f + g) + 1 by omega]
  exact ⟨fun h0 => absurd h0 h.1, fun i hi => wpOp_of_qOp hw (fun a' w' hw' h' => any_of_hd hL f _ a' w' hw' h') (h.2 i hi).2⟩
theorem hd_first {n i : Nat} {oi : Oper} {v : Value} {L : Array Bool → Act → Prop} (hi : ops[i]? = some oi) (hsel : ∀ (j : Nat) (o : Oper) cs b, ops[j]? = some o → o.op ≠ .select cs b)
  (hs : Region.sinkB md ops n = true) (hc : Region.chainB md ops n = true) (hn : n < ops.size) (hin : i < n)
  (hdone : ∀ listed a, L listed a → ∀ j ∈ Region.ready md ops listed, n ≤ j) :
  ∀ (f : Nat) (listed : Array Bool) (a : Act), HeadInv md ops n listed →
   (∀ j oj, ops[j]? = some oj → j ≠ i → listed.getD j true = false → (∀ e ∈ oj.after, Region.binds md e = true → e.on ≠ i) → oi.apart ops oj = true) →
   i ∈ Region.ready md ops listed → YieldsIn P ops C oi v a →
   wpHd P md ops C n L f (listed.setIfInBounds i true) (a.put oi.dst v) → wpHd P md ops C n L (f + 1) listed a := by
 intro f
 induction f with
 | zero =>
  intro listed a inv _ hr hy H
  have hun := (mem_ready.1 hr).1
  refine ⟨fun h => (by rw [h] at hr; cases hr), fun j hj => ?_⟩
  have hjn : j < n := by
   rcases Nat.lt_or_ge j n with h | h
   ·exact h
   ·exact absurd hj (tail_waits hs hc hn inv _ i rfl hin hun j h)
  refine ⟨hjn, ?_⟩
  by_cases hji : j = i
  ·subst hji
   exact hy.qOp hi H
  ·have := hdone _ _ H j (ready_mono hj hji)
   omega
 | succ f ih =>
  intro listed a inv hfree hr hy H
  have hun := (mem_ready.1 hr).1
  refine ⟨fun h => (by rw [h] at hr; cases hr), fun j hj => ?_⟩
  have hjn : j < n := by
   rcases Nat.lt_or_ge j n with h | h
   ·exact h
   ·exact absurd hj (tail_waits hs hc hn inv _ i rfl hin hun j h)
  refine ⟨hjn, ?_⟩
  by_cases hji : j = i
  ·subst hji
   exact hy.qOp hi H
  ·obtain ⟨hjun, oj, hoj, hall⟩ := mem_ready.1 hj
   have hnot : ∀ e ∈ oj.after, Region.binds md e = true → e.on ≠ i := fun e he hb heq => by
    have h1 := hall e he hb
    rw [heq, getD_both hun] at h1
    cases h1
   have h2 := qOp_put hoj (hfree j oj hoj hji hjun hnot) (fun cs b => hsel i oi cs b hi) (fun cs b => hsel j oj cs b hoj) hy (H.2 j (ready_mono hj hji)).2
   refine qOp_mono (fun a' h3 => ih (listed.setIfInBounds j true) a' (inv.set hj hjn) (fun k ok hk hki hku hno => ?_) (ready_mono hr (Ne.symm hji)) h3.1 ?_) h2
   ·refine hfree k ok hk hki ?_ hno
    by_cases hjk : j = k
    ·subst hjk
     exact hjun
    ·rw [getD_set_ne true hjk] at hku
     exact hku
   ·rw [Array.setIfInBounds_comm _ _ hji]
    exact h3.2
theorem hd_lex {n g : Nat} {Lq : Act → Prop} (hsel : Region.noSelect ops = true) (hs : Region.sinkB md ops n = true) (hc : Region.chainB md ops n = true) (hn : n < ops.size) :
  ∀ (l : List Oper) (k : Nat) (listed : Array Bool) (a : Act), (∀ j, j < l.length → l[j]? = ops[k + j]?) → k + l.length = n → HeadInv md ops n listed →
  Region.lexHead md ops g l.length k listed = true → wpQuiet P ops C Lq l a →
  wpHd P md ops C n (fun listed' a' => Region.seqB md ops g n listed' = true ∧ Lq a') l.length listed a
 | [], k, listed, a, _, hk, _, hB, h => by
  have : k = n := by simpa using hk
  subst this
  exact ⟨by simpa [Region.lexHead] using hB, h⟩
 | o :: l, k, listed, a, hl, hk, inv, hB, h => by
  have h0 : ops[k]? = some o := by simpa using (hl 0 (by simp)).symm
  simp only [List.length_cons, Region.lexHead, Bool.and_eq_true] at hB
  obtain ⟨⟨hr, hf⟩, hB'⟩ := hB
  have hkn : k < n := by simp only [List.length_cons] at hk; omega
  have hr' : k ∈ Region.ready md ops listed := by simpa using hr
  have hst : qOp P ops C k (wpQuiet P ops C Lq l) a := by unfold qOp; simp only [h0]; exact h
  obtain ⟨v, hy, hK⟩ := yieldsIn_of_qOp h0 hst
  exact hd_first h0 (Region.noSelect_spec hsel) hs hc hn hkn (fun listed' a' hL => seqB_ready hL.1) l.length listed a inv (Region.free_spec h0 hf) hr' hy
   (hd_lex hsel hs hc hn l (k + 1) _ _ (fun j hj => by have := hl (j + 1) (by simp; omega); simpa [Nat.add_assoc, Nat.add_comm 1 j] using this) (by simp only [List.length_cons] at hk; omega) (inv.set hr' hkn) hB' hK)
theorem wp_region_class_tail {id : Nat} {Q : Exit → Act → World → Prop} {a : Act} {w : World} {l : List Oper} (n : Nat) (hm : P.follows .mixedOrders = true) (hB : Region.lexTailB .any l.toArray n = true)
  (hC : C { w with drawn := w.drawn + 1 }) (h : wpQuiet P l.toArray C (fun a' => ∀ w', C w' → wpList P l.toArray Q (l.drop n) a' w') (l.take n) a) : (Code.region id l.toArray true).wp P Q a w := by
 simp only [Region.lexTailB, Bool.and_eq_true, decide_eq_true_eq] at hB
 obtain ⟨⟨⟨⟨hsel, hn⟩, hs⟩, hc⟩, hlex⟩ := hB
 have hn' : n < l.length := by simpa using hn
 have htl : (l.take n).length = n := by simp; omega
 have hdl : (l.drop n).length = l.toArray.size - n := by simp
 have inv0 : HeadInv .any l.toArray n (Array.replicate l.toArray.size false) :=
  ⟨by simp, fun j oj _ hl => (by rw [getD_replicate_false] at hl; cases hl), fun t _ ht => getD_in (by simpa using ht) (getD_replicate_false _ _)⟩
 have H := hd_lex (md := .any) (g := l.toArray.size - n) hsel hs hc hn (l.take n) 0 _ a (fun j hj => by
  have hj' : j < n := by rw [htl] at hj; exact hj
  simp [hj']) (by simpa using htl) inv0 (by rw [htl]; exact hlex) h
 refine wp_region_any hm ?_
 have := any_of_hd (Q' := Q) (g := l.toArray.size - n) (fun listed a' hL w' hw' => by
  have := wpAny_of_seq (md := .any) (Q' := Q) (l.drop n) n listed a' w' (fun j => by simp [List.getElem?_drop]) (by rw [hdl]; exact hL.1) (hL.2 w' hw')
  rwa [hdl] at this) _ _ _ _ hC H
 rw [htl, show n + (l.toArray.size - n) = l.toArray.size by omega] at this
 exact this
theorem quiet_to {l : List Oper} {Q₁ Q₂ : Act → Prop} (hq : ∀ a, Q₁ a → Q₂ a) : ∀ (l' : List Oper) (a : Act), wpQuiet P l.toArray C Q₁ l' a → wpQuiet P l.toArray C Q₂ l' a := by
 intro l'
 induction l' with
 | nil => exact fun a h => hq _ h
 | cons o l' ih =>
  intro a h
  simp only [wpQuiet] at h ⊢
  split
  ·rename_i hw
   rw [if_pos hw] at h
   exact Oper.quiet_mono (fun a h => ih a h) h
  ·rename_i hw
   rw [if_neg hw] at h
   exact ih _ h
theorem wp_region_later_tail {id : Nat} {Q : Exit → Act → World → Prop} {a : Act} {w : World} {l : List Oper} (n : Nat) (hm : P.follows .mixedOrders = true) (hB : Region.lexTailB .any l.toArray n = true)
  (h : wpQuiet P l.toArray (fun w' => ∃ x : Later w, w' = x.at) (fun a' => ∀ w', Below w.heap.size w w' → wpList P l.toArray Q (l.drop n) a' w') (l.take n) a) : (Code.region id l.toArray true).wp P Q a w :=
 wp_region_class_tail n hm hB ⟨⟨_, (Below.refl _ w).drew⟩, rfl⟩ (quiet_to (fun a' h w' ⟨x, hx⟩ => h w' (by rw [hx]; exact x.below)) _ _ h)
end
end Go.Proofs.YtegaaccioppfjaaGreatDoor
end
section
namespace Go.Proofs.YtegaaccioppfjaaGreatDoor
open Go.RowKit Go.Shelf

section
variable {P : Program} {ops : Array Oper} {md : Region.Mode} {C : World → Prop} {l m : Nat}
def noDefer (ops : Array Oper) : Bool := ops.all fun o => match o.op with | .defer _ => false | _ => true
theorem noDefer_spec {i : Nat} {o : Oper} (h : noDefer ops = true) (hi : ops[i]? = some o) : ∀ c, o.op ≠ .defer c := by
 intro c hc
 obtain ⟨hlt, he⟩ := Array.getElem?_eq_some_iff.1 hi
 have := Array.all_eq_true.1 h i hlt
 rw [he, hc] at this
 cases this
theorem operIn_of_quiet {o : Oper} {a : Act} {K : Act → Prop} {K' : Act → World → Prop} {Q' : Exit → Act → World → Prop} {w : World} (hd : ∀ c, o.op ≠ .defer c) (hw : C w) (h : ∀ a w', C w' → K a → K' a w') (hh : o.quiet P a C K) :
  o.wpIn (Fence.wide.inRound l) m P a w K' Q' := by
 obtain ⟨v, h1, h2⟩ := hh
 have h3 := h1 w hw
 unfold Oper.quietAt at h3
 refine ⟨fun _ _ => trivial, ?_⟩
 rw [Oper.semAt_plain _ _ _ hd]
 generalize (execOp a.eval o).run P w = r at *
 cases r with
 | ok n w' =>
  cases n <;> simp only [Oper.quietUpon] at h3 <;> simp only [Oper.uponIn]
  case value u =>
   obtain ⟨e1, e2⟩ := h3
   rw [e1, e2]
   exact h _ _ hw h2
  case skip =>
   obtain ⟨e1, e2⟩ := h3
   rw [e1, ← e2]
   exact h _ _ hw h2
  case enter f args =>
   obtain ⟨e1, hc⟩ := h3
   rw [e1]
   refine ⟨fun hs => by simp [Fence.inRound, Fence.wide] at hs, CallsIn.inRound l (callsIn_wide.2 (hc.mono ?_))⟩
   intro e w'' ⟨he, hw''⟩
   subst he
   exact h _ _ hw'' h2
 | halt x w' => simp only [Oper.quietUpon] at h3
theorem opIn_of_q {i : Nat} {a : Act} {K : Act → Prop} {K' : Act → World → Prop} {Q' : Exit → Act → World → Prop} {w : World} (hd : noDefer ops = true) (hC : C w) (h : ∀ a w', C w' → K a → K' a w') (hh : qOp P ops C i K a) :
  wpOpIn (Fence.wide.inRound l) m P ops Q' i K' a w := by
 unfold qOp at hh
 unfold wpOpIn
 split
 ·rename_i ho
  simp only [ho] at hh
  exact h _ _ hC hh
 ·rename_i o ho
  simp only [ho] at hh
  split
  ·rename_i hw
   simp only [hw, if_true] at hh
   exact operIn_of_quiet (noDefer_spec hd ho) hC h hh
  ·rename_i hw
   simp only [hw] at hh
   exact ⟨fun _ _ => trivial, h _ _ hC hh⟩
theorem anyIn_of_hd {n g : Nat} {L : Array Bool → Act → Prop} {Q' : Exit → Act → World → Prop} (hd : noDefer ops = true) (hL : ∀ listed a, L listed a → ∀ w, C w → wpAnyIn (Fence.wide.inRound l) m P md ops Q' g listed a w) :
  ∀ (f : Nat) (listed : Array Bool) (a : Act) (w : World), C w → wpHd P md ops C n L f listed a → wpAnyIn (Fence.wide.inRound l) m P md ops Q' (f + g) listed a w
 | 0, listed, a, w, hw, h => by rw [Nat.zero_add]; exact hL _ _ h w hw
 | f + 1, listed, a, w, hw, h => by
  rw [show f + 1 + g = (f + g) + 1 by omega]
  exact ⟨fun h0 => absurd h0 h.1, fun i hi => opIn_of_q hd hw (fun a' w' hw' h' => anyIn_of_hd hd hL f _ a' w' hw' h') (h.2 i hi).2⟩
theorem anyIn_of_seq {F : Fence} {Q' : Exit → Act → World → Prop} : ∀ (l : List Oper) (k : Nat) (listed : Array Bool) (a : Act) (w : World), (∀ j, l[j]? = ops[k + j]?) →
  Region.seqB md ops l.length k listed = true → wpListIn F m P ops Q' l a w → wpAnyIn F m P md ops Q' l.length listed a w
 | [], _, _, _, _, _, hB, h => ⟨by simpa [Region.seqB] using hB, h⟩
 | o :: l, k, listed, a, w, hl, hB, h => by
  have h0 : ops[k]? = some o := by simpa using (hl 0).symm
  simp only [List.length_cons, Region.seqB, Bool.and_eq_true, decide_eq_true_eq] at hB
  refine ⟨fun h1 => (by rw [hB.1] at h1; cases h1), fun i hi => ?_⟩
  rw [hB.1] at hi
  have hik : i = k := by simpa using hi
  subst hik
  have hw : wpOpIn F m P ops Q' i (wpListIn F m P ops Q' l) a w := by unfold wpOpIn; simp only [h0]; exact h
  exact wpOpIn_mono (fun a' w' h' => anyIn_of_seq l (i + 1) _ a' w' (fun j => by have := hl (j + 1); simpa [Nat.add_assoc, Nat.add_comm 1 j] using this) hB.2 h') hw
theorem wpIn_round_later_tail {id : Nat} {Q : Exit → Act → World → Prop} {a : Act} {w : World} {ls : List Oper} (n : Nat) (hm : P.follows .mixedOrders = true) (hB : Region.lexTailB .any ls.toArray n = true) (hd : noDefer ls.toArray = true)
  (h : wpQuiet P ls.toArray (fun w' => ∃ x : Later w, w' = x.at) (fun a' => ∀ w', Below w.heap.size w w' → wpListIn (Fence.wide.inRound l) m P ls.toArray Q (ls.drop n) a' w') (ls.take n) a) :
  (Code.region id ls.toArray true).wpIn (Fence.wide.inRound l) m P Q a w := by
 simp only [Region.lexTailB, Bool.and_eq_true, decide_eq_true_eq] at hB
 obtain ⟨⟨⟨⟨hsel, hn⟩, hs⟩, hc⟩, hlex⟩ := hB
 have hn' : n < ls.length := by simpa using hn
 have htl : (ls.take n).length = n := by simp; omega
 have hdl : (ls.drop n).length = ls.toArray.size - n := by simp
 have inv0 : HeadInv .any ls.toArray n (Array.replicate ls.toArray.size false) :=
  ⟨by simp, fun j oj _ hl => (by rw [getD_replicate_false] at hl; cases hl), fun t _ ht => getD_in (by simpa using ht) (getD_replicate_false _ _)⟩
 have H := hd_lex (md := .any) (g := ls.toArray.size - n) hsel hs hc hn (ls.take n) 0 _ a (fun j hj => by
  have hj' : j < n := by rw [htl] at hj; exact hj
  simp [hj']) (by simpa using htl) inv0 (by rw [htl]; exact hlex) h
 refine wpIn_region_any hm ?_
 have := anyIn_of_hd (l := l) (m := m) (Q' := Q) (g := ls.toArray.size - n) hd (fun listed a' hL w' hw' => by
  have := anyIn_of_seq (ops := ls.toArray) (F := Fence.wide.inRound l) (m := m) (md := .any) (Q' := Q) (ls.drop n) n listed a' w' (fun j => by simp [List.getElem?_drop]) (by rw [hdl]; exact hL.1) (by
   obtain ⟨x, hx⟩ := hw'
   exact hL.2 w' (by rw [hx]; exact x.below))
  rwa [hdl] at this) _ _ _ { w with drawn := w.drawn + 1 } ⟨⟨_, (Below.refl _ w).drew⟩, rfl⟩ H
 rw [htl, show n + (ls.toArray.size - n) = ls.toArray.size by omega] at this
 exact this
end
end Go.Proofs.YtegaaccioppfjaaGreatDoor
end
section
namespace Go.Proofs.YtegaaccioppfjaaGreatDoor
open Go.RowKit Go.Shelf

theorem Blk.later {w w' : World} {g : Nat} {t : TypeId} {cs : Array Value} (hb : Below w.heap.size w w') (h : Blk w g t cs) : Blk w' g t cs := h.below hb
theorem Blk.to {W : World} {g : Nat} {t : TypeId} {cs cs' : Array Value} (h : Blk W g t cs) (e : cs = cs') : Blk W g t cs' := e ▸ h
theorem Blk.over2 {w : World} {g b i : Nat} {t : TypeId} {cs : Array Value} {u : Value} (hp : g ≠ b) (h : Blk w g t cs) : Blk (w.setCell ⟨b, i, none⟩ u) g t cs := h.far hp u
theorem Blk.newAt {w : World} {g : Nat} {t : TypeId} {cs : Array Value} (hs : w.heap.size = g) : Blk (w.alloc (.cells cs t)) g t cs := hs ▸ Blk.new0 w t cs
theorem size_set (w : World) (p : Addr) (u : Value) : (w.setCell p u).heap.size = w.heap.size := by simp [World.setCell]
theorem Blk.newS1 (w : World) (p : Addr) (u : Value) (t : TypeId) (cs : Array Value) : Blk ((w.setCell p u).alloc (.cells cs t)) w.heap.size t cs := Blk.newAt (size_set _ _ _)
theorem Blk.newS2 (w : World) (p p' : Addr) (u u' : Value) (t : TypeId) (cs : Array Value) : Blk (((w.setCell p u).setCell p' u').alloc (.cells cs t)) w.heap.size t cs := Blk.newAt (by rw [size_set, size_set])
theorem Blk.newS3 (w : World) (p p' p'' : Addr) (u u' u'' : Value) (t : TypeId) (cs : Array Value) : Blk ((((w.setCell p u).setCell p' u').setCell p'' u'').alloc (.cells cs t)) w.heap.size t cs := Blk.newAt (by rw [size_set, size_set, size_set])
theorem blk_kept {W W' : World} {g : Nat} {t : TypeId} {cs : Array Value} {row : Option Nat} (h : Blk W g t cs) (hg : W.grownBy W' row) (hr : ∀ r, row = some r → ∃ o : Obj, W.heap[r]? = some o ∧ o.isCells = false) : Blk W' g t cs := by
 refine (hg.block g h.lt ?_).trans h
 intro e
 obtain ⟨o, ho, hc⟩ := hr g e.symm
 unfold Blk at h
 rw [h] at ho
 injection ho with ho
 subst ho
 simp [Obj.isCells] at hc
theorem nwJ {w : World} {g : Nat} {t : TypeId} {cs : Array Value} (h : Blk w g t cs := by first | with_reducible exact Blk.new0 _ _ _ | with_reducible exact Blk.new1 _ _ _ _ | with_reducible exact Blk.new2 _ _ _ _ _ | with_reducible exact Blk.new3 _ _ _ _ _ _ | with_reducible exact Blk.new4 _ _ _ _ _ _ _ | with_reducible exact Blk.newS1 _ _ _ _ _ | with_reducible exact Blk.newS2 _ _ _ _ _ _ _ | with_reducible exact Blk.newS3 _ _ _ _ _ _ _ _ _) : Blk w g t cs := h
theorem blI {w : World} {g : Nat} {t : TypeId} {cs : Array Value} (h : Blk w g t cs := by repeat (first | with_reducible assumption | exact nwI | with_reducible apply Blk.set_ | with_reducible apply Blk.alloc | with_reducible apply Blk.drewN | with_reducible apply Blk.drew | (with_reducible apply Blk.over; first | (intro h; omega) | (simp; done) | (simp; omega)))) : Blk w g t cs := h
theorem blJ {w : World} {g : Nat} {t : TypeId} {cs : Array Value} (h : Blk w g t cs := by repeat (first | with_reducible assumption | exact nwJ | with_reducible apply Blk.set_ | with_reducible apply Blk.alloc | with_reducible apply Blk.drewN | with_reducible apply Blk.drew | (with_reducible apply Blk.over2; first | assumption | omega))) : Blk w g t cs := h
theorem sB {α : Type} (a : List α) (i : Nat) (v : α) : a.toArray.setIfInBounds i v = (a.set i v).toArray := List.setIfInBounds_toArray a i v
theorem sC {α : Type} {x : α} {a : List α} {i : Nat} {v : α} : (x :: a).set (i + 1) v = x :: a.set i v := List.set_cons_succ
theorem sD {α : Type} {x : α} {a : List α} {v : α} : (x :: a).set 0 v = v :: a := List.set_cons_zero
theorem hkI {w0 w w' : World} {g : Nat} {t : TypeId} {cs0 cs : Array Value} (kk : Blk w0 g t cs0) (hb : Below w.heap.size w w') (h : Blk w0 g t cs0 → Blk w g t cs := by intro kk; repeat (first | with_reducible assumption | exact nwI | with_reducible apply Blk.set_ | with_reducible apply Blk.alloc | with_reducible apply Blk.drewN | with_reducible apply Blk.drew | (with_reducible apply Blk.over; first | (intro h; omega) | (simp; done) | (simp; omega)))) : RowKit.Hid (Blk w' g t cs) := Lib.hid ((h kk).below hb)
theorem hkJ {w0 w w' : World} {g : Nat} {t : TypeId} {cs0 cs : Array Value} (kk : Blk w0 g t cs0) (hb : Below w.heap.size w w') (h : Blk w0 g t cs0 → Blk w g t cs := by intro kk; repeat (first | with_reducible assumption | exact nwJ | with_reducible apply Blk.set_ | with_reducible apply Blk.alloc | with_reducible apply Blk.drewN | with_reducible apply Blk.drew | (with_reducible apply Blk.over2; first | assumption | omega))) : RowKit.Hid (Blk w' g t cs) := Lib.hid ((h kk).below hb)
theorem hn_ {w w' : World} {g : Nat} {t : TypeId} {cs : Array Value} (h : RowKit.Hid (Blk w g t cs)) (hb : Below w.heap.size w w') : RowKit.Hid (Blk w' g t cs) := Lib.hid (Blk.below (RowKit.Hid.out h) hb)
theorem rl_ {w : World} {g : Nat} {t : TypeId} {cs : Array Value} (h : RowKit.Hid (Blk w g t cs)) : (∀ i, w.cell? ⟨g, i, none⟩ = cs[i]?) ∧ (∀ i, w.frozen? ⟨g, i, none⟩ = false) ∧ g < w.heap.size ∧ g ≤ w.heap.size := Blk.rl (RowKit.Hid.out h)
theorem hb_ {w w' : World} {g : Nat} {t : TypeId} {cs : Array Value} (h : Blk w g t cs) (hb : Below w.heap.size w w') : RowKit.Hid (Blk w' g t cs) := Lib.hid (h.below hb)
end Go.Proofs.YtegaaccioppfjaaGreatDoor
end
section
namespace Go.Proofs.YtegaaccioppfjaaGreatDoor
open BigFrame Go.RowKit Go.Phx Go.Shelf
attribute [local go_sem] Oper.semAt_some

def vw (x : Wd) : Int := (x.toNat : Int)
theorem vw_nonneg (x : Wd) : 0 ≤ vw x := Int.natCast_nonneg _
theorem vw_lt (x : Wd) : vw x < 4294967296 := by have := x.isLt; unfold vw; omega
@[go_sem] theorem xor_w (x y : Wd) : bits .xor .u32 (vw x) (vw y) = vw (x ^^^ y) := by
 unfold vw
 rw [u32_xor_nat _ _ x.isLt y.isLt, BitVec.toNat_xor]
@[go_sem] theorem and_w (x y : Wd) : bits .and .u32 (vw x) (vw y) = vw (x &&& y) := by
 unfold vw
 rw [u32_and_nat _ _ x.isLt y.isLt, BitVec.toNat_and]
@[go_sem] theorem or_w (x y : Wd) : bits .or .u32 (vw x) (vw y) = vw (x ||| y) := by
 unfold vw
 rw [u32_or_nat _ _ x.isLt y.isLt, BitVec.toNat_or]
@[go_sem] theorem add_w (x y : Wd) : IntKind.u32.wrap (vw x + vw y) = vw (x + y) := by
 unfold vw
 rw [IntKind.wrap_u32', BitVec.toNat_add]
 omega
theorem shl_w (x : Wd) (n : Nat) (k : Int) (hk : k = 2 ^ n) : IntKind.u32.wrap (vw x * k) = vw (x <<< n) := by
 unfold vw
 rw [IntKind.wrap_u32', BitVec.toNat_shiftLeft, Nat.shiftLeft_eq, hk]
 have e : ((x.toNat : Int)) * 2 ^ n = ((x.toNat * 2 ^ n : Nat) : Int) := by rw [Int.natCast_mul, Int.natCast_pow]; rfl
 rw [e]
 omega
theorem shr_w (x : Wd) (n : Nat) (k : Int) (hk : k = 2 ^ n) : vw x / k = vw (x >>> n) := by
 unfold vw
 rw [BitVec.toNat_ushiftRight, Nat.shiftRight_eq_div_pow, hk, Int.natCast_ediv, Int.natCast_pow]
 rfl
theorem rot_2 (x : Wd) (w : World) : Calls Tryz.prog 217 #[.int .u32 (vw x), .int .i64 (-2)] w fun e w' => e = .returned (.int .u32 (vw (ror x 2))) ∧ w = w' := by
 have h1 := vw_nonneg x
 have h2 := vw_lt x
 have e0 : bits .and .u64 (IntKind.u64.wrap (-2)) 31 = 30 := by decide
 have e1 := shl_w x 30 1073741824 rfl
 have e2 := shr_w x 2 4 rfl
 go_enter Tryz.func217, Tryz.ntmps217
 go_wp2_with fail
 go_ret
 refine ⟨?_, rfl⟩
 unfold ror
 rw [BitVec.or_comm]
 rfl
theorem turn_2 (x : Wd) (w : World) : Calls Tryz.prog 197 #[.int .u32 (vw x), .int .i64 2] w fun e w' => e = .returned (.int .u32 (vw (ror x 2))) ∧ w = w' := by
 go_enter Tryz.func197, Tryz.ntmps197
 go_wp2_with fail
 refine (rot_2 x _).mono ?_
 rintro e w' ⟨rfl, rfl⟩
 go_wp2_with fail
 go_ret
 exact ⟨rfl, rfl⟩
theorem rot_6 (x : Wd) (w : World) : Calls Tryz.prog 217 #[.int .u32 (vw x), .int .i64 (-6)] w fun e w' => e = .returned (.int .u32 (vw (ror x 6))) ∧ w = w' := by
 have h1 := vw_nonneg x
 have h2 := vw_lt x
 have e0 : bits .and .u64 (IntKind.u64.wrap (-6)) 31 = 26 := by decide
 have e1 := shl_w x 26 67108864 rfl
 have e2 := shr_w x 6 64 rfl
 go_enter Tryz.func217, Tryz.ntmps217
 go_wp2_with fail
 go_ret
 refine ⟨?_, rfl⟩
 unfold ror
 rw [BitVec.or_comm]
 rfl
theorem turn_6 (x : Wd) (w : World) : Calls Tryz.prog 197 #[.int .u32 (vw x), .int .i64 6] w fun e w' => e = .returned (.int .u32 (vw (ror x 6))) ∧ w = w' := by
 go_enter Tryz.func197, Tryz.ntmps197
 go_wp2_with fail
 refine (rot_6 x _).mono ?_
 rintro e w' ⟨rfl, rfl⟩
 go_wp2_with fail
 go_ret
 exact ⟨rfl, rfl⟩
theorem rot_7 (x : Wd) (w : World) : Calls Tryz.prog 217 #[.int .u32 (vw x), .int .i64 (-7)] w fun e w' => e = .returned (.int .u32 (vw (ror x 7))) ∧ w = w' := by
 have h1 := vw_nonneg x
 have h2 := vw_lt x
 have e0 : bits .and .u64 (IntKind.u64.wrap (-7)) 31 = 25 := by decide
 have e1 := shl_w x 25 33554432 rfl
 have e2 := shr_w x 7 128 rfl
 go_enter Tryz.func217, Tryz.ntmps217
 go_wp2_with fail
 go_ret
 refine ⟨?_, rfl⟩
 unfold ror
 rw [BitVec.or_comm]
 rfl
theorem turn_7 (x : Wd) (w : World) : Calls Tryz.prog 197 #[.int .u32 (vw x), .int .i64 7] w fun e w' => e = .returned (.int .u32 (vw (ror x 7))) ∧ w = w' := by
 go_enter Tryz.func197, Tryz.ntmps197
 go_wp2_with fail
 refine (rot_7 x _).mono ?_
 rintro e w' ⟨rfl, rfl⟩
 go_wp2_with fail
 go_ret
 exact ⟨rfl, rfl⟩
theorem rot_11 (x : Wd) (w : World) : Calls Tryz.prog 217 #[.int .u32 (vw x), .int .i64 (-11)] w fun e w' => e = .returned (.int .u32 (vw (ror x 11))) ∧ w = w' := by
 have h1 := vw_nonneg x
 have h2 := vw_lt x
 have e0 : bits .and .u64 (IntKind.u64.wrap (-11)) 31 = 21 := by decide
 have e1 := shl_w x 21 2097152 rfl
 have e2 := shr_w x 11 2048 rfl
 go_enter Tryz.func217, Tryz.ntmps217
 go_wp2_with fail
 go_ret
 refine ⟨?_, rfl⟩
 unfold ror
 rw [BitVec.or_comm]
 rfl
theorem turn_11 (x : Wd) (w : World) : Calls Tryz.prog 197 #[.int .u32 (vw x), .int .i64 11] w fun e w' => e = .returned (.int .u32 (vw (ror x 11))) ∧ w = w' := by
 go_enter Tryz.func197, Tryz.ntmps197
 go_wp2_with fail
 refine (rot_11 x _).mono ?_
 rintro e w' ⟨rfl, rfl⟩
 go_wp2_with fail
 go_ret
 exact ⟨rfl, rfl⟩
theorem rot_13 (x : Wd) (w : World) : Calls Tryz.prog 217 #[.int .u32 (vw x), .int .i64 (-13)] w fun e w' => e = .returned (.int .u32 (vw (ror x 13))) ∧ w = w' := by
 have h1 := vw_nonneg x
 have h2 := vw_lt x
 have e0 : bits .and .u64 (IntKind.u64.wrap (-13)) 31 = 19 := by decide
 have e1 := shl_w x 19 524288 rfl
 have e2 := shr_w x 13 8192 rfl
 go_enter Tryz.func217, Tryz.ntmps217
 go_wp2_with fail
 go_ret
 refine ⟨?_, rfl⟩
 unfold ror
 rw [BitVec.or_comm]
 rfl
theorem turn_13 (x : Wd) (w : World) : Calls Tryz.prog 197 #[.int .u32 (vw x), .int .i64 13] w fun e w' => e = .returned (.int .u32 (vw (ror x 13))) ∧ w = w' := by
 go_enter Tryz.func197, Tryz.ntmps197
 go_wp2_with fail
 refine (rot_13 x _).mono ?_
 rintro e w' ⟨rfl, rfl⟩
 go_wp2_with fail
 go_ret
 exact ⟨rfl, rfl⟩
theorem rot_17 (x : Wd) (w : World) : Calls Tryz.prog 217 #[.int .u32 (vw x), .int .i64 (-17)] w fun e w' => e = .returned (.int .u32 (vw (ror x 17))) ∧ w = w' := by
 have h1 := vw_nonneg x
 have h2 := vw_lt x
 have e0 : bits .and .u64 (IntKind.u64.wrap (-17)) 31 = 15 := by decide
 have e1 := shl_w x 15 32768 rfl
 have e2 := shr_w x 17 131072 rfl
 go_enter Tryz.func217, Tryz.ntmps217
 go_wp2_with fail
 go_ret
 refine ⟨?_, rfl⟩
 unfold ror
 rw [BitVec.or_comm]
 rfl
theorem turn_17 (x : Wd) (w : World) : Calls Tryz.prog 197 #[.int .u32 (vw x), .int .i64 17] w fun e w' => e = .returned (.int .u32 (vw (ror x 17))) ∧ w = w' := by
 go_enter Tryz.func197, Tryz.ntmps197
 go_wp2_with fail
 refine (rot_17 x _).mono ?_
 rintro e w' ⟨rfl, rfl⟩
 go_wp2_with fail
 go_ret
 exact ⟨rfl, rfl⟩
theorem rot_18 (x : Wd) (w : World) : Calls Tryz.prog 217 #[.int .u32 (vw x), .int .i64 (-18)] w fun e w' => e = .returned (.int .u32 (vw (ror x 18))) ∧ w = w' := by
 have h1 := vw_nonneg x
 have h2 := vw_lt x
 have e0 : bits .and .u64 (IntKind.u64.wrap (-18)) 31 = 14 := by decide
 have e1 := shl_w x 14 16384 rfl
 have e2 := shr_w x 18 262144 rfl
 go_enter Tryz.func217, Tryz.ntmps217
 go_wp2_with fail
 go_ret
 refine ⟨?_, rfl⟩
 unfold ror
 rw [BitVec.or_comm]
 rfl
theorem turn_18 (x : Wd) (w : World) : Calls Tryz.prog 197 #[.int .u32 (vw x), .int .i64 18] w fun e w' => e = .returned (.int .u32 (vw (ror x 18))) ∧ w = w' := by
 go_enter Tryz.func197, Tryz.ntmps197
 go_wp2_with fail
 refine (rot_18 x _).mono ?_
 rintro e w' ⟨rfl, rfl⟩
 go_wp2_with fail
 go_ret
 exact ⟨rfl, rfl⟩
theorem rot_19 (x : Wd) (w : World) : Calls Tryz.prog 217 #[.int .u32 (vw x), .int .i64 (-19)] w fun e w' => e = .returned (.int .u32 (vw (ror x 19))) ∧ w = w' := by
 have h1 := vw_nonneg x
 have h2 := vw_lt x
 have e0 : bits .and .u64 (IntKind.u64.wrap (-19)) 31 = 13 := by decide
 have e1 := shl_w x 13 8192 rfl
 have e2 := shr_w x 19 524288 rfl
 go_enter Tryz.func217, Tryz.ntmps217
 go_wp2_with fail
 go_ret
 refine ⟨?_, rfl⟩
 unfold ror
 rw [BitVec.or_comm]
 rfl
theorem turn_19 (x : Wd) (w : World) : Calls Tryz.prog 197 #[.int .u32 (vw x), .int .i64 19] w fun e w' => e = .returned (.int .u32 (vw (ror x 19))) ∧ w = w' := by
 go_enter Tryz.func197, Tryz.ntmps197
 go_wp2_with fail
 refine (rot_19 x _).mono ?_
 rintro e w' ⟨rfl, rfl⟩
 go_wp2_with fail
 go_ret
 exact ⟨rfl, rfl⟩
theorem rot_22 (x : Wd) (w : World) : Calls Tryz.prog 217 #[.int .u32 (vw x), .int .i64 (-22)] w fun e w' => e = .returned (.int .u32 (vw (ror x 22))) ∧ w = w' := by
 have h1 := vw_nonneg x
 have h2 := vw_lt x
 have e0 : bits .and .u64 (IntKind.u64.wrap (-22)) 31 = 10 := by decide
 have e1 := shl_w x 10 1024 rfl
 have e2 := shr_w x 22 4194304 rfl
 go_enter Tryz.func217, Tryz.ntmps217
 go_wp2_with fail
 go_ret
 refine ⟨?_, rfl⟩
 unfold ror
 rw [BitVec.or_comm]
 rfl
theorem turn_22 (x : Wd) (w : World) : Calls Tryz.prog 197 #[.int .u32 (vw x), .int .i64 22] w fun e w' => e = .returned (.int .u32 (vw (ror x 22))) ∧ w = w' := by
 go_enter Tryz.func197, Tryz.ntmps197
 go_wp2_with fail
 refine (rot_22 x _).mono ?_
 rintro e w' ⟨rfl, rfl⟩
 go_wp2_with fail
 go_ret
 exact ⟨rfl, rfl⟩
theorem rot_25 (x : Wd) (w : World) : Calls Tryz.prog 217 #[.int .u32 (vw x), .int .i64 (-25)] w fun e w' => e = .returned (.int .u32 (vw (ror x 25))) ∧ w = w' := by
 have h1 := vw_nonneg x
 have h2 := vw_lt x
 have e0 : bits .and .u64 (IntKind.u64.wrap (-25)) 31 = 7 := by decide
 have e1 := shl_w x 7 128 rfl
 have e2 := shr_w x 25 33554432 rfl
 go_enter Tryz.func217, Tryz.ntmps217
 go_wp2_with fail
 go_ret
 refine ⟨?_, rfl⟩
 unfold ror
 rw [BitVec.or_comm]
 rfl
theorem turn_25 (x : Wd) (w : World) : Calls Tryz.prog 197 #[.int .u32 (vw x), .int .i64 25] w fun e w' => e = .returned (.int .u32 (vw (ror x 25))) ∧ w = w' := by
 go_enter Tryz.func197, Tryz.ntmps197
 go_wp2_with fail
 refine (rot_25 x _).mono ?_
 rintro e w' ⟨rfl, rfl⟩
 go_wp2_with fail
 go_ret
 exact ⟨rfl, rfl⟩
theorem turn_of (x : Wd) (n : Int) (h : n = 2 ∨ n = 6 ∨ n = 7 ∨ n = 11 ∨ n = 13 ∨ n = 17 ∨ n = 18 ∨ n = 19 ∨ n = 22 ∨ n = 25) (w : World) : Calls Tryz.prog 197 #[.int .u32 (vw x), .int .i64 n] w fun e w' => e = .returned (.int .u32 (vw (ror x n.toNat))) ∧ w = w' := by
 rcases h with rfl | rfl | rfl | rfl | rfl | rfl | rfl | rfl | rfl | rfl
 ·exact turn_2 x w
 ·exact turn_6 x w
 ·exact turn_7 x w
 ·exact turn_11 x w
 ·exact turn_13 x w
 ·exact turn_17 x w
 ·exact turn_18 x w
 ·exact turn_19 x w
 ·exact turn_22 x w
 ·exact turn_25 x w
def cw (L : List Wd) : Array Value := (L.map fun x => Value.int .u32 (vw x)).toArray
theorem cw_get {L : List Wd} {i : Nat} (h : i < L.length) : (cw L)[i]? = some (.int .u32 (vw (L.getD i 0))) := by
 unfold cw
 simp [List.getElem?_eq_getElem h, List.getD]
theorem cw_set (L : List Wd) (i : Nat) (x : Wd) : (cw L).setIfInBounds i (.int .u32 (vw x)) = cw (L.set i x) := by
 unfold cw
 rw [List.setIfInBounds_toArray, List.map_set]
def bw (c : UInt8) : Wd := BitVec.ofNat 32 c.toNat
theorem vw_bw (c : UInt8) : vw (bw c) = (c.toNat : Int) := by
 unfold vw bw
 rw [BitVec.toNat_ofNat]
 have := c.toNat_lt
 omega
theorem bw_lt (c : UInt8) : vw (bw c) < 256 := by
 rw [vw_bw]
 have := c.toNat_lt
 omega
theorem index_at (s : ByteArray) (k : Nat) (hk : k < s.size) (h63 : s.size ≤ 9223372036854775807) (w : World) : (Instr.index 9 (.string s) (.int .i64 (k : Int))).run Tryz.prog w = .ok (.int .u8 (vw (bw (s.data.toList.getD k 0)))) w := by
 have hd : Tryz.prog.underlying 9 = some .string := by kernel_rfl
 rw [vw_bw]
 simp [go_sem, Instr.index, hd, hk]
 rfl
def firstW (l : List UInt8) : Nat → List Wd
 | 0 => List.replicate 64 0
 | k + 1 => (firstW l k).set (k / 4) ((firstW l k).getD (k / 4) 0 <<< 8 ||| bw (l.getD k 0))
theorem firstW_len (l : List UInt8) (k : Nat) : (firstW l k).length = 64 := by
 induction k with
 | zero => simp [firstW]
 | succ k ih => simp [firstW, ih]
def HasK (w : World) : Prop := (∀ i, i < 64 → w.cell? ⟨0, i, none⟩ = some (.int .u32 (vw (kTab.getD i 0)))) ∧ 0 < w.heap.size
theorem HasK.on {w w' : World} (h : HasK w) (hB : Below w.heap.size w w') : HasK w' :=
 ⟨fun i hi => (hB.cell (p := ⟨0, i, none⟩) h.2).trans (h.1 i hi), Nat.lt_of_lt_of_le h.2 hB.size⟩
theorem HasK.from {n : Nat} {w w' : World} (h : HasK w) (hB : Below n w w') (hn : 0 < n) : HasK w' :=
 ⟨fun i hi => (hB.cell (p := ⟨0, i, none⟩) hn).trans (h.1 i hi), Nat.lt_of_lt_of_le h.2 hB.size⟩
theorem HasK.alloc {w : World} (h : HasK w) (o : Obj) : HasK (w.alloc o) := h.on ((Below.refl _ _).alloc (Nat.le_refl _) _)
def cS (v : St) : Array Value := #[.int .u32 (vw v.a), .int .u32 (vw v.b), .int .u32 (vw v.c), .int .u32 (vw v.d), .int .u32 (vw v.e), .int .u32 (vw v.f), .int .u32 (vw v.g), .int .u32 (vw v.h)]
def Wrote (w : World) (b : Nat) (t : TypeId) (cs : Array Value) (e : Ending) (w' : World) : Prop := e = .returned (.tuple #[]) ∧ w.grownBy w' (some b) ∧ Blk w' b t cs
theorem grown_of {w w' : World} {b : Nat} (hB : Below w.heap.size w w') : w.grownBy w' (some b) := ⟨hB.os, hB.tape, hB.output, hB.size, fun k hk _ => hB.block k hk⟩
theorem grown_on {w W w' : World} {b : Nat} (G : w.grownBy W (some b)) (hB : Below W.heap.size W w') : w.grownBy w' (some b) :=
 ⟨hB.os.trans G.os, hB.tape.trans G.tape, hB.output.trans G.output, Nat.le_trans G.size hB.size, fun k hk hn => (hB.block k (Nat.lt_of_lt_of_le hk G.size)).trans (G.block k hk hn)⟩
theorem grown_set {w W : World} {b i : Nat} {u : Value} (G : w.grownBy W (some b)) : w.grownBy (W.setCell ⟨b, i, none⟩ u) (some b) :=
 ⟨G.os, G.tape, G.output, by rw [size_set]; exact G.size, fun k hk hn => (Below.heap_setCell _ _ _ _ (fun e => hn (by rw [e]))).trans (G.block k hk hn)⟩
@[go_sem] theorem add_w' (x y : Wd) : (vw x + vw y) % 4294967296 = vw (x + y) := by
 rw [← add_w x y, IntKind.wrap_u32']
theorem shl_w' (x : Wd) (n : Nat) (k : Int) (hk : k = 2 ^ n) : vw x * k % 4294967296 = vw (x <<< n) := by
 rw [← shl_w x n k hk, IntKind.wrap_u32']

/-! ### what the words of a block come to -/
theorem getD_set_eq {L : List Wd} {i : Nat} (h : i < L.length) (x : Wd) : (L.set i x).getD i 0 = x := by simp [List.getD, h]
theorem sha_set_ne {L : List Wd} {i j : Nat} (h : i ≠ j) (x : Wd) : (L.set i x).getD j 0 = L.getD j 0 := by simp [List.getD, List.getElem?_set_ne h]
theorem wordOf_snoc (l : List UInt8) (c : UInt8) : wordOf (l ++ [c]) = wordOf l <<< 8 ||| bw c := by unfold wordOf bw; simp
theorem take_snoc8 (l : List UInt8) (a n : Nat) (h : a + n < l.length) : (l.drop a).take (n + 1) = (l.drop a).take n ++ [l.getD (a + n) 0] := by
 rw [List.take_add_one]
 congr 1
 rw [List.getElem?_drop, List.getD, List.getElem?_eq_getElem h]
 rfl
theorem firstW_at (l : List UInt8) (hl : l.length = 64) (k : Nat) (hk : k ≤ 64) (j : Nat) (hj : j < 64) :
  (firstW l k).getD j 0 = wordOf ((l.drop (4 * j)).take (min 4 (k - 4 * j))) := by
 induction k with
 | zero =>
  rw [show min 4 (0 - 4 * j) = 0 by omega, firstW, List.getD, List.getElem?_replicate, if_pos hj]
  rfl
 | succ k ih =>
  have ih := ih (by omega)
  have hlen := firstW_len l k
  by_cases h : k / 4 = j
  ·subst h
   rw [firstW, getD_set_eq (by omega), ih, ← wordOf_snoc, show min 4 (k - 4 * (k / 4)) = k - 4 * (k / 4) by omega, show min 4 (k + 1 - 4 * (k / 4)) = (k - 4 * (k / 4)) + 1 by omega,
    take_snoc8 l (4 * (k / 4)) (k - 4 * (k / 4)) (by omega), show 4 * (k / 4) + (k - 4 * (k / 4)) = k by omega]
  ·rw [firstW, sha_set_ne h, ih, show min 4 (k + 1 - 4 * j) = min 4 (k - 4 * j) by omega]
theorem words16_len (l : List UInt8) : (words16 l).length = 16 := by simp [words16]
theorem firstW_all (l : List UInt8) (hl : l.length = 64) : firstW l 64 = words16 l ++ List.replicate 48 0 := by
 apply List.ext_getElem?
 intro j
 have hlen := firstW_len l 64
 by_cases hj : j < 64
 ·have h1 := firstW_at l hl 64 (Nat.le_refl _) j hj
  rw [List.getD, List.getElem?_eq_getElem (by omega)] at h1
  rw [List.getElem?_eq_getElem (by omega)]
  simp only [Option.getD_some] at h1
  rw [h1]
  by_cases h16 : j < 16
  ·rw [List.getElem?_append_left (by simp [words16]; exact h16), show min 4 (64 - 4 * j) = 4 by omega]
   simp [words16, h16]
  ·rw [List.getElem?_append_right (by rw [words16_len]; omega), words16_len, List.getElem?_replicate, if_pos (by omega), show min 4 (64 - 4 * j) = 0 by omega]
   rfl
 ·rw [List.getElem?_eq_none (by omega), List.getElem?_eq_none (by simp [words16]; omega)]
theorem grow_len (n : Nat) (w : List Wd) : (grow n w).length = w.length + n := by
 induction n generalizing w with
 | zero => rfl
 | succ n ih => rw [grow, ih]; simp; omega
theorem grow_succ (n : Nat) (w : List Wd) : grow (n + 1) w = grow n w ++ [nextW (grow n w)] := by
 induction n generalizing w with
 | zero => rfl
 | succ n ih => rw [grow, ih, grow]
def moreW (l : List UInt8) (k : Nat) : List Wd := grow k (words16 l) ++ List.replicate (48 - k) 0
theorem moreW_len (l : List UInt8) (k : Nat) (hk : k ≤ 48) : (moreW l k).length = 64 := by
 unfold moreW
 rw [List.length_append, grow_len, words16_len, List.length_replicate]
 omega
theorem moreW_at (l : List UInt8) (k : Nat) (j : Nat) (hj : j < 16 + k) : (moreW l k).getD j 0 = (grow k (words16 l)).getD j 0 := by
 unfold moreW
 rw [List.getD, List.getD, List.getElem?_append_left (by rw [grow_len, words16_len]; exact hj)]
theorem moreW_next (l : List UInt8) (k : Nat) (hk : k < 48) :
  moreW l (k + 1) = (moreW l k).set (k + 16) ((moreW l k).getD k 0 + (moreW l k).getD (k + 9) 0 + sig0 ((moreW l k).getD (k + 1) 0) + sig1 ((moreW l k).getD (k + 14) 0)) := by
 rw [moreW_at l k k (by omega), moreW_at l k (k + 9) (by omega), moreW_at l k (k + 1) (by omega), moreW_at l k (k + 14) (by omega)]
 have hlen : (grow k (words16 l)).length = k + 16 := by rw [grow_len, words16_len]; omega
 have e : nextW (grow k (words16 l)) = (grow k (words16 l)).getD k 0 + (grow k (words16 l)).getD (k + 9) 0 + sig0 ((grow k (words16 l)).getD (k + 1) 0) + sig1 ((grow k (words16 l)).getD (k + 14) 0) := by
  unfold nextW
  rw [hlen, show k + 16 - 16 = k by omega, show k + 16 - 7 = k + 9 by omega, show k + 16 - 15 = k + 1 by omega, show k + 16 - 2 = k + 14 by omega]
 rw [← e]
 unfold moreW
 rw [grow_succ, show 48 - k = (48 - (k + 1)) + 1 by omega, List.replicate_succ, List.set_append_right _ _ (by omega), hlen, show k + 16 - (k + 16) = 0 by omega, List.set_cons_zero, List.append_assoc]
 rfl
theorem moreW_all (l : List UInt8) : moreW l 48 = grow 48 (words16 l) := by simp [moreW]
def roundW (v : St) (L : List Wd) (k : Nat) : St := rounds v ((kTab.zip L).take k)
theorem roundW_succ (v : St) (L : List Wd) (hL : L.length = 64) (k : Nat) (hk : k < 64) : roundW v L (k + 1) = rnd (roundW v L k) (kTab.getD k 0) (L.getD k 0) := by
 have hz : (kTab.zip L).length = 64 := by rw [List.length_zip, hL]; rfl
 unfold roundW rounds
 rw [List.take_add_one, List.foldl_append, List.getElem?_eq_getElem (by omega)]
 simp only [Option.toList_some, List.foldl_cons, List.foldl_nil, List.getElem_zip]
 rw [List.getD, List.getElem?_eq_getElem (show k < kTab.length from hk), List.getD, List.getElem?_eq_getElem (show k < L.length by omega)]
 rfl
theorem roundW_all (v : St) (L : List Wd) (hL : L.length = 64) : roundW v L 64 = rounds v (kTab.zip L) := by
 unfold roundW
 rw [List.take_of_length_le (by rw [List.length_zip, hL]; exact Nat.le_refl _)]
end Go.Proofs.YtegaaccioppfjaaGreatDoor
end
section
namespace Go.Proofs.YtegaaccioppfjaaGreatDoor
open BigFrame Go.RowKit Go.Phx Go.Shelf
attribute [local go_sem] Oper.semAt_some

/-! a row of eight words, read at a place -/
theorem ix8_0 (x0 x1 x2 x3 x4 x5 x6 x7 : Value) (w : World) : (Instr.index 151 (.agg #[x0, x1, x2, x3, x4, x5, x6, x7]) (.int .i64 0)).run Tryz.prog w = .ok x0 w := by
 have hd : Tryz.prog.underlying 151 = some (.array 8 150) := by kernel_rfl
 simp [go_sem, Instr.index, hd]
theorem ix8_1 (x0 x1 x2 x3 x4 x5 x6 x7 : Value) (w : World) : (Instr.index 151 (.agg #[x0, x1, x2, x3, x4, x5, x6, x7]) (.int .i64 1)).run Tryz.prog w = .ok x1 w := by
 have hd : Tryz.prog.underlying 151 = some (.array 8 150) := by kernel_rfl
 simp [go_sem, Instr.index, hd]
theorem ix8_2 (x0 x1 x2 x3 x4 x5 x6 x7 : Value) (w : World) : (Instr.index 151 (.agg #[x0, x1, x2, x3, x4, x5, x6, x7]) (.int .i64 2)).run Tryz.prog w = .ok x2 w := by
 have hd : Tryz.prog.underlying 151 = some (.array 8 150) := by kernel_rfl
 simp [go_sem, Instr.index, hd]
theorem ix8_3 (x0 x1 x2 x3 x4 x5 x6 x7 : Value) (w : World) : (Instr.index 151 (.agg #[x0, x1, x2, x3, x4, x5, x6, x7]) (.int .i64 3)).run Tryz.prog w = .ok x3 w := by
 have hd : Tryz.prog.underlying 151 = some (.array 8 150) := by kernel_rfl
 simp [go_sem, Instr.index, hd]
theorem ix8_4 (x0 x1 x2 x3 x4 x5 x6 x7 : Value) (w : World) : (Instr.index 151 (.agg #[x0, x1, x2, x3, x4, x5, x6, x7]) (.int .i64 4)).run Tryz.prog w = .ok x4 w := by
 have hd : Tryz.prog.underlying 151 = some (.array 8 150) := by kernel_rfl
 simp [go_sem, Instr.index, hd]
theorem ix8_5 (x0 x1 x2 x3 x4 x5 x6 x7 : Value) (w : World) : (Instr.index 151 (.agg #[x0, x1, x2, x3, x4, x5, x6, x7]) (.int .i64 5)).run Tryz.prog w = .ok x5 w := by
 have hd : Tryz.prog.underlying 151 = some (.array 8 150) := by kernel_rfl
 simp [go_sem, Instr.index, hd]
theorem ix8_6 (x0 x1 x2 x3 x4 x5 x6 x7 : Value) (w : World) : (Instr.index 151 (.agg #[x0, x1, x2, x3, x4, x5, x6, x7]) (.int .i64 6)).run Tryz.prog w = .ok x6 w := by
 have hd : Tryz.prog.underlying 151 = some (.array 8 150) := by kernel_rfl
 simp [go_sem, Instr.index, hd]
theorem ix8_7 (x0 x1 x2 x3 x4 x5 x6 x7 : Value) (w : World) : (Instr.index 151 (.agg #[x0, x1, x2, x3, x4, x5, x6, x7]) (.int .i64 7)).run Tryz.prog w = .ok x7 w := by
 have hd : Tryz.prog.underlying 151 = some (.array 8 150) := by kernel_rfl
 simp [go_sem, Instr.index, hd]
attribute [local go_sem] ix8_0 ix8_1 ix8_2 ix8_3 ix8_4 ix8_5 ix8_6 ix8_7
theorem take_calls (b : Nat) (v : St) (s : ByteArray) (hs : s.size = 64) (w : World) (hk : HasK w) (hb : Blk w b 151 (cS v)) (hne : b ≠ 0) :
  Calls Tryz.prog 157 #[.pointer (some ⟨b, 0, none⟩), .string s] w (Wrote w b 151 (cS (takeB v s.data.toList))) := by
 have hidx := index_at s
 obtain ⟨l, hl⟩ : ∃ l, s.data.toList = l := ⟨_, rfl⟩
 have hll : l.length = 64 := by rw [← hl]; simpa using hs
 rw [hl] at hidx ⊢
 clear hl
 have hx0 : ∀ k : Nat, k < 64 → ∀ w, (Instr.index 9 (.string s) (.int .i64 (k : Int))).run Tryz.prog w = .ok (.int .u8 (vw (bw (l.getD k 0)))) w := fun k hk => hidx k (by omega) (by omega)
 clear hidx hs
 have hF1 := Lib.hid (firstW_all l hll)
 replace hll := Lib.hid hll
 have KH := Lib.hid hb
 have hbl := hb.lt
 have HK := Lib.hid hk
 have hkl := hk.2
 clear hb hk
 have hTB : takeB v l = v.add (roundW v (moreW l 48) 64) := by
  rw [roundW_all _ _ (moreW_len l 48 (by decide)), moreW_all]
  rfl
 rw [hTB]
 clear hTB
 go_enter Tryz.func157, Tryz.ntmps157
 go_wp2_with fail
 go_loopw [22, 5] (fun i j wr => ∃ k : Nat, k ≤ 64 ∧ i = .int .i64 k ∧ Blk wr w.heap.size 183 (cw (firstW l k)) ∧ Below w.heap.size w wr)
  (fun i _ _ => (64 - intOf i).toNat)
 case atStart => exact ⟨0, Nat.zero_le _, rfl, Blk.to (Blk.new0 _ _ _) rfl, bel⟩
 case round =>
  obtain ⟨k, hk, rfl, K0, HB⟩ := hrel
  by_cases hlt : k < 64
  ·have HX := hx0 k hlt
   have hlen := firstW_len l k
   have g0 := cw_get (L := firstW l k) (i := k / 4) (by omega)
   have v1 := vw_nonneg (bw (l.getD k 0))
   have v2 := bw_lt (l.getD k 0)
   have e1 := shl_w' ((firstW l k).getD (k / 4) 0) 8 256 rfl
   have HS := (show firstW l (k + 1) = (firstW l k).set (k / 4) ((firstW l k).getD (k / 4) 0 <<< 8 ||| bw (l.getD k 0)) from rfl)
   have hc := cw_set (firstW l k) (k / 4) ((firstW l k).getD (k / 4) 0 <<< 8 ||| bw (l.getD k 0))
   rw [← HS] at hc
   replace hc := Lib.hid hc
   clear hlen HS
   generalize (firstW l k).getD (k / 4) 0 = x at *
   generalize firstW l k = L at *
   generalize bw (l.getD k 0) = c at *
   clear hx0 hF1
   replace K0 := Lib.hid K0
   (obtain ⟨k0, f0, l0, m0⟩ := rl_ K0)
   go_wp2_with fail
   (refine wp_region_later_tail 13 (by kernel_rfl) (by kernel_rfl) ?_; simp only [List.take_succ_cons, List.take_zero, List.drop_succ_cons, List.drop_zero]; (repeat (go_big_quiet_step (fail))); refine wpQuiet_nil ?_; intro w' hB)
   (replace HB : Below w.heap.size w w' := Below.on hB bel; replace K0 := hkJ K0.out hB; (try simp only [sB, sC, sD] at K0); clear k0 f0 l0 m0 hB; have HZw' := HB.size; obtain ⟨k0, f0, l0, m0⟩ := rl_ K0)
   go_wp2_with fail
   go_roundw
   case rel => exact ⟨k + 1, by omega, by go_num, by rw [← hc.out]; exact K0.out.set_ _ _, bel⟩
   case measure => simp [intOf]; omega
  ·obtain rfl : k = 64 := by omega
   rw [hF1.out] at K0
   simp only [show ((64 : Nat) : Int) = 64 from rfl]
   change Blk wr _ _ (cw (moreW l 0)) at K0
   clear hx0 hF1
   go_wp2_with fail
   go_loopw [6] (fun i wr2 => ∃ k : Nat, k ≤ 48 ∧ i = .int .i64 ((k : Int) + 16) ∧ Blk wr2 w.heap.size 183 (cw (moreW l k)) ∧ Below w.heap.size w wr2)
    (fun i _ => (64 - intOf i).toNat)
   case atStart => exact ⟨0, Nat.zero_le _, rfl, K0, HB⟩
   case round =>
    clear K0 HB
    obtain ⟨k, hk, rfl, K0, HB⟩ := hrel
    by_cases hlt : k < 48
    ·have HN := moreW_next l k hlt
     have hlen := moreW_len l k hk
     have hc := cw_set (moreW l k) (k + 16) ((moreW l k).getD k 0 + (moreW l k).getD (k + 9) 0 + sig0 ((moreW l k).getD (k + 1) 0) + sig1 ((moreW l k).getD (k + 14) 0))
     rw [← HN] at hc
     have g0 := cw_get (L := moreW l k) (i := k) (by omega)
     have g9 := cw_get (L := moreW l k) (i := k + 9) (by omega)
     have g1 := cw_get (L := moreW l k) (i := k + 1) (by omega)
     have g14 := cw_get (L := moreW l k) (i := k + 14) (by omega)
     have g16 := cw_get (L := moreW l k) (i := k + 16) (by omega)
     clear HN hlen
     generalize (moreW l k).getD k 0 = x0 at *
     generalize (moreW l k).getD (k + 9) 0 = x9 at *
     generalize (moreW l k).getD (k + 1) 0 = x1 at *
     generalize (moreW l k).getD (k + 14) 0 = x14 at *
     generalize (moreW l k).getD (k + 16) 0 = x16 at *
     generalize moreW l k = L at *
     have g9' := g9
     rw [show k + 9 = k + 16 - 7 from rfl] at g9'
     have g1' := g1
     rw [show k + 1 = k + 16 - 15 from rfl] at g1'
     have g14' := g14
     rw [show k + 14 = k + 16 - 2 from rfl] at g14'
     replace hc := Lib.hid hc
     have e1 := shr_w x1 3 8 rfl
     have e2 := shr_w x14 10 1024 rfl
     replace K0 := Lib.hid K0
     (obtain ⟨k0, f0, l0, m0⟩ := rl_ K0)
     go_wp2_with fail
     (refine wp_region_later (by kernel_rfl) (by kernel_rfl) ?_; (repeat (go_big_quiet_step (fail))); refine wpQuiet_nil ?_; intro w' hB)
     (replace HB : Below w.heap.size w w' := Below.on hB bel; replace K0 := hkJ K0.out hB; (try simp only [sB, sC, sD] at K0); clear k0 f0 l0 m0 hB; have HZw' := HB.size; obtain ⟨k0, f0, l0, m0⟩ := rl_ K0)
     go_wp2_with fail
     (refine wp_region_later_tail 29 (by kernel_rfl) (by kernel_rfl) ?_; simp only [List.take_succ_cons, List.take_zero, List.drop_succ_cons, List.drop_zero]; (repeat (go_big_quiet_step ((go_at_call 197; with_reducible exact lw (turn_of _ _ (by decide) _))))); refine wpQuiet_nil ?_; intro w' hB)
     (replace HB : Below w.heap.size w w' := Below.on hB bel; replace K0 := hkJ K0.out hB; (try simp only [sB, sC, sD] at K0); clear k0 f0 l0 m0 hB; have HZw' := HB.size; obtain ⟨k0, f0, l0, m0⟩ := rl_ K0)
     go_wp2_with fail
     go_roundw
     case rel => exact ⟨k + 1, by omega, by congr 1 <;> omega, by rw [← hc.out]; exact K0.out.set_ _ _, bel⟩
     case measure => simp [intOf]; omega
    ·obtain rfl : k = 48 := by omega
     simp only [show ((48 : Nat) : Int) + 16 = 64 from rfl]
     have hlen := moreW_len l 48 (by decide)
     have HR := fun k hk => roundW_succ v (moreW l 48) hlen k hk
     have hg := fun (i : Nat) (hi : i < 64) => cw_get (L := moreW l 48) (i := i) (by omega)
     generalize moreW l 48 = L at *
     clear hlen
     have K1 := KH.out.on HB hbl
     unfold cS at K1
     replace K1 := Lib.hid K1
     have HK1 := HK.out.from HB hkl
     replace K0 := Lib.hid K0
     (obtain ⟨k0, f0, l0, m0⟩ := rl_ K0; obtain ⟨k1, f1, l1, m1⟩ := rl_ K1)
     go_wp2_with fail
     (refine wp_region_later (by kernel_rfl) (by kernel_rfl) ?_; (repeat (go_big_quiet_step (fail))); refine wpQuiet_nil ?_; intro w' hB)
     have HK2 := Lib.hid (HK1.on hB)
     clear HK1
     (replace HB : Below w.heap.size w w' := Below.on hB bel; replace K0 := hkJ K0.out hB; replace K1 := hkJ K1.out hB; (try simp only [sB, sC, sD] at K0 K1); clear k0 f0 l0 m0 k1 f1 l1 m1 hB; have HZw' := HB.size; obtain ⟨k0, f0, l0, m0⟩ := rl_ K0; obtain ⟨k1, f1, l1, m1⟩ := rl_ K1)
     go_wp2_with fail
     go_loopw [9, 10, 11, 12, 13, 14, 15, 16, 112] (fun a1 b1 c1 d1 e1 f1 g1 h1 i wr3 => ∃ (k : Nat) (u : St), k ≤ 64 ∧ u = roundW v L k ∧ i = .int .i64 k ∧ a1 = .int .u32 (vw u.a) ∧ b1 = .int .u32 (vw u.b) ∧ c1 = .int .u32 (vw u.c) ∧ d1 = .int .u32 (vw u.d) ∧ e1 = .int .u32 (vw u.e) ∧ f1 = .int .u32 (vw u.f) ∧ g1 = .int .u32 (vw u.g) ∧ h1 = .int .u32 (vw u.h) ∧
       Blk wr3 w.heap.size 183 (cw L) ∧ Below w.heap.size w wr3)
      (fun _ _ _ _ _ _ _ _ i _ => (64 - intOf i).toNat)
     case atStart => exact ⟨0, v, Nat.zero_le _, rfl, rfl, rfl, rfl, rfl, rfl, rfl, rfl, rfl, rfl, K0.out, HB⟩
     case round =>
      clear K0 K1 k0 f0 l0 m0 k1 f1 l1 m1 HB HZw' HK2
      obtain ⟨k, u, hk, hu, rfl, rfl, rfl, rfl, rfl, rfl, rfl, rfl, rfl, K0, HB⟩ := hrel
      by_cases hlt : k < 64
      ·have HS := HR k hlt
       rw [← hu] at HS
       have hgk := hg k hlt
       have HK1 := HK.out.from HB hkl
       have hkk := HK1.1 k hlt
       have hk0 := HK1.2
       clear HR hg HK1 hu
       generalize L.getD k 0 = y at *
       generalize kTab.getD k 0 = kk at *
       replace HS := Lib.hid HS
       replace K0 := Lib.hid K0
       (obtain ⟨k0, f0, l0, m0⟩ := rl_ K0)
       go_wp2_with fail
       (refine wp_region_later (by kernel_rfl) (by kernel_rfl) ?_; (repeat (go_big_quiet_step ((go_at_call 197; with_reducible exact lw (turn_of _ _ (by decide) _))))); refine wpQuiet_nil ?_; intro w' hB)
       (replace HB : Below w.heap.size w w' := Below.on hB bel; replace K0 := hkJ K0.out hB; (try simp only [sB, sC, sD] at K0); clear k0 f0 l0 m0 hB; have HZw' := HB.size; obtain ⟨k0, f0, l0, m0⟩ := rl_ K0)
       go_wp2_with fail
       refine (turn_of _ _ (by decide) _).mono ?_
       rintro e w' ⟨rfl, rfl⟩
       go_wp2_with fail
       refine (turn_of _ _ (by decide) _).mono ?_
       rintro e w' ⟨rfl, rfl⟩
       go_wp2_with fail
       refine (turn_of _ _ (by decide) _).mono ?_
       rintro e w' ⟨rfl, rfl⟩
       go_wp2_with fail
       go_roundw
       case rel => exact ⟨k + 1, rnd u kk y, by omega, HS.out.symm, by congr 1 <;> omega, rfl, rfl, rfl, rfl, rfl, rfl, rfl, rfl, K0.out, HB⟩
       case measure => simp [intOf]; omega
      ·obtain rfl : k = 64 := by omega
       have HU := Lib.hid hu
       clear hu HR hg
       have K1 := KH.out.on HB hbl
       have G := grown_of (b := b) HB
       clear KH HK K0 HB
       unfold cS at K1
       replace K1 := Lib.hid K1
       go_wp2_with fail
       refine wp_loop_rounds 9 ?_
       rw [rounds_succ]
       (obtain ⟨k1, f1, l1, m1⟩ := rl_ K1)
       go_wp2_with fail
       (refine wp_region_later_tail 9 (by kernel_rfl) (by kernel_rfl) ?_; simp only [List.take_succ_cons, List.take_zero, List.drop_succ_cons, List.drop_zero]; (repeat (go_big_quiet_step (fail))); refine wpQuiet_nil ?_; intro w' hB)
       clear k1 f1 l1 m1
       replace K1 := Lib.hid (K1.out.below hB)
       replace G := grown_on G hB
       clear hB
       (obtain ⟨k1, f1, l1, m1⟩ := rl_ K1)
       go_wp2_with fail
       clear k1 f1 l1 m1
       replace K1 := Lib.hid (K1.out.set_ 0 (.int .u32 (vw (v.a + u.a))))
       replace G := grown_set (i := 0) (u := .int .u32 (vw (v.a + u.a))) G
       simp only [sB, sC, sD] at K1
       generalize w'.setCell ⟨b, 0, none⟩ (.int .u32 (vw (v.a + u.a))) = v0 at K1 G ⊢
       rw [rounds_succ]
       (obtain ⟨k1, f1, l1, m1⟩ := rl_ K1)
       go_wp2_with fail
       (refine wp_region_later_tail 9 (by kernel_rfl) (by kernel_rfl) ?_; simp only [List.take_succ_cons, List.take_zero, List.drop_succ_cons, List.drop_zero]; (repeat (go_big_quiet_step (fail))); refine wpQuiet_nil ?_; intro w' hB)
       clear k1 f1 l1 m1
       replace K1 := Lib.hid (K1.out.below hB)
       replace G := grown_on G hB
       clear hB
       (obtain ⟨k1, f1, l1, m1⟩ := rl_ K1)
       go_wp2_with fail
       clear k1 f1 l1 m1
       replace K1 := Lib.hid (K1.out.set_ 1 (.int .u32 (vw (v.b + u.b))))
       replace G := grown_set (i := 1) (u := .int .u32 (vw (v.b + u.b))) G
       simp only [sB, sC, sD] at K1
       generalize w'.setCell ⟨b, 1, none⟩ (.int .u32 (vw (v.b + u.b))) = v1 at K1 G ⊢
       rw [rounds_succ]
       (obtain ⟨k1, f1, l1, m1⟩ := rl_ K1)
       go_wp2_with fail
       (refine wp_region_later_tail 9 (by kernel_rfl) (by kernel_rfl) ?_; simp only [List.take_succ_cons, List.take_zero, List.drop_succ_cons, List.drop_zero]; (repeat (go_big_quiet_step (fail))); refine wpQuiet_nil ?_; intro w' hB)
       clear k1 f1 l1 m1
       replace K1 := Lib.hid (K1.out.below hB)
       replace G := grown_on G hB
       clear hB
       (obtain ⟨k1, f1, l1, m1⟩ := rl_ K1)
       go_wp2_with fail
       clear k1 f1 l1 m1
       replace K1 := Lib.hid (K1.out.set_ 2 (.int .u32 (vw (v.c + u.c))))
       replace G := grown_set (i := 2) (u := .int .u32 (vw (v.c + u.c))) G
       simp only [sB, sC, sD] at K1
       generalize w'.setCell ⟨b, 2, none⟩ (.int .u32 (vw (v.c + u.c))) = v2 at K1 G ⊢
       rw [rounds_succ]
       (obtain ⟨k1, f1, l1, m1⟩ := rl_ K1)
       go_wp2_with fail
       (refine wp_region_later_tail 9 (by kernel_rfl) (by kernel_rfl) ?_; simp only [List.take_succ_cons, List.take_zero, List.drop_succ_cons, List.drop_zero]; (repeat (go_big_quiet_step (fail))); refine wpQuiet_nil ?_; intro w' hB)
       clear k1 f1 l1 m1
       replace K1 := Lib.hid (K1.out.below hB)
       replace G := grown_on G hB
       clear hB
       (obtain ⟨k1, f1, l1, m1⟩ := rl_ K1)
       go_wp2_with fail
       clear k1 f1 l1 m1
       replace K1 := Lib.hid (K1.out.set_ 3 (.int .u32 (vw (v.d + u.d))))
       replace G := grown_set (i := 3) (u := .int .u32 (vw (v.d + u.d))) G
       simp only [sB, sC, sD] at K1
       generalize w'.setCell ⟨b, 3, none⟩ (.int .u32 (vw (v.d + u.d))) = v3 at K1 G ⊢
       rw [rounds_succ]
       (obtain ⟨k1, f1, l1, m1⟩ := rl_ K1)
       go_wp2_with fail
       (refine wp_region_later_tail 9 (by kernel_rfl) (by kernel_rfl) ?_; simp only [List.take_succ_cons, List.take_zero, List.drop_succ_cons, List.drop_zero]; (repeat (go_big_quiet_step (fail))); refine wpQuiet_nil ?_; intro w' hB)
       clear k1 f1 l1 m1
       replace K1 := Lib.hid (K1.out.below hB)
       replace G := grown_on G hB
       clear hB
       (obtain ⟨k1, f1, l1, m1⟩ := rl_ K1)
       go_wp2_with fail
       clear k1 f1 l1 m1
       replace K1 := Lib.hid (K1.out.set_ 4 (.int .u32 (vw (v.e + u.e))))
       replace G := grown_set (i := 4) (u := .int .u32 (vw (v.e + u.e))) G
       simp only [sB, sC, sD] at K1
       generalize w'.setCell ⟨b, 4, none⟩ (.int .u32 (vw (v.e + u.e))) = v4 at K1 G ⊢
       rw [rounds_succ]
       (obtain ⟨k1, f1, l1, m1⟩ := rl_ K1)
       go_wp2_with fail
       (refine wp_region_later_tail 9 (by kernel_rfl) (by kernel_rfl) ?_; simp only [List.take_succ_cons, List.take_zero, List.drop_succ_cons, List.drop_zero]; (repeat (go_big_quiet_step (fail))); refine wpQuiet_nil ?_; intro w' hB)
       clear k1 f1 l1 m1
       replace K1 := Lib.hid (K1.out.below hB)
       replace G := grown_on G hB
       clear hB
       (obtain ⟨k1, f1, l1, m1⟩ := rl_ K1)
       go_wp2_with fail
       clear k1 f1 l1 m1
       replace K1 := Lib.hid (K1.out.set_ 5 (.int .u32 (vw (v.f + u.f))))
       replace G := grown_set (i := 5) (u := .int .u32 (vw (v.f + u.f))) G
       simp only [sB, sC, sD] at K1
       generalize w'.setCell ⟨b, 5, none⟩ (.int .u32 (vw (v.f + u.f))) = v5 at K1 G ⊢
       rw [rounds_succ]
       (obtain ⟨k1, f1, l1, m1⟩ := rl_ K1)
       go_wp2_with fail
       (refine wp_region_later_tail 9 (by kernel_rfl) (by kernel_rfl) ?_; simp only [List.take_succ_cons, List.take_zero, List.drop_succ_cons, List.drop_zero]; (repeat (go_big_quiet_step (fail))); refine wpQuiet_nil ?_; intro w' hB)
       clear k1 f1 l1 m1
       replace K1 := Lib.hid (K1.out.below hB)
       replace G := grown_on G hB
       clear hB
       (obtain ⟨k1, f1, l1, m1⟩ := rl_ K1)
       go_wp2_with fail
       clear k1 f1 l1 m1
       replace K1 := Lib.hid (K1.out.set_ 6 (.int .u32 (vw (v.g + u.g))))
       replace G := grown_set (i := 6) (u := .int .u32 (vw (v.g + u.g))) G
       simp only [sB, sC, sD] at K1
       generalize w'.setCell ⟨b, 6, none⟩ (.int .u32 (vw (v.g + u.g))) = v6 at K1 G ⊢
       rw [rounds_succ]
       (obtain ⟨k1, f1, l1, m1⟩ := rl_ K1)
       go_wp2_with fail
       (refine wp_region_later_tail 9 (by kernel_rfl) (by kernel_rfl) ?_; simp only [List.take_succ_cons, List.take_zero, List.drop_succ_cons, List.drop_zero]; (repeat (go_big_quiet_step (fail))); refine wpQuiet_nil ?_; intro w' hB)
       clear k1 f1 l1 m1
       replace K1 := Lib.hid (K1.out.below hB)
       replace G := grown_on G hB
       clear hB
       (obtain ⟨k1, f1, l1, m1⟩ := rl_ K1)
       go_wp2_with fail
       clear k1 f1 l1 m1
       replace K1 := Lib.hid (K1.out.set_ 7 (.int .u32 (vw (v.h + u.h))))
       replace G := grown_set (i := 7) (u := .int .u32 (vw (v.h + u.h))) G
       simp only [sB, sC, sD] at K1
       generalize w'.setCell ⟨b, 7, none⟩ (.int .u32 (vw (v.h + u.h))) = v7 at K1 G ⊢
       rw [rounds_succ]
       go_wp2_with fail
       refine bodyPost_end (results_none rfl _ _ _) rfl ?_

       exact ⟨rfl, G, by rw [← HU.out]; exact K1.out⟩
end Go.Proofs.YtegaaccioppfjaaGreatDoor
end
section
namespace Go.Proofs.YtegaaccioppfjaaGreatDoor
open Go.ChangeShapes Go.WideShapes Go.ChangeAt Go.RowKit Go.Joins
set_option maxRecDepth 100000

theorem own : ownKnob Tryz.prog.godebug = none := by kernel_rfl

section
variable {H : Type} {enc : TypeId × Value → H} {P : Program}
theorem post_below {f : Func} {s : ChangeSpec} {apart fresh handsOn again : Bool} {W W' : World} {args : Array Value} {v : Value} {ds gs : List (DataW H)} {before pa pv : List MemPlace}
  (hW : DataW.Whole enc P f.params.toList s.vars apart W args.toList ds gs before)
  (hres : ∀ (b : Nat) (sp : Nat → Bool) (hd : Bool), DataW.TrodAll enc P W' b sp hd f.resultTypes.toList (v.resultList f.resultTypes.size) (s.fn H (ds ++ gs)).results [])
  (hargs : ∀ sp : Nat → Bool, (∀ p ∈ before, sp p.block = true) → DataW.TrodAll enc P W' 0 sp true f.params.toList args.toList (s.fn H (ds ++ gs)).args pa)
  (hvars : ∀ sp : Nat → Bool, (∀ p ∈ before, sp p.block = true) → DataW.TrodVars enc P W' sp s.vars (s.fn H (ds ++ gs)).vars pv)
  (hps : before = pa ++ pv) (hb : Below W.heap.size W W')
  (hok : ∀ (j : Nat) (t : TypeId) (r : Value), f.resultTypes[j]? = some t → (v.resultList f.resultTypes.size)[j]? = some r → Value.okWide P W' .any 0 t r) :
  s.post enc P f apart fresh handsOn again W args v W' := by
 have hlt : ∀ p ∈ before, p.block < W.heap.size := fun p hp => hW.lt p hp
 have hold : ∀ p ∈ before, (fun b => decide (b < W.heap.size)) p.block = true := fun p hp => by simpa using hlt p hp
 refine ⟨ds, gs, before, [], pa, pv, hW, hres _ _ _, hargs _ hold, hvars _ hold, World.keptBut_mono (fun p hp => ⟨hp, ?_⟩) (hb.frame (· ∈ before)), fun _ => ?_⟩
 ·rw [hps, List.mem_append] at hp
  exact Or.inr hp
 ·obtain ⟨_, _, _, _, _, hz, hn⟩ := hW
  refine ⟨hok, _, _, ([] ++ pa) ++ pv, ⟨[] ++ pa, pv, trodAll_append (hargs _ (fun _ _ => rfl)) (hres _ _ _), hvars _ (fun _ _ => rfl), rfl, ?_, ?_⟩, ?_⟩
  ·intro b off hp
   have hin : MemPlace.cell b off ∈ before := by rw [hps]; simpa using hp
   rw [hb.frozen (hlt _ hin)]
   exact hz b off hin
  ·intro ha
   have := hn ha
   rw [hps] at this
   simpa using this
  ·intro p hp _
   rw [hps]
   simpa using hp
end

section
variable {H : Type} {enc : TypeId × Value → H} {w : World} {base : Nat} {spare : Nat → Bool} {held : Bool} {r : Reach} {b0 : Nat} {v : Value} {d : DataW H} {p : List MemPlace}
theorem openU64 (hv : Value.okWide Tryz.prog w r b0 22 v) (h : DataW.Trod enc Tryz.prog w base spare held 22 v d p) : ∃ a, v = .int .u64 a ∧ d = .lit (.int .u64 a) ∧ p = [] ∧ (Lit.int .u64 a).wf = true :=
 open_int Tryz.underlying22 hv h
end
end Go.Proofs.YtegaaccioppfjaaGreatDoor
end
section
namespace Go.Proofs.YtegaaccioppfjaaGreatDoor
open Go.ChangeShapes Go.WideShapes Go.ChangeAt Go.RowKit Go.Joins
set_option maxRecDepth 100000

section
variable {H : Type} {enc : TypeId × Value → H} {w : World} {base : Nat} {spare : Nat → Bool} {held : Bool} {r : Reach} {b0 : Nat} {v : Value} {d : DataW H} {p : List MemPlace}
theorem underString : Tryz.prog.underlying 9 = some .string := by kernel_rfl
theorem openString (hv : Value.okWide Tryz.prog w r b0 9 v) (h : DataW.Trod enc Tryz.prog w base spare held 9 v d p) : ∃ s : ByteArray, v = .string s ∧ d = .lit (.string s.data.toList) ∧ p = [] ∧ s.size ≤ maxLen :=
 Go.ChangeMaps.open_string underString hv h
end
end Go.Proofs.YtegaaccioppfjaaGreatDoor
end
section
namespace Go.Proofs.YtegaaccioppfjaaGreatDoor
open Go.ChangeShapes Go.WideShapes Go.ChangeAt Go.RowKit Go.Joins
set_option maxRecDepth 100000

def Strs (w : World) (A : Option Addr) (xs : List ByteArray) : Prop :=
 0 < xs.length → ∃ b o, A = some ⟨b, o, none⟩ ∧ b < w.heap.size ∧ ∀ (i : Nat) (x : ByteArray), xs[i]? = some x → w.cell? ⟨b, o + i, none⟩ = some (.string x)
theorem Strs.nil (w : World) (A : Option Addr) : Strs w A [] := fun h => absurd h (by simp)
theorem Strs.keep {w w' : World} {A : Option Addr} {xs : List ByteArray} (h : Strs w A xs) (hz : w.heap.size ≤ w'.heap.size) (hk : ∀ b o, b < w.heap.size → w'.cell? ⟨b, o, none⟩ = w.cell? ⟨b, o, none⟩) : Strs w' A xs := fun h0 => by
 obtain ⟨b, o, ha, hb, hc⟩ := h h0
 exact ⟨b, o, ha, by omega, fun i x hx => (hk _ _ hb).trans (hc i x hx)⟩
theorem Strs.below {w w' : World} {A : Option Addr} {xs : List ByteArray} (h : Strs w A xs) (hb : Below w.heap.size w w') : Strs w' A xs := h.keep hb.size fun b o hp => hb.cell (p := ⟨b, o, none⟩) hp
theorem Strs.mk {w : World} {b o : Nat} {xs : List ByteArray} (hb : b < w.heap.size) (h : ∀ (i : Nat) (x : ByteArray), xs[i]? = some x → w.cell? ⟨b, o + i, none⟩ = some (.string x)) : Strs w (some ⟨b, o, none⟩) xs := fun _ => ⟨b, o, rfl, hb, h⟩

section
variable {H : Type} {enc : TypeId × Value → H} {P : Program}
theorem stays_all (hl : laidOutB P = true) {W W' : World} (hb : Below W.heap.size W W') : ∀ {ts : List TypeId} {vs : List Value} {ds : List (DataW H)} {ps : List MemPlace},
  (ts.all fun t => P.readableRec t && decide (t < P.types.size)) = true → DataW.TrodAll enc P W 0 (fun _ => true) true ts vs ds ps → (∀ x ∈ ps, x.block < W.heap.size) →
  ∀ sp : Nat → Bool, (∀ x ∈ ps, sp x.block = true) → DataW.TrodAll enc P W' 0 sp true ts vs ds ps := by
 intro ts
 induction ts with
 | nil =>
  intro vs ds ps _ h _ sp _
  obtain ⟨rfl, rfl, rfl⟩ := trodAll_nil h
  exact trodAll_mk0
 | cons t ts ih =>
  intro vs ds ps hr h hlt sp hsp
  obtain ⟨v, vs', d, ds', p, p', rfl, rfl, rfl, h0, h1⟩ := trodAll_cons h
  simp only [List.all_cons, Bool.and_eq_true, decide_eq_true_eq] at hr
  exact trodAll_cons_mk (WideElems.Trod_stays hl hr.1.1 hr.1.2 h0 (fun x hx => hb.same (hlt x (by simp [hx]))) (fun x hx => hsp x (by simp [hx])))
   (ih hr.2 h1 (fun x hx => hlt x (by simp [hx])) sp (fun x hx => hsp x (by simp [hx])))
end
theorem laidOut : laidOutB Tryz.prog = true := by kernel_rfl

section
variable {H : Type} {enc : TypeId × Value → H} {w : World} {base : Nat} {spare : Nat → Bool} {held : Bool} {r : Reach} {b0 : Nat} {v : Value} {d : DataW H} {p : List MemPlace}
end
end Go.Proofs.YtegaaccioppfjaaGreatDoor
end
section
namespace Go.Proofs.YtegaaccioppfjaaGreatDoor
open BigFrame Go.RowKit Go.Phx Go.Shelf
attribute [local go_sem] Oper.semAt_some

def bs (l : List UInt8) : ByteArray := ⟨l.toArray⟩
theorem bs_list (l : List UInt8) : (bs l).data.toList = l := rfl
theorem bs_of (s : ByteArray) : bs s.data.toList = s := rfl
@[go_sem] theorem bs_size (l : List UInt8) : (bs l).size = l.length := by simp [bs, ByteArray.size]
@[go_sem] theorem bs_toList (l : List UInt8) : (bs l).toList = l := by
 rw [ByteArray.toList_eq]
 rfl
@[go_sem] theorem bs_app (a b : List UInt8) : bs a ++ bs b = bs (a ++ b) := by
 apply ByteArray.ext
 simp [bs, ByteArray.data_append]
theorem bs_ext (l : List UInt8) (a b : Nat) : (bs l).extract a b = bs ((l.drop a).take (b - a)) := by
 apply ByteArray.ext
 simp [bs, ByteArray.data_extract]
@[go_sem] theorem bs_take (l : List UInt8) (b : Nat) : (bs l).extract 0 b = bs (l.take b) := by rw [bs_ext]; simp
@[go_sem] theorem bs_drop (l : List UInt8) (a : Nat) : (bs l).extract a l.length = bs (l.drop a) := by
 rw [bs_ext, List.take_of_length_le (by simp)]
theorem conv1 (W : World) (t : TypeId) (a : Int) (k : Nat) : (convert 108 9 (.slice (some ⟨W.heap.size, 0, none⟩) 1 k)).run Tryz.prog (W.alloc (.cells #[.int .u8 a] t)) =
  .ok (.string (bs [UInt8.ofNat a.toNat])) (W.alloc (.cells #[.int .u8 a] t)) := by
 have hs : Tryz.prog.underlying 108 = some (.slice 5) := by kernel_rfl
 have he : Tryz.prog.underlying 5 = some (.int .u8) := by kernel_rfl
 have hd : Tryz.prog.underlying 9 = some .string := by kernel_rfl
 exact run_convert_bytes_arg _ _ _ hs he W.heap.size 0 1 k [a] rfl (fun i hi => by
  have hK := Blk.new0 W t #[.int .u8 a]
  rw [hK.cell]
  obtain rfl : i = 0 := by omega
  rfl) _ hd
theorem conv1d (W : World) (t : TypeId) (a : Int) (k : Nat) : (convert 108 9 (.slice (some ⟨W.heap.size, 0, none⟩) 1 k)).run Tryz.prog (W.alloc (.cells #[.int .u8 a] t)).drew =
  .ok (.string (bs [UInt8.ofNat a.toNat])) (W.alloc (.cells #[.int .u8 a] t)).drew := by
 have hs : Tryz.prog.underlying 108 = some (.slice 5) := by kernel_rfl
 have he : Tryz.prog.underlying 5 = some (.int .u8) := by kernel_rfl
 have hd : Tryz.prog.underlying 9 = some .string := by kernel_rfl
 exact run_convert_bytes_arg _ _ _ hs he W.heap.size 0 1 k [a] rfl (fun i hi => by
  have hK := (Blk.new0 W t #[.int .u8 a]).drew
  rw [hK.cell]
  obtain rfl : i = 0 := by omega
  rfl) _ hd
attribute [go_sem] conv1 conv1d
def boxLen (b : Nat) (w : World) : Nat := match w.cell? ⟨b, 0, none⟩ with
 | some (.string s) => s.size
 | _ => 0
theorem boxLen_of {b : Nat} {w : World} {t : TypeId} {l : List UInt8} (h : Blk w b t #[.string (bs l)]) : boxLen b w = l.length := by
 unfold boxLen
 rw [h.cell 0]
 exact bs_size l
theorem Blk.grown {w w' : World} {g : Nat} {t : TypeId} {cs : Array Value} {row : Option Nat} (h : Blk w g t cs) (hg : w.grownBy w' row) (hn : some g ≠ row) : Blk w' g t cs := (hg.block g h.lt hn).trans h
theorem HasK.grown {w w' : World} {row : Option Nat} (h : HasK w) (hg : w.grownBy w' row) (hn : some 0 ≠ row) : HasK w' :=
 ⟨fun i hi => (World.cell?_of_block (w := w) (a := ⟨0, i, none⟩) (hg.block _ h.2 hn)).trans (h.1 i hi), Nat.lt_of_lt_of_le h.2 hg.size⟩
theorem keepsOthers_row {W W' : World} {b : Nat} {t : TypeId} {cs : Array Value} (h : Blk W b t cs) (hg : W.grownBy W' (some b)) : KeepsOthers W W' :=
 KeepsOthers.of_grownBy hg fun j o e ho => by
  cases e
  unfold Blk at h
  rw [h] at ho
  injection ho with ho
  subst ho
  rfl
theorem below_row {w W W' : World} {b : Nat} (h : Below w.heap.size w W) (hg : W.grownBy W' (some b)) (hb : w.heap.size ≤ b) : Below w.heap.size w W' := h.grown hg h.size fun k e => by injection e with e; omega

def bcells (N : Nat) (L : List UInt8) (k : Nat) : Array Value := ((L.take k ++ List.replicate (N - k) 0).map fun c : UInt8 => Value.int .u8 (c.toNat : Int)).toArray
theorem bcells_set (N : Nat) (L : List UInt8) (k : Nat) (hk : k < N) (hL : L.length = N) (v : Int) (hv : v = ((L.getD k 0).toNat : Int)) : (bcells N L k).setIfInBounds k (.int .u8 v) = bcells N L (k + 1) := by
 subst hv
 unfold bcells
 rw [List.setIfInBounds_toArray, ← List.map_set (f := fun c : UInt8 => Value.int .u8 (c.toNat : Int)), List.set_append_right _ _ (by simp; omega)]
 congr 1
 congr 1
 rw [List.length_take, show k - min k L.length = 0 by omega, show N - k = (N - (k + 1)) + 1 by omega, List.replicate_succ, List.set_cons_zero, List.take_add_one, List.getElem?_eq_getElem (by omega), List.append_assoc]
 simp [List.getD, List.getElem?_eq_getElem (show k < L.length by omega)]
theorem bcells_at (N : Nat) (L : List UInt8) (k : Nat) (hk : k < N) (hL : L.length = N) : (bcells N L k)[k]? = some (.int .u8 0) := by
 unfold bcells
 rw [List.getElem?_toArray, List.getElem?_map, List.getElem?_append_right (by simp; omega), List.getElem?_replicate, if_pos (by simp; omega)]
 rfl
theorem bcells_all (N : Nat) (L : List UInt8) (hL : L.length = N) : bcells N L N = (L.map fun c : UInt8 => Value.int .u8 (c.toNat : Int)).toArray := by
 unfold bcells
 rw [List.take_of_length_le (by omega), Nat.sub_self]
 simp
theorem strOfNums_map (L : List UInt8) : strOfNums (L.map fun c : UInt8 => (c.toNat : Int)) = bs L := by
 unfold strOfNums bs
 rw [List.map_map]
 have e : ((fun n : Int => UInt8.ofNat n.toNat) ∘ fun c : UInt8 => (c.toNat : Int)) = id := by
  funext c
  simp
 rw [e, List.map_id]
theorem conv_row (W : World) (g : Nat) (t : TypeId) (L : List UInt8) (n c : Nat) (h : Blk W g t (L.map fun c : UInt8 => Value.int .u8 (c.toNat : Int)).toArray) (hn : L.length = n) :
  (convert 108 9 (.slice (some ⟨g, 0, none⟩) n c)).run Tryz.prog W = .ok (.string (bs L)) W := by
 have hs : Tryz.prog.underlying 108 = some (.slice 5) := by kernel_rfl
 have he : Tryz.prog.underlying 5 = some (.int .u8) := by kernel_rfl
 have hd : Tryz.prog.underlying 9 = some .string := by kernel_rfl
 have := run_convert_bytes_arg (P := Tryz.prog) W _ _ hs he g 0 n c (L.map fun c : UInt8 => (c.toNat : Int)) (by simpa using hn) (fun i hi => by
  rw [h.cell]
  simp [List.getD, List.getElem?_eq_getElem (show i < L.length by omega)]) _ hd
 rw [this, strOfNums_map]
theorem repeat0 (c : Nat) (hc : c ≤ 65536) (w : World) : Calls Tryz.prog 148 #[.string { data := #[0] }, .int .i64 c] w (Ret w (.string (bs (List.replicate c 0)))) := by
 refine (Tryz.strings_Repeat (bs [0]) c w (by omega) (by rw [bs_size]; simp; omega)).mono ?_
 rintro e w' ⟨rfl, hB⟩
 have e1 : Lib.repeatL (bs [0]).data.toList c = List.replicate c 0 := by
  rw [bs_list]
  induction c with
  | zero => rfl
  | succ c ih => rw [List.replicate_succ, ← ih (by omega)]; rfl
 rw [e1]
 exact ⟨rfl, hB⟩
def chunks (n : Nat) (l : List UInt8) : List (List UInt8) := (List.range n).map fun i => (l.drop (64 * i)).take 64
theorem chunks_succ (n : Nat) (l : List UInt8) : chunks (n + 1) l = chunks n l ++ [(l.drop (64 * n)).take 64] := by
 unfold chunks
 rw [List.range_succ, List.map_append]
 rfl
theorem padS_len (l : List UInt8) : (padS l).length % 64 = 0 := by
 unfold padS tail64
 simp
 omega
theorem pad_drop (l : List UInt8) (k : Nat) (hk : k = l.length / 64) (r : List UInt8) (hr : l.drop (64 * k) = r) (c : Nat) (hc : (119 - r.length) % 64 = c) :
  r ++ 128 :: List.replicate c 0 ++ (List.range 8).map (fun i => UInt8.ofNat (8 * l.length / 2 ^ (56 - 8 * i))) = (padS l).drop (64 * k) := by
 have hl : r.length = l.length % 64 := by rw [← hr]; simp; omega
 unfold padS tail64
 rw [List.drop_append_of_le_length (by omega), hr, ← hc, hl]
 simp
theorem chunks_pad (l : List UInt8) (k : Nat) (hk : 64 * k ≤ l.length) : chunks k l = chunks k (padS l) := by
 unfold chunks
 apply List.map_congr_left
 intro i hi
 have hi := List.mem_range.1 hi
 unfold padS
 rw [List.drop_append_of_le_length (by omega), List.take_append_of_le_length (by simp; omega)]
def OwnStep (b : Nat) (_ : Unit) (W : World) (_ : Unit) (W' : World) : Prop := W.grownBy W' (some b)
def KeepS (b : Nat) (_ : Unit) (W W' : World) : Prop := KeepB b W W'
def AtBlock (_ : List (List UInt8)) (y : List UInt8) (_ : Unit) (_ : World) : Prop := y.length = 64

theorem blocks1_in (n : Nat) (hn : 1 ≤ n) (lp : Nat) (b : Nat) (l : List UInt8) (hl : l.length ≤ 140737488355328) (J Jx : List (List UInt8) → Unit → World → Prop)
  (hJ : ∀ s x A y B, J s x A → OwnStep b x A y B → J s y B) (hJx : ∀ s x A y B, Jx s x A → OwnStep b x A y B → Jx s y B)
  (hY : ∀ pre y x A, J pre x A → AtBlock pre y x A → YieldAt Fence.wide (n - 1) Tryz.prog lp #[.string (bs y)] A fun e B =>
   (e = .returned (.bool true) ∧ J (pre ++ [y]) x B ∧ KeepS b x A B) ∨ (e = .returned (.bool false) ∧ Jx (pre ++ [y]) x B))
  (w : World) (hb : Blk w b 9 #[.string (bs l)]) (h0 : J [] () w) :
  CallsIn Fence.wide n Tryz.prog 196 #[.func (.yield lp) #[] #[], .pointer (some ⟨b, 0, none⟩)] w fun e B => (∃ v, e = .returned v) ∧
   ((∃ xs x, xs = chunks ((padS l).length / 64) (padS l) ∧ J xs x B) ∨ (∃ pre x, True ∧ Jx pre x B)) := by
 refine callsIn_of_wp Tryz.func196 rfl trivial ?_ rfl
 simp only [Tryz.ntmps196, List.size_toArray, List.length_cons, List.length_nil, Nat.reduceAdd, Nat.reduceSub, Array.replicate_succ, Array.replicate_zero, List.push_toArray, List.append_toArray, List.nil_append, List.cons_append]
 have K0 := Lib.hid hb
 clear hb
 (obtain ⟨k0, f0, l0, m0⟩ := rl_ K0)
 gi_wp2
 gi_loopw [8] (fun _ wr => ∃ k : Nat, 64 * k ≤ l.length ∧ Blk wr b 9 #[.string (bs (l.drop (64 * k)))] ∧ J (chunks k l) () wr) (fun _ wr => boxLen b wr)
 case atStart => exact ⟨0, Nat.zero_le _, K0.out, h0⟩
 case round =>
  clear K0 k0 f0 l0 m0 h0
  obtain ⟨k, hk, K0, hj⟩ := hrel
  have hbl := boxLen_of K0
  obtain ⟨r, hr⟩ : ∃ r, l.drop (64 * k) = r := ⟨_, rfl⟩
  have hrl : r.length = l.length - 64 * k := by rw [← hr]; simp
  rw [hr] at K0 hbl
  have HR := Lib.hid hr
  have HRL := Lib.hid hrl
  have HBL := Lib.hid hbl
  clear hr hbl
  replace K0 := Lib.hid K0
  by_cases hlt : 64 ≤ r.length
  ·obtain ⟨fn, tmps, assign, body, hy, hR⟩ := hY (chunks k l) (r.take 64) () wr hj (by unfold AtBlock; simp; omega)
   clear hrl
   (obtain ⟨k0, f0, l0, m0⟩ := rl_ K0)
   gi_wp2
   refine hR.mono ?_
   rintro e W3 (⟨rfl, hJ3, hk3⟩ | ⟨rfl, hJx3⟩)
   ·have K1 := Lib.hid (show Blk W3 b _ _ from Eq.trans hk3 K0.out)
    clear k0 f0 l0 m0 K0 hk3
    (obtain ⟨k1, f1, l1, m1⟩ := rl_ K1)
    gi_wp2
    have K2 := K1.out.set_ 0 (.string (bs (r.drop 64)))
    simp only [List.setIfInBounds_toArray, List.set_cons_zero] at K2
    have hrl := HRL.out
    go_roundw
    case rel => exact ⟨k + 1, by omega, by rw [show 64 * (k + 1) = 64 * k + 64 by omega, ← List.drop_drop, HR.out]; exact K2, by rw [chunks_succ, HR.out]; exact hJ _ _ _ _ _ hJ3 (grownBy_setCell' _ _ _)⟩
    case measure => rw [HBL.out, boxLen_of K2]; simp; omega
   ·gi_wp2
    refine bodyPost_ret (results_none rfl _ _ _) rfl ?_
    exact ⟨⟨_, rfl⟩, .inr ⟨_, _, trivial, hJx3⟩⟩
  ·have hc : k = l.length / 64 := by omega
   clear hrl
   (obtain ⟨k0, f0, l0, m0⟩ := rl_ K0)
   gi_wp2
   refine wpIn_wide.2 ?_
   have e1 : IntKind.i64.wrap (119 - ↑r.length) = ((119 - r.length : Nat) : Int) := by rw [IntWalk.i64_in _ (by omega)]; omega
   obtain ⟨c, hc0⟩ : ∃ c, (119 - r.length) % 64 = c := ⟨_, rfl⟩
   have hc1 : c < 64 := by omega
   have e2 : ((119 - r.length : Nat) : Int) % 64 = (c : Int) := by omega
   have HC0 := Lib.hid hc0
   have HC := Lib.hid hc
   clear hc0 hc
   have c128 : (⟨#[128]⟩ : ByteArray) = bs [128] := rfl
   (refine wp_region_later_tail 8 (by kernel_rfl) (by kernel_rfl) ?_; simp only [List.take_succ_cons, List.take_zero, List.drop_succ_cons, List.drop_zero]; (repeat (go_big_quiet_step ((go_at_call 148; exact lq (repeat0 c (by omega) _))))); refine wpQuiet_nil ?_; intro w' hB)
   have K1 := Lib.hid (K0.out.below hB)
   have G := grown_of (b := b) hB
   clear k0 f0 l0 m0 K0 hB
   (obtain ⟨k1, f1, l1, m1⟩ := rl_ K1)
   go_wp2_with fail
   gi_wp2
   have K2 := K1.out.set_ 0 (.string (bs (r ++ 128 :: List.replicate c 0)))
   simp only [List.setIfInBounds_toArray, List.set_cons_zero] at K2
   replace G := grown_set (i := 0) (u := .string (bs (r ++ 128 :: List.replicate c 0))) G
   have hj2 := hJ _ () _ () _ hj G
   clear k1 f1 l1 m1 K1 G hj
   generalize w'.setCell ⟨b, 0, none⟩ (.string (bs (r ++ 128 :: List.replicate c 0))) = w2 at K2 hj2 ⊢
   gi_loopw [4] (fun i wr => ∃ j : Nat, j ≤ 8 ∧ i = .int .i64 (56 - 8 * j) ∧ Blk wr b 9 #[.string (bs (r ++ 128 :: List.replicate c 0 ++ (List.range j).map fun i => UInt8.ofNat (8 * l.length / 2 ^ (56 - 8 * i))))] ∧ J (chunks k l) () wr) (fun i _ => (intOf i + 8).toNat)
   case atStart => exact ⟨0, by omega, rfl, by simpa using K2, hj2⟩
   case round =>
    clear K2 hj2
    obtain ⟨j, hj8, rfl, K0, hj⟩ := hrel
    by_cases hlt8 : j < 8
    ·obtain ⟨q, hq⟩ : ∃ q, (r ++ 128 :: List.replicate c 0 ++ (List.range j).map fun i => UInt8.ofNat (8 * l.length / 2 ^ (56 - 8 * i))) = q := ⟨_, rfl⟩
     rw [hq] at K0
     have HQ := Lib.hid hq
     clear hq
     replace K0 := Lib.hid K0
     (obtain ⟨k0, f0, l0, m0⟩ := rl_ K0)
     gi_wp2
     refine wpIn_wide.2 ?_
     have hb0 := k0 0
     have hbf := f0 0
     simp only [List.getElem?_toArray, List.getElem?_cons_zero] at hb0
     have hql : q.length ≤ 300 := by rw [← HQ.out]; simp; omega
     clear k0 f0
     go_region
     have hv : UInt8.ofNat (8 * (l.length : Int) / 2 ^ (56 - 8 * j) % 256).toNat = UInt8.ofNat (8 * l.length / 2 ^ (56 - 8 * j)) := by
      have e : (8 * (l.length : Int) / 2 ^ (56 - 8 * j)) = ((8 * l.length / 2 ^ (56 - 8 * j) : Nat) : Int) := by simp
      rw [e]
      generalize 8 * l.length / 2 ^ (56 - 8 * j) = m
      apply UInt8.toNat_inj.1
      simp
      omega
     rw [hv]
     clear hv hb0 hbf
     have K1 := (((K0.out.set_ 0 (.string (bs (q ++ [UInt8.ofNat (8 * l.length / 2 ^ (56 - 8 * j))])))).alloc (.cells #[.int .u8 (8 * ↑l.length / 2 ^ (56 - 8 * j) % 256)] 5)).drew)
     simp only [List.setIfInBounds_toArray, List.set_cons_zero] at K1
     have hj2 := hJ _ () _ () _ hj (show OwnStep b () wr () (((wr.setCell ⟨b, 0, none⟩ (.string (bs (q ++ [UInt8.ofNat (8 * l.length / 2 ^ (56 - 8 * j))])))).alloc (.cells #[.int .u8 (8 * ↑l.length / 2 ^ (56 - 8 * j) % 256)] 5)).drew) from grown_on (grownBy_setCell' _ _ _) (((Below.refl _ _).alloc (Nat.le_refl _) _).drew))
     gi_wp2
     go_roundw
     case rel => exact ⟨j + 1, by omega, by congr 1; omega, by rw [List.range_succ, List.map_append, ← List.append_assoc, HQ.out]; exact K1, hj2⟩
     case measure => simp [intOf]; omega
    ·obtain rfl : j = 8 := by omega
     simp only [show (56 : Int) - 8 * ((8 : Nat) : Int) = -8 from rfl]
     rw [pad_drop l k HC.out r HR.out c HC0.out] at K0
     rw [chunks_pad l k hk] at hj
     have hpl := padS_len l
     have hkp : 64 * k ≤ (padS l).length := by unfold padS; simp; omega
     clear HC HR HC0 HRL HBL hlt hc1 e1 e2 c128 hlt8 hk
     obtain ⟨p, hp⟩ : ∃ p, padS l = p := ⟨_, rfl⟩
     rw [hp] at K0 hj hpl hkp
     have HP := Lib.hid hp
     clear hp
     replace K0 := Lib.hid K0
     gi_wp2
     gi_loopw [39] (fun _ wr => ∃ m : Nat, 64 * m ≤ p.length ∧ Blk wr b 9 #[.string (bs (p.drop (64 * m)))] ∧ J (chunks m p) () wr) (fun _ wr => boxLen b wr)
     case atStart => exact ⟨k, hkp, K0.out, hj⟩
     case round =>
      clear K0 hj hkp
      obtain ⟨m, hm, K0, hj⟩ := hrel
      have hbl := boxLen_of K0
      obtain ⟨q, hq⟩ : ∃ q, p.drop (64 * m) = q := ⟨_, rfl⟩
      have hql : q.length = p.length - 64 * m := by rw [← hq]; simp
      rw [hq] at K0 hbl
      have HQ := Lib.hid hq
      have HQL := Lib.hid hql
      have HBL := Lib.hid hbl
      clear hq hbl
      replace K0 := Lib.hid K0
      by_cases hlt : 64 ≤ q.length
      ·obtain ⟨fn, tmps, assign, body, hy, hR⟩ := hY (chunks m p) (q.take 64) () wr hj (by unfold AtBlock; simp; omega)
       have hne : q.isEmpty = false := by
        cases q with
        | nil => simp at hlt
        | cons => rfl
       clear hql
       (obtain ⟨k0, f0, l0, m0⟩ := rl_ K0)
       gi_wp2
       refine hR.mono ?_
       rintro e W3 (⟨rfl, hJ3, hk3⟩ | ⟨rfl, hJx3⟩)
       ·have K1 := Lib.hid (show Blk W3 b _ _ from Eq.trans hk3 K0.out)
        clear k0 f0 l0 m0 K0 hk3
        (obtain ⟨k1, f1, l1, m1⟩ := rl_ K1)
        gi_wp2
        have K2 := K1.out.set_ 0 (.string (bs (q.drop 64)))
        simp only [List.setIfInBounds_toArray, List.set_cons_zero] at K2
        have hql := HQL.out
        go_roundw
        case rel => exact ⟨m + 1, by omega, by rw [show 64 * (m + 1) = 64 * m + 64 by omega, ← List.drop_drop, HQ.out]; exact K2, by rw [chunks_succ, HQ.out]; exact hJ _ _ _ _ _ hJ3 (grownBy_setCell' _ _ _)⟩
        case measure => rw [HBL.out, boxLen_of K2]; simp; omega
       ·gi_wp2
        refine bodyPost_ret (results_none rfl _ _ _) rfl ?_
        exact ⟨⟨_, rfl⟩, .inr ⟨_, (), trivial, hJx3⟩⟩
      ·have hq0 : q = [] := List.eq_nil_of_length_eq_zero (by omega)
       have hmT : m = p.length / 64 := by omega
       subst hq0
       (obtain ⟨k0, f0, l0, m0⟩ := rl_ K0)
       gi_wp2
       go_end0
       exact ⟨⟨_, rfl⟩, .inl ⟨_, (), by rw [HP.out, ← hmT], hj⟩⟩

theorem blocks_stops (n : Nat) (hn : 1 ≤ n) (b : Nat) (l : List UInt8) (hl : l.length ≤ 140737488355328) (w : World) (hb : Blk w b 9 #[.string (bs l)]) :
  SeqSt Fence.wide n Tryz.prog 196 #[.pointer (some ⟨b, 0, none⟩)] (fun y : List UInt8 => #[.string (bs y)]) AtBlock (KeepS b) (OwnStep b) () (fun xs => xs = chunks ((padS l).length / 64) (padS l)) (fun _ => True) w :=
 fun lp J Jx W hW hJ hJx hY h0 => blocks1_in n hn lp b l hl J Jx hJ hJx hY W (hb.on hW hb.lt) h0
theorem blocks_in (n : Nat) (s : ByteArray) (w : World) :
  CallsIn Fence.wide n Tryz.prog 155 #[.string s] w fun e w' => e = .returned (.func (.func 196) #[] #[.pointer (some ⟨w.heap.size, 0, none⟩)]) ∧ w' = w.alloc (.cells #[.string s] 9) := by
 refine callsIn_of_wp Tryz.func155 rfl trivial ?_ rfl
 simp only [Tryz.ntmps155, List.size_toArray, List.length_cons, List.length_nil, Nat.reduceAdd, Nat.reduceSub, Array.replicate_succ, Array.replicate_zero, List.push_toArray, List.append_toArray, List.nil_append, List.cons_append]
 gi_wp2
 go_ret
 exact ⟨rfl, rfl⟩
def cat (xs : List ByteArray) : List UInt8 := (xs.map fun s => s.data.toList).flatten
theorem join_cat (xs : List ByteArray) : Lib.join (xs.map fun s => s.data.toList) [] = cat xs := by
 unfold cat Lib.join
 generalize xs.map (fun s => s.data.toList) = ys
 induction ys with
 | nil => rfl
 | cons y ys ih =>
  cases ys with
  | nil => simp
  | cons z zs =>
   simp at ih ⊢
   exact ih
theorem join_calls (A : Option Addr) (c : Nat) (xs : List ByteArray) (w : World) (hs : Strs w A xs) (hc : xs.length ≤ c) (hN : xs.length ≤ 140737488355328) (hlen : (cat xs).length ≤ 140737488355328) :
  Calls Tryz.prog 156 #[.slice A xs.length c, .string { data := #[] }] w (Ret w (.string (bs (cat xs)))) := by
 rcases Nat.eq_zero_or_pos xs.length with h0 | h0
 ·obtain rfl := List.eq_nil_of_length_eq_zero h0
  refine (Tryz.strings_Join_none A c _ w).mono ?_
  rintro e w' ⟨rfl, rfl⟩
  exact ⟨rfl, Below.refl _ _⟩
 ·obtain ⟨b, o, rfl, hb, hcell⟩ := hs h0
  have := Tryz.strings_Join b o c xs ⟨#[]⟩ w hcell hb hN hc (by rw [show (⟨#[]⟩ : ByteArray).data.toList = [] from rfl, join_cat]; exact hlen)
  rw [show (⟨#[]⟩ : ByteArray).data.toList = [] from rfl, join_cat] at this
  exact this
theorem iv_cells : cS iv = #[.int .u32 1779033703, .int .u32 3144134277, .int .u32 1013904242, .int .u32 2773480762, .int .u32 1359893119, .int .u32 2600822924, .int .u32 528734635, .int .u32 1541459225] := rfl
def takes (pre : List (List UInt8)) : St := pre.foldl takeB iv
theorem takes_snoc (pre : List (List UInt8)) (y : List UInt8) : takes (pre ++ [y]) = takeB (takes pre) y := by simp [takes]
def SumI (w : World) (bh : Nat) (pre : List (List UInt8)) (W : World) : Prop := Blk W bh 151 (cS (takes pre)) ∧ HasK W ∧ Below w.heap.size w W
theorem takes_from (h : St) (n : Nat) (p : List UInt8) : (chunks n p).foldl takeB h = takeAll n h p := by
 induction n generalizing h p with
 | zero => rfl
 | succ n ih =>
  rw [takeAll, ← ih]
  unfold chunks
  rw [List.range_succ_eq_map, List.map_cons, List.foldl_cons, List.map_map]
  congr 1
  apply List.map_congr_left
  intro i _
  simp [List.drop_drop, Nat.mul_add, Nat.add_comm]
theorem takes_all (l : List UInt8) : (takes (chunks ((padS l).length / 64) (padS l))).bytes = sha l := by
 unfold takes
 rw [takes_from]
 rfl
def wS (v : St) : List Wd := [v.a, v.b, v.c, v.d, v.e, v.f, v.g, v.h]
theorem cS_words (v : St) : cS v = cw (wS v) := rfl
theorem bytes_len (v : St) : v.bytes.length = 32 := rfl
theorem sbyte_at (v : St) : ∀ k, k < 32 → v.bytes.getD k 0 = UInt8.ofNat (((wS v).getD (k / 4) 0).toNat / 2 ^ (24 - 8 * (k % 4)))
 | 0, _ => rfl
 | 1, _ => rfl
 | 2, _ => rfl
 | 3, _ => by simp [St.bytes, bytesW, wS]
 | 4, _ => rfl
 | 5, _ => rfl
 | 6, _ => rfl
 | 7, _ => by simp [St.bytes, bytesW, wS]
 | 8, _ => rfl
 | 9, _ => rfl
 | 10, _ => rfl
 | 11, _ => by simp [St.bytes, bytesW, wS]
 | 12, _ => rfl
 | 13, _ => rfl
 | 14, _ => rfl
 | 15, _ => by simp [St.bytes, bytesW, wS]
 | 16, _ => rfl
 | 17, _ => rfl
 | 18, _ => rfl
 | 19, _ => by simp [St.bytes, bytesW, wS]
 | 20, _ => rfl
 | 21, _ => rfl
 | 22, _ => rfl
 | 23, _ => by simp [St.bytes, bytesW, wS]
 | 24, _ => rfl
 | 25, _ => rfl
 | 26, _ => rfl
 | 27, _ => by simp [St.bytes, bytesW, wS]
 | 28, _ => rfl
 | 29, _ => rfl
 | 30, _ => rfl
 | 31, _ => by simp [St.bytes, bytesW, wS]
 | k + 32, h => absurd h (by omega)
theorem byte_of (v : St) (k : Nat) (hk : k < 32) : vw ((wS v).getD (k / 4) 0) / 2 ^ (24 - 8 * (k % 4)) % 256 = ((v.bytes.getD k 0).toNat : Int) := by
 rw [sbyte_at v k hk]
 generalize (wS v).getD (k / 4) 0 = x
 unfold vw
 have e : ((x.toNat : Int)) / 2 ^ (24 - 8 * (k % 4)) = ((x.toNat / 2 ^ (24 - 8 * (k % 4)) : Nat) : Int) := by simp
 rw [e]
 generalize x.toNat / 2 ^ (24 - 8 * (k % 4)) = m
 simp
theorem sum_calls (A : Option Addr) (c : Nat) (xs : List ByteArray) (w : World) (hk : HasK w) (hs : Strs w A xs) (hc : xs.length ≤ c) (hN : xs.length ≤ 140737488355328) (hlen : (cat xs).length ≤ 140737488355200) :
  Calls Tryz.prog 114 #[.slice A xs.length c] w (Ret w (.string (bs (sha (cat xs))))) := by
 refine (callsIn_wide (n := 9)).1 ?_
 have hwf : ∀ f, Fence.wide.fn f := fun _ => trivial
 refine callsIn_of_wp_marks Tryz.func114 rfl trivial ?_ rfl
 simp only [Tryz.ntmps114, List.size_toArray, List.length_cons, List.length_nil, Nat.reduceAdd, Nat.reduceSub, Array.replicate_succ, Array.replicate_zero, List.push_toArray, List.append_toArray, List.nil_append, List.cons_append]
 gi_wp2
 gi_wp2_with fail
 have hs1 := hs.below ((Below.refl w.heap.size w).alloc (Nat.le_refl _) (.cells (cS iv) 151))
 rw [iv_cells] at hs1
 refine (callsIn_wide.2 (join_calls A c xs _ hs1 hc hN (by omega))).mono ?_
 rintro e w1 ⟨rfl, hB1⟩
 gi_wp2_with (gi_at_call 155; refine (blocks_in _ _ _).mono ?_; rintro e w' ⟨rfl, rfl⟩)
 have hB2 : Below w.heap.size w w1 := Below.on hB1 ((Below.refl _ _).alloc (Nat.le_refl _) _)
 have hbh : w.heap.size < w1.heap.size := by have := hB1.size; simp at this; omega
 have K0 : Blk w1 w.heap.size 151 (cS iv) := (iv_cells ▸ Blk.new0 w _ _ : Blk (w.alloc (.cells #[.int .u32 1779033703, .int .u32 3144134277, .int .u32 1013904242, .int .u32 2773480762, .int .u32 1359893119, .int .u32 2600822924, .int .u32 528734635, .int .u32 1541459225] 151)) w.heap.size 151 (cS iv)).below hB1
 obtain ⟨b, hbe⟩ : ∃ b, w1.heap.size = b := ⟨_, rfl⟩
 obtain ⟨W0, hW0⟩ : ∃ W0, w1.alloc (.cells #[.string (bs (cat xs))] 9) = W0 := ⟨_, rfl⟩
 have hs0 : W0.heap.size = b + 1 := by rw [← hW0]; simp [hbe]
 have KS : Blk W0 b 9 #[.string (bs (cat xs))] := by rw [← hW0, ← hbe]; exact Blk.new0 _ _ _
 have hI0 : SumI w w.heap.size [] W0 := by
  rw [← hW0]
  exact ⟨K0.alloc _, (hk.from hB2 hk.2).alloc _, hB2.alloc (by omega) _⟩
 rw [hW0, hbe]
 rw [hbe] at hbh
 clear hW0 hbe K0 hB1 hs1
 have hf := enters_of Tryz.func196 (by kernel_rfl) rfl
 have hkl := hk.2
 refine wpIn_rangeFunc_st rfl (by decide) (gf := 196) (lb := #[.pointer (some ⟨b, 0, none⟩)]) rfl trivial hf
  (blocks_stops 8 (by decide) b (cat xs) (by omega) W0 KS) (fun _ => rfl) (fun _ _ _ _ h k => h.trans k) (fun _ W l o o' hl h1 h2 h3 => keepB_b (by omega) W l o o' hl h1 h2 h3)
  (fun _ A _ B k o hab hkk hA _ _ => (hab.block k (Array.getElem?_eq_some_iff.1 hA).1 (by intro e; injection e; omega)).trans hA)
  (fun _ _ _ _ _ _ _ h _ _ _ => h)
  (fun pre _ W => SumI w w.heap.size pre W ∧ b < W.heap.size) (fun _ _ _ _ => False)
  (fun _ s A B row h hg hr => ?own) (fun _ _ _ _ _ _ h _ _ => h)
  (fun s _ A _ B h hab => ?step) (fun _ _ _ _ _ _ h _ => h) ⟨hI0, by omega⟩
  (fun y => { tmps := #[.slice A xs.length c, undef, .string { data := #[] }, .pointer (some ⟨w.heap.size, 0, none⟩), .string (bs y), undef, undef, .agg #[.int .u32 1779033703, .int .u32 3144134277, .int .u32 1013904242, .int .u32 2773480762, .int .u32 1359893119, .int .u32 2600822924, .int .u32 528734635, .int .u32 1541459225],
   .slice A xs.length c, .string (bs (cat xs)), .func (.func 196) #[] #[.pointer (some ⟨b, 0, none⟩)], .string (bs y), undef, undef, undef, undef, undef, undef, undef, undef, undef, undef, undef, undef, undef, undef, undef, undef, undef, undef, undef, undef], defers := [] })
  ?assign ?body ?done ?stop
 case own =>
  obtain ⟨⟨h1, h2, h3⟩, hbx⟩ := h
  have hne : ∀ r, row = some r → W0.heap.size ≤ r := fun r e => (hr r e).1
  exact ⟨⟨h1.grown hg (fun e => by have := hne _ e.symm; omega), h2.grown hg (fun e => by have := hne _ e.symm; omega), h3.grown hg h3.size (fun k e => by have := hne k e; omega)⟩, Nat.lt_of_lt_of_le hbx hg.size⟩
 case step =>
  obtain ⟨⟨h1, h2, h3⟩, hbx⟩ := h
  exact ⟨⟨h1.grown hab (fun e => by injection e; omega), h2.grown hab (fun e => by injection e; omega), below_row h3 hab (by omega)⟩, Nat.lt_of_lt_of_le hbx hab.size⟩
 case assign =>
  intro l y W K hK
  gi_wp2
  exact hK
 case body =>
  rintro l pre y x W ⟨⟨h1, h2, h3⟩, hbx⟩ hy
  gi_wp2_with fail
  refine (CallsIn.inRound l (callsIn_wide.2 (take_calls w.heap.size (takes pre) (bs y) ((bs_size y).trans hy) W h2 h1 (by omega)))).mono ?_
  rintro e w2 ⟨rfl, hg, hb2⟩
  rw [bs_list, ← takes_snoc] at hb2
  gi_wp2
  exact ⟨keepsOthers_row h1 hg, (hg.block b hbx (by intro e; injection e; omega)), ⟨hb2, h2.grown hg (by intro e; injection e; omega), below_row h3 hg (Nat.le_refl _)⟩, Nat.lt_of_lt_of_le hbx hg.size⟩
 case done =>
  rintro D ys x W hD rfl ⟨⟨h1, h2, h3⟩, hbx⟩ hK
  have TA := Lib.hid (takes_all (cat xs))
  obtain ⟨V, hV⟩ : ∃ V, takes (chunks ((padS (cat xs)).length / 64) (padS (cat xs))) = V := ⟨_, rfl⟩
  rw [hV] at h1 TA
  have hB := h3
  have K1 := Lib.hid h1
  clear hV h1 h2 h3 hI0 KS hB2 hk hs
  gi_wp2
  have K0 := Lib.hid (Blk.new0 W 159 (bcells 32 V.bytes 0))
  have hBo := hB.alloc (by have := hB.size; omega) (.cells (bcells 32 V.bytes 0) 159)
  have hDo := (KeepsOthers.alloc W (.cells (bcells 32 V.bytes 0) 159)).same D _ hK rfl
  replace K1 := Lib.hid (K1.out.alloc (.cells (bcells 32 V.bytes 0) 159))
  have hwW : w.heap.size < W.heap.size := by omega
  gi_loopw [14] (fun i wr => ∃ k : Nat, k ≤ 32 ∧ i = .int .i64 k ∧ Blk wr W.heap.size 159 (bcells 32 V.bytes k) ∧ Blk wr w.heap.size 151 (cS V) ∧ Below w.heap.size w wr ∧ wr.heap[D]? = some (.deferred (some [])))
   (fun i _ => (32 - intOf i).toNat)
  case atStart => exact ⟨0, by omega, rfl, K0.out, K1.out, hBo, hDo⟩
  case round =>
   clear K0 K1 hBo hDo hB hK
   obtain ⟨k, hk, rfl, K0, K1, hB, hK⟩ := hrel
   by_cases hlt : k < 32
   ·have hx := byte_of V k hlt
    have hset := bcells_set 32 V.bytes k hlt (bytes_len V) _ hx
    rw [cS_words] at K1
    have g0 := cw_get (L := wS V) (i := k / 4) (by simp [wS]; omega)
    generalize (wS V).getD (k / 4) 0 = x at *
    have v1 := vw_nonneg x
    have HS := Lib.hid hset
    clear hset hx
    replace K0 := Lib.hid K0
    replace K1 := Lib.hid K1
    have hKD := Lib.hid hK
    clear hK
    (obtain ⟨k0, f0, l0, m0⟩ := rl_ K0; obtain ⟨k1, f1, l1, m1⟩ := rl_ K1)
    have gk := bcells_at 32 V.bytes k hlt (bytes_len V)
    gi_wp2
    go_roundw
    case rel => exact ⟨k + 1, by omega, by go_num, by rw [← HS.out]; exact K0.out.set_ _ _, by rw [cS_words]; exact K1.out.over (by simp; omega), hB.setCell (by have := hB.size; simp; omega) _, (KeepsOthers.setCell _ _ _).same D _ hKD.out rfl⟩
    case measure => simp [intOf]; omega
   ·obtain rfl : k = 32 := by omega
    rw [bcells_all 32 V.bytes (bytes_len V), TA.out] at K0
    have hcv := fun c => conv_row wr W.heap.size _ (sha (cat xs)) 32 c K0 (sha_len _)
    have hKD := Lib.hid hK
    have hKK := Lib.hid (KeepsOthers.refl wr)
    clear hK
    replace K0 := Lib.hid K0
    replace K1 := Lib.hid K1
    simp only [show ((32 : Nat) : Int) = 32 from rfl]
    gi_wp2
    refine ⟨by simp, .inl ⟨_, _, rfl, run_takeDeferred hKD.out, ?_⟩⟩
    exact ⟨.string (bs (sha (cat xs))), by simp [results, Tryz.results114, go_sem], rfl, below_shut hB (Nat.le_refl _) (by omega)⟩
 case stop =>
  rintro D c pre x W _ _ h _
  exact h.elim
end Go.Proofs.YtegaaccioppfjaaGreatDoor
end
