/- What the later texts stand on (ShaP, Iter, Row, Row2, Later, Blk, Tail, TailIn, Blk2, Strs, Sha1, Sha2, Bs, RowB): plain laws and walks, each by its own conditions. -/
import Derived.Test.YthflonnkmkjddaaDoorG1
import Derived.Test.YthflonnkmkjddaaDoorChecked
import Derived.WalkKit
import Derived.WalkSpells
import Derived.RangeFuncNested
import Derived.RangeFuncBound
import Derived.RangeFuncCalls
import Derived.RangeFuncLeaves
import Derived.RangeFuncBox
import Derived.Shelf.Abstract
import Derived.Shelf.RegionOpen
import Derived.OwnWalkIn
import Derived.TacticsInMore
import Derived.LoopNIn
import Derived.LoopIn
import Derived.WalkSmall
import Derived.WalkMore
import Derived.BigQuiet
import Derived.Deep.QuietTactic
import Derived.Deep.RegionHeld3
import Derived.Deep.RegionWith
import Derived.Lib.Hide
import Derived.Test.YthflonnkmkjddaaDoorRows
import Derived.ProofKit
import Derived.OpenShut
import Derived.Lib.SmallJoins
import Derived.ChangeMaps5
import Derived.Laws.Rows
import Derived.StillTail
import Derived.OrdersIn
import Derived.Carry
import Derived.SliceStrings
import Derived.Deep.DeepHandedRow
import Derived.Lib.LaidTab
import Derived.Deep.MidRow
set_option linter.unusedSimpArgs false
set_option linter.unusedVariables false
section
namespace Go.Phx

abbrev Wd := BitVec 32
def ror (x : Wd) (n : Nat) : Wd := x >>> n ||| x <<< (32 - n)
def kTab : List Wd := [
  0x428a2f98, 0x71374491, 0xb5c0fbcf, 0xe9b5dba5, 0x3956c25b, 0x59f111f1, 0x923f82a4, 0xab1c5ed5,
  0xd807aa98, 0x12835b01, 0x243185be, 0x550c7dc3, 0x72be5d74, 0x80deb1fe, 0x9bdc06a7, 0xc19bf174,
  0xe49b69c1, 0xefbe4786, 0x0fc19dc6, 0x240ca1cc, 0x2de92c6f, 0x4a7484aa, 0x5cb0a9dc, 0x76f988da,
  0x983e5152, 0xa831c66d, 0xb00327c8, 0xbf597fc7, 0xc6e00bf3, 0xd5a79147, 0x06ca6351, 0x14292967,
  0x27b70a85, 0x2e1b2138, 0x4d2c6dfc, 0x53380d13, 0x650a7354, 0x766a0abb, 0x81c2c92e, 0x92722c85,
  0xa2bfe8a1, 0xa81a664b, 0xc24b8b70, 0xc76c51a3, 0xd192e819, 0xd6990624, 0xf40e3585, 0x106aa070,
  0x19a4c116, 0x1e376c08, 0x2748774c, 0x34b0bcb5, 0x391c0cb3, 0x4ed8aa4a, 0x5b9cca4f, 0x682e6ff3,
  0x748f82ee, 0x78a5636f, 0x84c87814, 0x8cc70208, 0x90befffa, 0xa4506ceb, 0xbef9a3f7, 0xc67178f2]
/-- a word of four bytes, the highest first -/
def wordOf (l : List UInt8) : Wd := l.foldl (fun x c => x <<< 8 ||| BitVec.ofNat 32 c.toNat) 0
def sig0 (x : Wd) : Wd := ror x 7 ^^^ ror x 18 ^^^ x >>> 3
def sig1 (x : Wd) : Wd := ror x 17 ^^^ ror x 19 ^^^ x >>> 10
def big0 (x : Wd) : Wd := ror x 2 ^^^ ror x 13 ^^^ ror x 22
def big1 (x : Wd) : Wd := ror x 6 ^^^ ror x 11 ^^^ ror x 25
def chf (e f g : Wd) : Wd := g ^^^ e &&& (f ^^^ g)
def maj (a b c : Wd) : Wd := a &&& b ||| c &&& (a ||| b)
/-- the word behind those that are there -/
def nextW (w : List Wd) : Wd := w.getD (w.length - 16) 0 + w.getD (w.length - 7) 0 + sig0 (w.getD (w.length - 15) 0) + sig1 (w.getD (w.length - 2) 0)
def grow : Nat → List Wd → List Wd
  | 0, w => w
  | n + 1, w => grow n (w ++ [nextW w])
structure St where
  a : Wd
  b : Wd
  c : Wd
  d : Wd
  e : Wd
  f : Wd
  g : Wd
  h : Wd
deriving DecidableEq
def one (v : St) (k w : Wd) : Wd := v.h + big1 v.e + chf v.e v.f v.g + k + w
def two (v : St) : Wd := big0 v.a + maj v.a v.b v.c
def rnd (v : St) (k w : Wd) : St := ⟨one v k w + two v, v.a, v.b, v.c, v.d + one v k w, v.e, v.f, v.g⟩
def rounds (v : St) (kw : List (Wd × Wd)) : St := kw.foldl (fun v x => rnd v x.1 x.2) v
def St.add (v u : St) : St := ⟨v.a + u.a, v.b + u.b, v.c + u.c, v.d + u.d, v.e + u.e, v.f + u.f, v.g + u.g, v.h + u.h⟩
/-- the first sixteen words of a block -/
def words16 (l : List UInt8) : List Wd := (List.range 16).map fun i => wordOf ((l.drop (4 * i)).take 4)
def takeB (h : St) (l : List UInt8) : St := h.add (rounds h (kTab.zip (grow 48 (words16 l))))
def iv : St := ⟨0x6a09e667, 0xbb67ae85, 0x3c6ef372, 0xa54ff53a, 0x510e527f, 0x9b05688c, 0x1f83d9ab, 0x5be0cd19⟩
def bytesW (x : Wd) : List UInt8 := [UInt8.ofNat (x.toNat / 16777216), UInt8.ofNat (x.toNat / 65536), UInt8.ofNat (x.toNat / 256), UInt8.ofNat x.toNat]
def St.bytes (v : St) : List UInt8 := bytesW v.a ++ bytesW v.b ++ bytesW v.c ++ bytesW v.d ++ bytesW v.e ++ bytesW v.f ++ bytesW v.g ++ bytesW v.h
/-- what stands behind a text: a byte 128, bytes 0, and how many bits it has -/
def tail64 (n : Nat) : List UInt8 := [128] ++ List.replicate ((119 - n % 64) % 64) 0 ++ (List.range 8).map fun i => UInt8.ofNat (8 * n / 2 ^ (56 - 8 * i))
def padS (l : List UInt8) : List UInt8 := l ++ tail64 l.length
/-- blocks of 64, taken in one behind the other -/
def takeAll : Nat → St → List UInt8 → St
  | 0, h, _ => h
  | n + 1, h, l => takeAll n (takeB h (l.take 64)) (l.drop 64)
def sha (l : List UInt8) : List UInt8 := (takeAll ((padS l).length / 64) iv (padS l)).bytes

theorem bytesW_len (x : Wd) : (bytesW x).length = 4 := rfl
theorem sha_len (l : List UInt8) : (sha l).length = 32 := by unfold sha St.bytes; simp [bytesW_len]
end Go.Phx
end
section
namespace Go.Proofs.YthflonnkmkjddaaDoor
open Go.RowKit Go.Shelf

/-- a call returns v, and what lay when it began lies as it lay -/
def Ret (w : World) (v : Value) (e : Ending) (w' : World) : Prop := e = .returned v ∧ Below w.heap.size w w'

/-- block B lies as it lay -/
def KeepB (B : Nat) (W W' : World) : Prop := W'.heap[B]? = W.heap[B]?
theorem KeepB.refl (B : Nat) (W : World) : KeepB B W W := rfl
theorem KeepB.trans {B : Nat} {a b c : World} (h : KeepB B a b) (k : KeepB B b c) : KeepB B a c := Eq.trans k h
theorem KeepB.cell {B : Nat} {W W' : World} (h : KeepB B W W') (o : Nat) : W'.cell? ⟨B, o, none⟩ = W.cell? ⟨B, o, none⟩ := World.cell?_of_block (w := W) h
theorem KeepB.frozen {B : Nat} {W W' : World} (h : KeepB B W W') (o : Nat) : W'.frozen? ⟨B, o, none⟩ = W.frozen? ⟨B, o, none⟩ := World.frozen?_of_block (w := W) h
theorem keepB_b {B : Nat} {w : World} (hB : B < w.heap.size) (W : World) (l : Nat) (o o' : Obj) (hl : w.heap.size ≤ l) (_ : W.heap[l]? = some o) (_ : o.isCells = false) (_ : o.isWalk = false) : KeepB B W (W.putObj l o') :=
  World.putObj_heap_other (by omega)
theorem KeepB.below {B n : Nat} {W W' : World} (h : Below n W W') (hB : B < n) : KeepB B W W' := h.block B hB
theorem KeepB.setCell {B : Nat} {W : World} {a : Addr} (h : B ≠ a.block) (v : Value) : KeepB B W (W.setCell a v) := Below.heap_setCell _ _ _ _ h
/-- what old memory keeps, whatever is no cells keeps -/
theorem KeepsOthers.below {W W' : World} (h : Below W.heap.size W W') : KeepsOthers W W' :=
  ⟨h.size, fun k _ hk _ => (h.block k (Array.getElem?_eq_some_iff.1 hk).1).trans hk⟩
/-- a function whose own loop over an iterator has ended shuts the block of the rounds' deferred calls: new memory -/
theorem below_shut {n : Nat} {w W : World} {D : Nat} {o' : Obj} (hB : Below n w W) (hn : n ≤ w.heap.size) (hD : n ≤ D) : Below n w (W.putObj D o') :=
  hB.grown (grownBy_putObj' W D o') (Nat.le_trans hn hB.size) (fun k e => by cases e; exact hD)
/-- what an old world's part keeps, behind a callee that keeps it -/
theorem Below.via {n m : Nat} {w W w' : World} (h : Below m W w') (hm : n ≤ m) (hB : Below n w W) : Below n w w' := hB.trans (h.mono hm)
theorem Below.on {w W w' : World} (h : Below W.heap.size W w') (hB : Below w.heap.size w W) : Below w.heap.size w w' := hB.trans (h.mono hB.size)
/-- a scope through which the run goes without a goto, inside the wide fence -/
theorem wpIn_scope {n : Nat} {P : Program} {c : Code} {Q : Exit → Act → World → Prop} {a : Act} {w : World} (h : c.wpIn Fence.wide n P (Exit.noGoto Q) a w) : (Code.scope c).wpIn Fence.wide n P Q a w :=
  wpIn_wide.2 (wp_scope_straight (wpIn_wide.1 h))

/-- a number of the extension as a value -/
def v2 (z : Go.Phx.F2) : Value := .agg #[.int .u64 (Go.Phx.vz z.1), .int .u64 (Go.Phx.vz z.2)]
end Go.Proofs.YthflonnkmkjddaaDoor
end
section
namespace Go.Proofs.YthflonnkmkjddaaDoor
open Go.ChangeShapes Go.WideShapes Go.ChangeAt Go.RowKit Go.Joins
set_option maxRecDepth 100000

theorem own : ownKnob Tryd.prog.godebug = none := by kernel_rfl

section
variable {H : Type} {enc : TypeId × Value → H} {P : Program}
/-- the row's last step where 'Below' is known of the world behind the call -/
theorem post_below {f : Func} {s : ChangeSpec} {apart fresh handsOn again : Bool} {W W' : World} {args : Array Value} {v : Value} {ds gs : List (DataW H)} {before pa pv : List MemPlace}
    (hW : DataW.Whole enc P f.params.toList s.vars apart W args.toList ds gs before)
    (hres : ∀ (b : Nat) (sp : Nat → Bool) (hd : Bool), DataW.TrodAll enc P W' b sp hd f.resultTypes.toList (v.resultList f.resultTypes.size) (s.fn H (ds ++ gs)).results [])
    (hargs : ∀ sp : Nat → Bool, (∀ p ∈ before, sp p.block = true) → DataW.TrodAll enc P W' 0 sp true f.params.toList args.toList (s.fn H (ds ++ gs)).args pa)
    (hvars : ∀ sp : Nat → Bool, (∀ p ∈ before, sp p.block = true) → DataW.TrodVars enc P W' sp s.vars (s.fn H (ds ++ gs)).vars pv)
    (hps : before = pa ++ pv) (hb : Below W.heap.size W W')
    (hok : ∀ (j : Nat) (t : TypeId) (r : Value), f.resultTypes[j]? = some t → (v.resultList f.resultTypes.size)[j]? = some r → Value.okWide P W' .any 0 t r) :
    s.post enc P f apart fresh handsOn again W args v W' := by
  have hlt : ∀ p ∈ before, p.block < W.heap.size := fun p hp => hW.lt p hp
  have hold : ∀ p ∈ before, (fun b => decide (b < W.heap.size)) p.block = true := fun p hp => by simpa using hlt p hp
  refine ⟨ds, gs, before, [], pa, pv, hW, hres _ _ _, hargs _ hold, hvars _ hold, World.keptBut_mono (fun p hp => ⟨hp, ?_⟩) (hb.frame (· ∈ before)), fun _ => ?_⟩
  · rw [hps, List.mem_append] at hp
    exact Or.inr hp
  · obtain ⟨_, _, _, _, _, hz, hn⟩ := hW
    refine ⟨hok, _, _, ([] ++ pa) ++ pv, ⟨[] ++ pa, pv, trodAll_append (hargs _ (fun _ _ => rfl)) (hres _ _ _), hvars _ (fun _ _ => rfl), rfl, ?_, ?_⟩, ?_⟩
    · intro b off hp
      have hin : MemPlace.cell b off ∈ before := by rw [hps]; simpa using hp
      rw [hb.frozen (hlt _ hin)]
      exact hz b off hin
    · intro ha
      have := hn ha
      rw [hps] at this
      simpa using this
    · intro p hp _
      rw [hps]
      simpa using hp
end

section
variable {H : Type} {enc : TypeId × Value → H} {w : World} {base : Nat} {spare : Nat → Bool} {held : Bool} {r : Reach} {b0 : Nat} {v : Value} {d : DataW H} {p : List MemPlace}
theorem openU64 (hv : Value.okWide Tryd.prog w r b0 23 v) (h : DataW.Trod enc Tryd.prog w base spare held 23 v d p) : ∃ a, v = .int .u64 a ∧ d = .lit (.int .u64 a) ∧ p = [] ∧ (Lit.int .u64 a).wf = true :=
  open_int Tryd.underlying23 hv h
end
end Go.Proofs.YthflonnkmkjddaaDoor
end
section
namespace Go.Proofs.YthflonnkmkjddaaDoor
open Go.ChangeShapes Go.WideShapes Go.ChangeAt Go.RowKit Go.Joins
set_option maxRecDepth 100000

section
variable {H : Type} {enc : TypeId × Value → H} {w : World} {base : Nat} {spare : Nat → Bool} {held : Bool} {r : Reach} {b0 : Nat} {v : Value} {d : DataW H} {p : List MemPlace}
theorem underString : Tryd.prog.underlying 9 = some .string := by kernel_rfl
theorem openI64 (hv : Value.okWide Tryd.prog w r b0 3 v) (h : DataW.Trod enc Tryd.prog w base spare held 3 v d p) : ∃ a, v = .int .i64 a ∧ d = .lit (.int .i64 a) ∧ p = [] ∧ (Lit.int .i64 a).wf = true :=
  open_int (show Tryd.prog.underlying 3 = some (.int .i64) by kernel_rfl) hv h
end
end Go.Proofs.YthflonnkmkjddaaDoor
end
section
namespace Go.Proofs.YthflonnkmkjddaaDoor
open Go.RowKit Go.Shelf

/-- the worlds that came later: what lay in w lies as it lay -/
def Later (w : World) : Type := { w' : World // Below w.heap.size w w' }
instance instLater (w : World) : Nonempty (Later w) := ⟨⟨w, Below.refl _ _⟩⟩
def Later.at {w : World} (x : Later w) : World := x.1
theorem Later.below {w : World} (x : Later w) : Below w.heap.size w x.at := x.2
@[go_sem] theorem Later.cell {w : World} (x : Later w) (b o : Nat) (h : b < w.heap.size) : x.at.cell? ⟨b, o, none⟩ = w.cell? ⟨b, o, none⟩ := x.below.cell (p := ⟨b, o, none⟩) h
@[go_sem] theorem Later.frozen {w : World} (x : Later w) (b o : Nat) (h : b < w.heap.size) : x.at.frozen? ⟨b, o, none⟩ = w.frozen? ⟨b, o, none⟩ := x.below.frozen (p := ⟨b, o, none⟩) h

theorem wp_region_later {P : Program} {id : Nat} {Q : Exit → Act → World → Prop} {a : Act} {w : World} {l : List Oper} (hm : P.follows .mixedOrders = true) (hB : Region.lexB .any l.toArray = true)
    (h : wpQuiet P l.toArray (fun w' => ∃ x : Later w, w' = x.at) (fun a' => ∀ w', Below w.heap.size w w' → Q .normal a' w') l a) : (Code.region id l.toArray true).wp P Q a w :=
  wp_region_quiet (C := fun w' => ∃ x : Later w, w' = x.at) hm hB ⟨⟨_, (Below.refl _ w).drew⟩, rfl⟩ (by
    have e : ∀ a', (∀ w', Below w.heap.size w w' → Q .normal a' w') → ∀ w', (∃ x : Later w, w' = x.at) → Q .normal a' w' := fun a' h w' ⟨x, hx⟩ => h w' (by rw [hx]; exact x.below)
    have mono : ∀ (l' : List Oper) (a : Act) (Q₁ Q₂ : Act → Prop), (∀ a, Q₁ a → Q₂ a) → wpQuiet P l.toArray (fun w' => ∃ x : Later w, w' = x.at) Q₁ l' a → wpQuiet P l.toArray (fun w' => ∃ x : Later w, w' = x.at) Q₂ l' a := by
      intro l'
      induction l' with
      | nil => exact fun a Q₁ Q₂ hq h => hq _ h
      | cons o l' ih =>
        intro a Q₁ Q₂ hq h
        simp only [wpQuiet] at h ⊢
        split
        · rename_i hw
          rw [if_pos hw] at h
          exact Oper.quiet_mono (fun a h => ih a _ _ hq h) h
        · rename_i hw
          rw [if_neg hw] at h
          exact ih _ _ _ hq h
    simpa using mono _ _ _ _ e h)

/-- a contract that leaves what lay, in the form that such a walk takes -/
theorem lq {P : Program} {f : FuncId} {args : Array Value} {w : World} {x : Later w} {v : Value} (h : Calls P f args x.at (Ret x.at v)) :
    Calls P f args x.at fun e w'' => e = .returned v ∧ ∃ y : Later w, w'' = y.at :=
  h.mono fun _ _ ⟨he, hb⟩ => ⟨he, ⟨_, Below.on hb x.below⟩, rfl⟩
theorem lw {P : Program} {f : FuncId} {args : Array Value} {w : World} {x : Later w} {v : Value} (h : Calls P f args x.at fun e w' => e = .returned v ∧ x.at = w') :
    Calls P f args x.at fun e w'' => e = .returned v ∧ ∃ y : Later w, w'' = y.at :=
  h.mono fun _ _ ⟨he, hb⟩ => ⟨he, x, hb.symm⟩
end Go.Proofs.YthflonnkmkjddaaDoor
end
section
namespace Go.Proofs.YthflonnkmkjddaaDoor
open Go.RowKit Go.Shelf

/-- block g is just the cells cs, none frozen -/
def Blk (w : World) (g : Nat) (t : TypeId) (cs : Array Value) : Prop := w.heap[g]? = some (.cells cs t (0, 0))
section
variable {w w' : World} {g : Nat} {t : TypeId} {cs : Array Value}
theorem Blk.lt (h : Blk w g t cs) : g < w.heap.size := by
  rcases Nat.lt_or_ge g w.heap.size with hlt | hge
  · exact hlt
  · unfold Blk at h; rw [Array.getElem?_eq_none hge] at h; cases h
theorem Blk.cell (h : Blk w g t cs) (i : Nat) : w.cell? ⟨g, i, none⟩ = cs[i]? := cell_of_row w g i cs t (0, 0) h
theorem Blk.free (h : Blk w g t cs) (i : Nat) : w.frozen? ⟨g, i, none⟩ = false := by
  unfold Blk at h
  simp [World.frozen?, h]
theorem Blk.new0 (w : World) (t : TypeId) (cs : Array Value) : Blk (w.alloc (.cells cs t)) w.heap.size t cs := heap_alloc_new w _
theorem size_alloc (w : World) (o : Obj) : (w.alloc o).heap.size = w.heap.size + 1 := by
  show (w.heap.push o).size = _
  simp
theorem Blk.new1 (w : World) (o1 : Obj) (t : TypeId) (cs : Array Value) : Blk ((w.alloc o1).alloc (.cells cs t)) (w.heap.size + 1) t cs := by
  have := Blk.new0 (w.alloc o1) t cs
  rwa [size_alloc] at this
theorem Blk.new2 (w : World) (o1 o2 : Obj) (t : TypeId) (cs : Array Value) : Blk (((w.alloc o1).alloc o2).alloc (.cells cs t)) (w.heap.size + 1 + 1) t cs := by
  have := Blk.new1 (w.alloc o1) o2 t cs
  rwa [size_alloc] at this
theorem Blk.new3 (w : World) (o1 o2 o3 : Obj) (t : TypeId) (cs : Array Value) : Blk ((((w.alloc o1).alloc o2).alloc o3).alloc (.cells cs t)) (w.heap.size + 1 + 1 + 1) t cs := by
  have := Blk.new2 (w.alloc o1) o2 o3 t cs
  rwa [size_alloc] at this
theorem Blk.new4 (w : World) (o1 o2 o3 o4 : Obj) (t : TypeId) (cs : Array Value) : Blk (((((w.alloc o1).alloc o2).alloc o3).alloc o4).alloc (.cells cs t)) (w.heap.size + 1 + 1 + 1 + 1) t cs := by
  have := Blk.new3 (w.alloc o1) o2 o3 o4 t cs
  rwa [size_alloc] at this
theorem Blk.drew (h : Blk w g t cs) : Blk w.drew g t cs := h
theorem Blk.drewN (h : Blk w g t cs) (n : Nat) : Blk (w.drewN n) g t cs := h
theorem Blk.alloc (h : Blk w g t cs) (o : Obj) : Blk (w.alloc o) g t cs := (Below.heap_alloc w o g h.lt).trans h
theorem Blk.set_ (h : Blk w g t cs) (i : Nat) (u : Value) : Blk (w.setCell ⟨g, i, none⟩ u) g t (cs.setIfInBounds i u) := by
  unfold Blk at h ⊢
  simp [World.setCell, Array.getElem?_modify, h]
theorem Blk.far (h : Blk w g t cs) {p : Addr} (hp : g ≠ p.block) (u : Value) : Blk (w.setCell p u) g t cs := (Below.heap_setCell w p u g hp).trans h
theorem Blk.over {p : Addr} (hp : g ≠ p.block) {u : Value} (h : Blk w g t cs) : Blk (w.setCell p u) g t cs := h.far hp u
theorem Blk.on {B : Nat} (h : Blk w g t cs) (hb : Below B w w') (hg : g < B) : Blk w' g t cs := (hb.block g hg).trans h
theorem Blk.below (h : Blk w g t cs) (hb : Below w.heap.size w w') : Blk w' g t cs := (hb.block g h.lt).trans h
end
end Go.Proofs.YthflonnkmkjddaaDoor
end
section
namespace Go.Proofs.YthflonnkmkjddaaDoor
open Go.RowKit Go.Shelf

section
variable {P : Program} {ops : Array Oper} {md : Region.Mode} {C : World → Prop}
/-- the first n operations in whatever order, each quiet in the class; then L -/
def wpHd (P : Program) (md : Region.Mode) (ops : Array Oper) (C : World → Prop) (n : Nat) (L : Array Bool → Act → Prop) : Nat → Array Bool → Act → Prop
  | 0, listed, a => L listed a
  | f + 1, listed, a => Region.ready md ops listed ≠ [] ∧ ∀ i ∈ Region.ready md ops listed, i < n ∧ qOp P ops C i (wpHd P md ops C n L f (listed.setIfInBounds i true)) a
theorem any_of_hd {n g : Nat} {L : Array Bool → Act → Prop} {Q' : Exit → Act → World → Prop} (hL : ∀ listed a, L listed a → ∀ w, C w → wpAny P md ops Q' g listed a w) :
    ∀ (f : Nat) (listed : Array Bool) (a : Act) (w : World), C w → wpHd P md ops C n L f listed a → wpAny P md ops Q' (f + g) listed a w
  | 0, listed, a, w, hw, h => by rw [Nat.zero_add]; exact hL _ _ h w hw
  | f + 1, listed, a, w, hw, h => by
    rw [show f + 1 + g = (f + g) + 1 by omega]
    exact ⟨fun h0 => absurd h0 h.1, fun i hi => wpOp_of_qOp hw (fun a' w' hw' h' => any_of_hd hL f _ a' w' hw' h') (h.2 i hi).2⟩
theorem hd_first {n i : Nat} {oi : Oper} {v : Value} {L : Array Bool → Act → Prop} (hi : ops[i]? = some oi) (hsel : ∀ (j : Nat) (o : Oper) cs b, ops[j]? = some o → o.op ≠ .select cs b)
    (hs : Region.sinkB md ops n = true) (hc : Region.chainB md ops n = true) (hn : n < ops.size) (hin : i < n)
    (hdone : ∀ listed a, L listed a → ∀ j ∈ Region.ready md ops listed, n ≤ j) :
    ∀ (f : Nat) (listed : Array Bool) (a : Act), HeadInv md ops n listed →
      (∀ j oj, ops[j]? = some oj → j ≠ i → listed.getD j true = false → (∀ e ∈ oj.after, Region.binds md e = true → e.on ≠ i) → oi.apart ops oj = true) →
      i ∈ Region.ready md ops listed → YieldsIn P ops C oi v a →
      wpHd P md ops C n L f (listed.setIfInBounds i true) (a.put oi.dst v) → wpHd P md ops C n L (f + 1) listed a := by
  intro f
  induction f with
  | zero =>
    intro listed a inv _ hr hy H
    have hun := (mem_ready.1 hr).1
    refine ⟨fun h => (by rw [h] at hr; cases hr), fun j hj => ?_⟩
    have hjn : j < n := by
      rcases Nat.lt_or_ge j n with h | h
      · exact h
      · exact absurd hj (tail_waits hs hc hn inv _ i rfl hin hun j h)
    refine ⟨hjn, ?_⟩
    by_cases hji : j = i
    · subst hji
      exact hy.qOp hi H
    · have := hdone _ _ H j (ready_mono hj hji)
      omega
  | succ f ih =>
    intro listed a inv hfree hr hy H
    have hun := (mem_ready.1 hr).1
    refine ⟨fun h => (by rw [h] at hr; cases hr), fun j hj => ?_⟩
    have hjn : j < n := by
      rcases Nat.lt_or_ge j n with h | h
      · exact h
      · exact absurd hj (tail_waits hs hc hn inv _ i rfl hin hun j h)
    refine ⟨hjn, ?_⟩
    by_cases hji : j = i
    · subst hji
      exact hy.qOp hi H
    · obtain ⟨hjun, oj, hoj, hall⟩ := mem_ready.1 hj
      have hnot : ∀ e ∈ oj.after, Region.binds md e = true → e.on ≠ i := fun e he hb heq => by
        have h1 := hall e he hb
        rw [heq, getD_both hun] at h1
        cases h1
      have h2 := qOp_put hoj (hfree j oj hoj hji hjun hnot) (fun cs b => hsel i oi cs b hi) (fun cs b => hsel j oj cs b hoj) hy (H.2 j (ready_mono hj hji)).2
      refine qOp_mono (fun a' h3 => ih (listed.setIfInBounds j true) a' (inv.set hj hjn) (fun k ok hk hki hku hno => ?_) (ready_mono hr (Ne.symm hji)) h3.1 ?_) h2
      · refine hfree k ok hk hki ?_ hno
        by_cases hjk : j = k
        · subst hjk
          exact hjun
        · rw [getD_set_ne true hjk] at hku
          exact hku
      · rw [Array.setIfInBounds_comm _ _ hji]
        exact h3.2
theorem hd_lex {n g : Nat} {Lq : Act → Prop} (hsel : Region.noSelect ops = true) (hs : Region.sinkB md ops n = true) (hc : Region.chainB md ops n = true) (hn : n < ops.size) :
    ∀ (l : List Oper) (k : Nat) (listed : Array Bool) (a : Act), (∀ j, j < l.length → l[j]? = ops[k + j]?) → k + l.length = n → HeadInv md ops n listed →
    Region.lexHead md ops g l.length k listed = true → wpQuiet P ops C Lq l a →
    wpHd P md ops C n (fun listed' a' => Region.seqB md ops g n listed' = true ∧ Lq a') l.length listed a
  | [], k, listed, a, _, hk, _, hB, h => by
    have : k = n := by simpa using hk
    subst this
    exact ⟨by simpa [Region.lexHead] using hB, h⟩
  | o :: l, k, listed, a, hl, hk, inv, hB, h => by
    have h0 : ops[k]? = some o := by simpa using (hl 0 (by simp)).symm
    simp only [List.length_cons, Region.lexHead, Bool.and_eq_true] at hB
    obtain ⟨⟨hr, hf⟩, hB'⟩ := hB
    have hkn : k < n := by simp only [List.length_cons] at hk; omega
    have hr' : k ∈ Region.ready md ops listed := by simpa using hr
    have hst : qOp P ops C k (wpQuiet P ops C Lq l) a := by unfold qOp; simp only [h0]; exact h
    obtain ⟨v, hy, hK⟩ := yieldsIn_of_qOp h0 hst
    exact hd_first h0 (Region.noSelect_spec hsel) hs hc hn hkn (fun listed' a' hL => seqB_ready hL.1) l.length listed a inv (Region.free_spec h0 hf) hr' hy
      (hd_lex hsel hs hc hn l (k + 1) _ _ (fun j hj => by have := hl (j + 1) (by simp; omega); simpa [Nat.add_assoc, Nat.add_comm 1 j] using this) (by simp only [List.length_cons] at hk; omega) (inv.set hr' hkn) hB' hK)
theorem wp_region_class_tail {id : Nat} {Q : Exit → Act → World → Prop} {a : Act} {w : World} {l : List Oper} (n : Nat) (hm : P.follows .mixedOrders = true) (hB : Region.lexTailB .any l.toArray n = true)
    (hC : C { w with drawn := w.drawn + 1 }) (h : wpQuiet P l.toArray C (fun a' => ∀ w', C w' → wpList P l.toArray Q (l.drop n) a' w') (l.take n) a) : (Code.region id l.toArray true).wp P Q a w := by
  simp only [Region.lexTailB, Bool.and_eq_true, decide_eq_true_eq] at hB
  obtain ⟨⟨⟨⟨hsel, hn⟩, hs⟩, hc⟩, hlex⟩ := hB
  have hn' : n < l.length := by simpa using hn
  have htl : (l.take n).length = n := by simp; omega
  have hdl : (l.drop n).length = l.toArray.size - n := by simp
  have inv0 : HeadInv .any l.toArray n (Array.replicate l.toArray.size false) :=
    ⟨by simp, fun j oj _ hl => (by rw [getD_replicate_false] at hl; cases hl), fun t _ ht => getD_in (by simpa using ht) (getD_replicate_false _ _)⟩
  have H := hd_lex (md := .any) (g := l.toArray.size - n) hsel hs hc hn (l.take n) 0 _ a (fun j hj => by
    have hj' : j < n := by rw [htl] at hj; exact hj
    simp [hj']) (by simpa using htl) inv0 (by rw [htl]; exact hlex) h
  refine wp_region_any hm ?_
  have := any_of_hd (Q' := Q) (g := l.toArray.size - n) (fun listed a' hL w' hw' => by
    have := wpAny_of_seq (md := .any) (Q' := Q) (l.drop n) n listed a' w' (fun j => by simp [List.getElem?_drop]) (by rw [hdl]; exact hL.1) (hL.2 w' hw')
    rwa [hdl] at this) _ _ _ _ hC H
  rw [htl, show n + (l.toArray.size - n) = l.toArray.size by omega] at this
  exact this
theorem quiet_to {l : List Oper} {Q₁ Q₂ : Act → Prop} (hq : ∀ a, Q₁ a → Q₂ a) : ∀ (l' : List Oper) (a : Act), wpQuiet P l.toArray C Q₁ l' a → wpQuiet P l.toArray C Q₂ l' a := by
  intro l'
  induction l' with
  | nil => exact fun a h => hq _ h
  | cons o l' ih =>
    intro a h
    simp only [wpQuiet] at h ⊢
    split
    · rename_i hw
      rw [if_pos hw] at h
      exact Oper.quiet_mono (fun a h => ih a h) h
    · rename_i hw
      rw [if_neg hw] at h
      exact ih _ h
/-- the first n operations read and call, over the worlds that came later; the rest stands in a row behind them -/
theorem wp_region_later_tail {id : Nat} {Q : Exit → Act → World → Prop} {a : Act} {w : World} {l : List Oper} (n : Nat) (hm : P.follows .mixedOrders = true) (hB : Region.lexTailB .any l.toArray n = true)
    (h : wpQuiet P l.toArray (fun w' => ∃ x : Later w, w' = x.at) (fun a' => ∀ w', Below w.heap.size w w' → wpList P l.toArray Q (l.drop n) a' w') (l.take n) a) : (Code.region id l.toArray true).wp P Q a w :=
  wp_region_class_tail n hm hB ⟨⟨_, (Below.refl _ w).drew⟩, rfl⟩ (quiet_to (fun a' h w' ⟨x, hx⟩ => h w' (by rw [hx]; exact x.below)) _ _ h)
end
end Go.Proofs.YthflonnkmkjddaaDoor
end
section
namespace Go.Proofs.YthflonnkmkjddaaDoor
open Go.RowKit Go.Shelf

section
variable {P : Program} {ops : Array Oper} {md : Region.Mode} {C : World → Prop} {l m : Nat}
/-- no operation is a defer statement -/
def noDefer (ops : Array Oper) : Bool := ops.all fun o => match o.op with | .defer _ => false | _ => true
theorem noDefer_spec {i : Nat} {o : Oper} (h : noDefer ops = true) (hi : ops[i]? = some o) : ∀ c, o.op ≠ .defer c := by
  intro c hc
  obtain ⟨hlt, he⟩ := Array.getElem?_eq_some_iff.1 hi
  have := Array.all_eq_true.1 h i hlt
  rw [he, hc] at this
  cases this
end
end Go.Proofs.YthflonnkmkjddaaDoor
end
section
namespace Go.Proofs.YthflonnkmkjddaaDoor
open Go.RowKit Go.Shelf

theorem Blk.later {w w' : World} {g : Nat} {t : TypeId} {cs : Array Value} (hb : Below w.heap.size w w') (h : Blk w g t cs) : Blk w' g t cs := h.below hb
theorem Blk.to {W : World} {g : Nat} {t : TypeId} {cs cs' : Array Value} (h : Blk W g t cs) (e : cs = cs') : Blk W g t cs' := e ▸ h
theorem Blk.over2 {w : World} {g b i : Nat} {t : TypeId} {cs : Array Value} {u : Value} (hp : g ≠ b) (h : Blk w g t cs) : Blk (w.setCell ⟨b, i, none⟩ u) g t cs := h.far hp u
theorem Blk.newAt {w : World} {g : Nat} {t : TypeId} {cs : Array Value} (hs : w.heap.size = g) : Blk (w.alloc (.cells cs t)) g t cs := hs ▸ Blk.new0 w t cs
theorem size_set (w : World) (p : Addr) (u : Value) : (w.setCell p u).heap.size = w.heap.size := by simp [World.setCell]
theorem Blk.newS1 (w : World) (p : Addr) (u : Value) (t : TypeId) (cs : Array Value) : Blk ((w.setCell p u).alloc (.cells cs t)) w.heap.size t cs := Blk.newAt (size_set _ _ _)
theorem Blk.newS2 (w : World) (p p' : Addr) (u u' : Value) (t : TypeId) (cs : Array Value) : Blk (((w.setCell p u).setCell p' u').alloc (.cells cs t)) w.heap.size t cs := Blk.newAt (by rw [size_set, size_set])
theorem Blk.newS3 (w : World) (p p' p'' : Addr) (u u' u'' : Value) (t : TypeId) (cs : Array Value) : Blk ((((w.setCell p u).setCell p' u').setCell p'' u'').alloc (.cells cs t)) w.heap.size t cs := Blk.newAt (by rw [size_set, size_set, size_set])
end Go.Proofs.YthflonnkmkjddaaDoor
end
section
namespace Go.Proofs.YthflonnkmkjddaaDoor
open Go.ChangeShapes Go.WideShapes Go.ChangeAt Go.RowKit Go.Joins
set_option maxRecDepth 100000

/-- a slice's address leads to these texts -/
def Strs (w : World) (A : Option Addr) (xs : List ByteArray) : Prop :=
  0 < xs.length → ∃ b o, A = some ⟨b, o, none⟩ ∧ b < w.heap.size ∧ ∀ (i : Nat) (x : ByteArray), xs[i]? = some x → w.cell? ⟨b, o + i, none⟩ = some (.string x)
theorem Strs.nil (w : World) (A : Option Addr) : Strs w A [] := fun h => absurd h (by simp)
theorem Strs.keep {w w' : World} {A : Option Addr} {xs : List ByteArray} (h : Strs w A xs) (hz : w.heap.size ≤ w'.heap.size) (hk : ∀ b o, b < w.heap.size → w'.cell? ⟨b, o, none⟩ = w.cell? ⟨b, o, none⟩) : Strs w' A xs := fun h0 => by
  obtain ⟨b, o, ha, hb, hc⟩ := h h0
  exact ⟨b, o, ha, by omega, fun i x hx => (hk _ _ hb).trans (hc i x hx)⟩
theorem Strs.below {w w' : World} {A : Option Addr} {xs : List ByteArray} (h : Strs w A xs) (hb : Below w.heap.size w w') : Strs w' A xs := h.keep hb.size fun b o hp => hb.cell (p := ⟨b, o, none⟩) hp
/-- .. of cells at an address -/
theorem Strs.mk {w : World} {b o : Nat} {xs : List ByteArray} (hb : b < w.heap.size) (h : ∀ (i : Nat) (x : ByteArray), xs[i]? = some x → w.cell? ⟨b, o + i, none⟩ = some (.string x)) : Strs w (some ⟨b, o, none⟩) xs := fun _ => ⟨b, o, rfl, hb, h⟩

section
variable {H : Type} {enc : TypeId × Value → H} {P : Program}
/-- arguments read behind the call as they did -/
theorem stays_all (hl : laidOutB P = true) {W W' : World} (hb : Below W.heap.size W W') : ∀ {ts : List TypeId} {vs : List Value} {ds : List (DataW H)} {ps : List MemPlace},
    (ts.all fun t => P.readableRec t && decide (t < P.types.size)) = true → DataW.TrodAll enc P W 0 (fun _ => true) true ts vs ds ps → (∀ x ∈ ps, x.block < W.heap.size) →
    ∀ sp : Nat → Bool, (∀ x ∈ ps, sp x.block = true) → DataW.TrodAll enc P W' 0 sp true ts vs ds ps := by
  intro ts
  induction ts with
  | nil =>
    intro vs ds ps _ h _ sp _
    obtain ⟨rfl, rfl, rfl⟩ := trodAll_nil h
    exact trodAll_mk0
  | cons t ts ih =>
    intro vs ds ps hr h hlt sp hsp
    obtain ⟨v, vs', d, ds', p, p', rfl, rfl, rfl, h0, h1⟩ := trodAll_cons h
    simp only [List.all_cons, Bool.and_eq_true, decide_eq_true_eq] at hr
    exact trodAll_cons_mk (WideElems.Trod_stays hl hr.1.1 hr.1.2 h0 (fun x hx => hb.same (hlt x (by simp [hx]))) (fun x hx => hsp x (by simp [hx])))
      (ih hr.2 h1 (fun x hx => hlt x (by simp [hx])) sp (fun x hx => hsp x (by simp [hx])))
end
theorem laidOut : laidOutB Tryd.prog = true := by kernel_rfl

section
variable {H : Type} {enc : TypeId × Value → H} {w : World} {base : Nat} {spare : Nat → Bool} {held : Bool} {r : Reach} {b0 : Nat} {v : Value} {d : DataW H} {p : List MemPlace}
/-- a slice of texts among the arguments -/
theorem openStrs (hv : Value.okWide Tryd.prog w r b0 22 v) (h : DataW.Trod enc Tryd.prog w base spare held 22 v d p) :
    ∃ (A : Option Addr) (c : Nat) (xs : List ByteArray), v = .slice A xs.length c ∧ xs.length ≤ c ∧ c ≤ maxLen ∧ Strs w A xs ∧ (∀ x ∈ xs, x.size ≤ maxLen) ∧ (d = .nil ∧ xs = [] ∨ ∃ rest, d = .slice (strs xs) rest) := by
  obtain ⟨fuel, hf⟩ := h
  obtain ⟨A, n, c, rfl⟩ : ∃ A n c, v = .slice A n c := by
    exact okWide_slice (show Tryd.prog.underlying 22 = some (.slice 9) by kernel_rfl) hv
  rcases open_strings (show Tryd.prog.underlying 22 = some (.slice 9) by kernel_rfl) underString (by kernel_rfl) hf with ⟨hc, hx⟩ | ⟨a, len, cap, ss, hc, _, hl, hm, hn, hx, hcell, hsz⟩
  · simp [Value.cells] at hc hx
    obtain ⟨rfl, rfl, rfl⟩ := hc
    exact ⟨none, 0, [], rfl, Nat.le_refl _, Nat.zero_le _, Strs.nil _ _, by simp, .inl ⟨hx.1, rfl⟩⟩
  · simp [Value.cells] at hc
    obtain ⟨rfl, rfl, rfl⟩ := hc
    have hlen : n ≤ ss.length := by rw [hn]; split <;> omega
    have ht : (ss.take n).length = n := by simp; omega
    refine ⟨some a, c, ss.take n, by rw [ht], by omega, hm, fun h0 => ?_, fun x hx => hsz x (List.mem_of_mem_take hx), .inr ⟨_, by simpa using congrArg Prod.fst hx⟩⟩
    have h00 := hcell 0 (by omega)
    have hsp : a.spot = none := by
      rw [Addr.add, if_pos rfl] at h00
      unfold World.cell? at h00
      split at h00
      · rename_i hh
        cases hs : a.spot with
        | none => rfl
        | some _ => rw [hs] at h00; simp at h00
      · cases h00
    obtain ⟨b, o, sp⟩ := a
    obtain rfl : sp = none := hsp
    refine ⟨b, o, rfl, World.block_lt_of_cell? _ _ h00, fun i x hx => ?_⟩
    have hi : i < n := by
      have := (List.getElem?_eq_some_iff.1 hx).1
      omega
    rw [List.getElem?_take_of_lt hi] at hx
    have := hcell i (by omega)
    rw [List.getD, hx] at this
    rw [← show Addr.add ⟨b, o, none⟩ i = ⟨b, o + i, none⟩ by unfold Addr.add; split <;> simp_all]
    exact this
end
end Go.Proofs.YthflonnkmkjddaaDoor
end
section
set_option linter.unusedSimpArgs false
set_option linter.unusedVariables false
namespace Go.Proofs.YthflonnkmkjddaaDoor
open BigFrame Go.RowKit Go.Phx Go.Shelf
attribute [local go_sem] Oper.semAt_some

/-- a word as a number -/
def vw (x : Wd) : Int := (x.toNat : Int)
theorem vw_nonneg (x : Wd) : 0 ≤ vw x := Int.natCast_nonneg _
theorem vw_lt (x : Wd) : vw x < 4294967296 := by have := x.isLt; unfold vw; omega
@[go_sem] theorem xor_w (x y : Wd) : bits .xor .u32 (vw x) (vw y) = vw (x ^^^ y) := by
  unfold vw
  rw [u32_xor_nat _ _ x.isLt y.isLt, BitVec.toNat_xor]
@[go_sem] theorem and_w (x y : Wd) : bits .and .u32 (vw x) (vw y) = vw (x &&& y) := by
  unfold vw
  rw [u32_and_nat _ _ x.isLt y.isLt, BitVec.toNat_and]
@[go_sem] theorem or_w (x y : Wd) : bits .or .u32 (vw x) (vw y) = vw (x ||| y) := by
  unfold vw
  rw [u32_or_nat _ _ x.isLt y.isLt, BitVec.toNat_or]
@[go_sem] theorem add_w (x y : Wd) : IntKind.u32.wrap (vw x + vw y) = vw (x + y) := by
  unfold vw
  rw [IntKind.wrap_u32', BitVec.toNat_add]
  omega
theorem shl_w (x : Wd) (n : Nat) (k : Int) (hk : k = 2 ^ n) : IntKind.u32.wrap (vw x * k) = vw (x <<< n) := by
  unfold vw
  rw [IntKind.wrap_u32', BitVec.toNat_shiftLeft, Nat.shiftLeft_eq, hk]
  have e : ((x.toNat : Int)) * 2 ^ n = ((x.toNat * 2 ^ n : Nat) : Int) := by rw [Int.natCast_mul, Int.natCast_pow]; rfl
  rw [e]
  omega
theorem shr_w (x : Wd) (n : Nat) (k : Int) (hk : k = 2 ^ n) : vw x / k = vw (x >>> n) := by
  unfold vw
  rw [BitVec.toNat_ushiftRight, Nat.shiftRight_eq_div_pow, hk, Int.natCast_ediv, Int.natCast_pow]
  rfl
theorem rot_2 (x : Wd) (w : World) : Calls Tryd.prog 36 #[.int .u32 (vw x), .int .i64 (-2)] w fun e w' => e = .returned (.int .u32 (vw (ror x 2))) ∧ w = w' := by
  have h1 := vw_nonneg x
  have h2 := vw_lt x
  have e0 : bits .and .u64 (IntKind.u64.wrap (-2)) 31 = 30 := by decide
  have e1 := shl_w x 30 1073741824 rfl
  have e2 := shr_w x 2 4 rfl
  go_enter Tryd.func36, Tryd.ntmps36
  go_wp2_with fail
  go_ret
  refine ⟨?_, rfl⟩
  unfold ror
  rw [BitVec.or_comm]
  rfl
theorem turn_2 (x : Wd) (w : World) : Calls Tryd.prog 29 #[.int .u32 (vw x), .int .i64 2] w fun e w' => e = .returned (.int .u32 (vw (ror x 2))) ∧ w = w' := by
  go_enter Tryd.func29, Tryd.ntmps29
  go_wp2_with fail
  refine (rot_2 x _).mono ?_
  rintro e w' ⟨rfl, rfl⟩
  go_wp2_with fail
  go_ret
  exact ⟨rfl, rfl⟩
theorem rot_6 (x : Wd) (w : World) : Calls Tryd.prog 36 #[.int .u32 (vw x), .int .i64 (-6)] w fun e w' => e = .returned (.int .u32 (vw (ror x 6))) ∧ w = w' := by
  have h1 := vw_nonneg x
  have h2 := vw_lt x
  have e0 : bits .and .u64 (IntKind.u64.wrap (-6)) 31 = 26 := by decide
  have e1 := shl_w x 26 67108864 rfl
  have e2 := shr_w x 6 64 rfl
  go_enter Tryd.func36, Tryd.ntmps36
  go_wp2_with fail
  go_ret
  refine ⟨?_, rfl⟩
  unfold ror
  rw [BitVec.or_comm]
  rfl
theorem turn_6 (x : Wd) (w : World) : Calls Tryd.prog 29 #[.int .u32 (vw x), .int .i64 6] w fun e w' => e = .returned (.int .u32 (vw (ror x 6))) ∧ w = w' := by
  go_enter Tryd.func29, Tryd.ntmps29
  go_wp2_with fail
  refine (rot_6 x _).mono ?_
  rintro e w' ⟨rfl, rfl⟩
  go_wp2_with fail
  go_ret
  exact ⟨rfl, rfl⟩
theorem rot_7 (x : Wd) (w : World) : Calls Tryd.prog 36 #[.int .u32 (vw x), .int .i64 (-7)] w fun e w' => e = .returned (.int .u32 (vw (ror x 7))) ∧ w = w' := by
  have h1 := vw_nonneg x
  have h2 := vw_lt x
  have e0 : bits .and .u64 (IntKind.u64.wrap (-7)) 31 = 25 := by decide
  have e1 := shl_w x 25 33554432 rfl
  have e2 := shr_w x 7 128 rfl
  go_enter Tryd.func36, Tryd.ntmps36
  go_wp2_with fail
  go_ret
  refine ⟨?_, rfl⟩
  unfold ror
  rw [BitVec.or_comm]
  rfl
theorem turn_7 (x : Wd) (w : World) : Calls Tryd.prog 29 #[.int .u32 (vw x), .int .i64 7] w fun e w' => e = .returned (.int .u32 (vw (ror x 7))) ∧ w = w' := by
  go_enter Tryd.func29, Tryd.ntmps29
  go_wp2_with fail
  refine (rot_7 x _).mono ?_
  rintro e w' ⟨rfl, rfl⟩
  go_wp2_with fail
  go_ret
  exact ⟨rfl, rfl⟩
theorem rot_11 (x : Wd) (w : World) : Calls Tryd.prog 36 #[.int .u32 (vw x), .int .i64 (-11)] w fun e w' => e = .returned (.int .u32 (vw (ror x 11))) ∧ w = w' := by
  have h1 := vw_nonneg x
  have h2 := vw_lt x
  have e0 : bits .and .u64 (IntKind.u64.wrap (-11)) 31 = 21 := by decide
  have e1 := shl_w x 21 2097152 rfl
  have e2 := shr_w x 11 2048 rfl
  go_enter Tryd.func36, Tryd.ntmps36
  go_wp2_with fail
  go_ret
  refine ⟨?_, rfl⟩
  unfold ror
  rw [BitVec.or_comm]
  rfl
theorem turn_11 (x : Wd) (w : World) : Calls Tryd.prog 29 #[.int .u32 (vw x), .int .i64 11] w fun e w' => e = .returned (.int .u32 (vw (ror x 11))) ∧ w = w' := by
  go_enter Tryd.func29, Tryd.ntmps29
  go_wp2_with fail
  refine (rot_11 x _).mono ?_
  rintro e w' ⟨rfl, rfl⟩
  go_wp2_with fail
  go_ret
  exact ⟨rfl, rfl⟩
theorem rot_13 (x : Wd) (w : World) : Calls Tryd.prog 36 #[.int .u32 (vw x), .int .i64 (-13)] w fun e w' => e = .returned (.int .u32 (vw (ror x 13))) ∧ w = w' := by
  have h1 := vw_nonneg x
  have h2 := vw_lt x
  have e0 : bits .and .u64 (IntKind.u64.wrap (-13)) 31 = 19 := by decide
  have e1 := shl_w x 19 524288 rfl
  have e2 := shr_w x 13 8192 rfl
  go_enter Tryd.func36, Tryd.ntmps36
  go_wp2_with fail
  go_ret
  refine ⟨?_, rfl⟩
  unfold ror
  rw [BitVec.or_comm]
  rfl
theorem turn_13 (x : Wd) (w : World) : Calls Tryd.prog 29 #[.int .u32 (vw x), .int .i64 13] w fun e w' => e = .returned (.int .u32 (vw (ror x 13))) ∧ w = w' := by
  go_enter Tryd.func29, Tryd.ntmps29
  go_wp2_with fail
  refine (rot_13 x _).mono ?_
  rintro e w' ⟨rfl, rfl⟩
  go_wp2_with fail
  go_ret
  exact ⟨rfl, rfl⟩
theorem rot_17 (x : Wd) (w : World) : Calls Tryd.prog 36 #[.int .u32 (vw x), .int .i64 (-17)] w fun e w' => e = .returned (.int .u32 (vw (ror x 17))) ∧ w = w' := by
  have h1 := vw_nonneg x
  have h2 := vw_lt x
  have e0 : bits .and .u64 (IntKind.u64.wrap (-17)) 31 = 15 := by decide
  have e1 := shl_w x 15 32768 rfl
  have e2 := shr_w x 17 131072 rfl
  go_enter Tryd.func36, Tryd.ntmps36
  go_wp2_with fail
  go_ret
  refine ⟨?_, rfl⟩
  unfold ror
  rw [BitVec.or_comm]
  rfl
theorem turn_17 (x : Wd) (w : World) : Calls Tryd.prog 29 #[.int .u32 (vw x), .int .i64 17] w fun e w' => e = .returned (.int .u32 (vw (ror x 17))) ∧ w = w' := by
  go_enter Tryd.func29, Tryd.ntmps29
  go_wp2_with fail
  refine (rot_17 x _).mono ?_
  rintro e w' ⟨rfl, rfl⟩
  go_wp2_with fail
  go_ret
  exact ⟨rfl, rfl⟩
theorem rot_18 (x : Wd) (w : World) : Calls Tryd.prog 36 #[.int .u32 (vw x), .int .i64 (-18)] w fun e w' => e = .returned (.int .u32 (vw (ror x 18))) ∧ w = w' := by
  have h1 := vw_nonneg x
  have h2 := vw_lt x
  have e0 : bits .and .u64 (IntKind.u64.wrap (-18)) 31 = 14 := by decide
  have e1 := shl_w x 14 16384 rfl
  have e2 := shr_w x 18 262144 rfl
  go_enter Tryd.func36, Tryd.ntmps36
  go_wp2_with fail
  go_ret
  refine ⟨?_, rfl⟩
  unfold ror
  rw [BitVec.or_comm]
  rfl
theorem turn_18 (x : Wd) (w : World) : Calls Tryd.prog 29 #[.int .u32 (vw x), .int .i64 18] w fun e w' => e = .returned (.int .u32 (vw (ror x 18))) ∧ w = w' := by
  go_enter Tryd.func29, Tryd.ntmps29
  go_wp2_with fail
  refine (rot_18 x _).mono ?_
  rintro e w' ⟨rfl, rfl⟩
  go_wp2_with fail
  go_ret
  exact ⟨rfl, rfl⟩
theorem rot_19 (x : Wd) (w : World) : Calls Tryd.prog 36 #[.int .u32 (vw x), .int .i64 (-19)] w fun e w' => e = .returned (.int .u32 (vw (ror x 19))) ∧ w = w' := by
  have h1 := vw_nonneg x
  have h2 := vw_lt x
  have e0 : bits .and .u64 (IntKind.u64.wrap (-19)) 31 = 13 := by decide
  have e1 := shl_w x 13 8192 rfl
  have e2 := shr_w x 19 524288 rfl
  go_enter Tryd.func36, Tryd.ntmps36
  go_wp2_with fail
  go_ret
  refine ⟨?_, rfl⟩
  unfold ror
  rw [BitVec.or_comm]
  rfl
theorem turn_19 (x : Wd) (w : World) : Calls Tryd.prog 29 #[.int .u32 (vw x), .int .i64 19] w fun e w' => e = .returned (.int .u32 (vw (ror x 19))) ∧ w = w' := by
  go_enter Tryd.func29, Tryd.ntmps29
  go_wp2_with fail
  refine (rot_19 x _).mono ?_
  rintro e w' ⟨rfl, rfl⟩
  go_wp2_with fail
  go_ret
  exact ⟨rfl, rfl⟩
theorem rot_22 (x : Wd) (w : World) : Calls Tryd.prog 36 #[.int .u32 (vw x), .int .i64 (-22)] w fun e w' => e = .returned (.int .u32 (vw (ror x 22))) ∧ w = w' := by
  have h1 := vw_nonneg x
  have h2 := vw_lt x
  have e0 : bits .and .u64 (IntKind.u64.wrap (-22)) 31 = 10 := by decide
  have e1 := shl_w x 10 1024 rfl
  have e2 := shr_w x 22 4194304 rfl
  go_enter Tryd.func36, Tryd.ntmps36
  go_wp2_with fail
  go_ret
  refine ⟨?_, rfl⟩
  unfold ror
  rw [BitVec.or_comm]
  rfl
theorem turn_22 (x : Wd) (w : World) : Calls Tryd.prog 29 #[.int .u32 (vw x), .int .i64 22] w fun e w' => e = .returned (.int .u32 (vw (ror x 22))) ∧ w = w' := by
  go_enter Tryd.func29, Tryd.ntmps29
  go_wp2_with fail
  refine (rot_22 x _).mono ?_
  rintro e w' ⟨rfl, rfl⟩
  go_wp2_with fail
  go_ret
  exact ⟨rfl, rfl⟩
theorem rot_25 (x : Wd) (w : World) : Calls Tryd.prog 36 #[.int .u32 (vw x), .int .i64 (-25)] w fun e w' => e = .returned (.int .u32 (vw (ror x 25))) ∧ w = w' := by
  have h1 := vw_nonneg x
  have h2 := vw_lt x
  have e0 : bits .and .u64 (IntKind.u64.wrap (-25)) 31 = 7 := by decide
  have e1 := shl_w x 7 128 rfl
  have e2 := shr_w x 25 33554432 rfl
  go_enter Tryd.func36, Tryd.ntmps36
  go_wp2_with fail
  go_ret
  refine ⟨?_, rfl⟩
  unfold ror
  rw [BitVec.or_comm]
  rfl
theorem turn_25 (x : Wd) (w : World) : Calls Tryd.prog 29 #[.int .u32 (vw x), .int .i64 25] w fun e w' => e = .returned (.int .u32 (vw (ror x 25))) ∧ w = w' := by
  go_enter Tryd.func29, Tryd.ntmps29
  go_wp2_with fail
  refine (rot_25 x _).mono ?_
  rintro e w' ⟨rfl, rfl⟩
  go_wp2_with fail
  go_ret
  exact ⟨rfl, rfl⟩
theorem turn_of (x : Wd) (n : Int) (h : n = 2 ∨ n = 6 ∨ n = 7 ∨ n = 11 ∨ n = 13 ∨ n = 17 ∨ n = 18 ∨ n = 19 ∨ n = 22 ∨ n = 25) (w : World) : Calls Tryd.prog 29 #[.int .u32 (vw x), .int .i64 n] w fun e w' => e = .returned (.int .u32 (vw (ror x n.toNat))) ∧ w = w' := by
  rcases h with rfl | rfl | rfl | rfl | rfl | rfl | rfl | rfl | rfl | rfl
  · exact turn_2 x w
  · exact turn_6 x w
  · exact turn_7 x w
  · exact turn_11 x w
  · exact turn_13 x w
  · exact turn_17 x w
  · exact turn_18 x w
  · exact turn_19 x w
  · exact turn_22 x w
  · exact turn_25 x w
end Go.Proofs.YthflonnkmkjddaaDoor
end
section
set_option linter.unusedSimpArgs false
set_option linter.unusedVariables false
namespace Go.Proofs.YthflonnkmkjddaaDoor
open BigFrame Go.RowKit Go.Phx Go.Shelf
attribute [local go_sem] Oper.semAt_some

/-- words as cells -/
def cw (L : List Wd) : Array Value := (L.map fun x => Value.int .u32 (vw x)).toArray
theorem cw_get {L : List Wd} {i : Nat} (h : i < L.length) : (cw L)[i]? = some (.int .u32 (vw (L.getD i 0))) := by
  unfold cw
  simp [List.getElem?_eq_getElem h, List.getD]
theorem cw_set (L : List Wd) (i : Nat) (x : Wd) : (cw L).setIfInBounds i (.int .u32 (vw x)) = cw (L.set i x) := by
  unfold cw
  rw [List.setIfInBounds_toArray, List.map_set]
/-- a byte as a word -/
def bw (c : UInt8) : Wd := BitVec.ofNat 32 c.toNat
theorem vw_bw (c : UInt8) : vw (bw c) = (c.toNat : Int) := by
  unfold vw bw
  rw [BitVec.toNat_ofNat]
  have := c.toNat_lt
  omega
theorem bw_lt (c : UInt8) : vw (bw c) < 256 := by
  rw [vw_bw]
  have := c.toNat_lt
  omega
theorem index_at (s : ByteArray) (k : Nat) (hk : k < s.size) (h63 : s.size ≤ 9223372036854775807) (w : World) : (Instr.index 9 (.string s) (.int .i64 (k : Int))).run Tryd.prog w = .ok (.int .u8 (vw (bw (s.data.toList.getD k 0)))) w := by
  have hd : Tryd.prog.underlying 9 = some .string := by kernel_rfl
  rw [vw_bw]
  simp [go_sem, Instr.index, hd, hk]
  rfl
/-- the words of a block, so many bytes taken in -/
def firstW (l : List UInt8) : Nat → List Wd
  | 0 => List.replicate 64 0
  | k + 1 => (firstW l k).set (k / 4) ((firstW l k).getD (k / 4) 0 <<< 8 ||| bw (l.getD k 0))
theorem firstW_len (l : List UInt8) (k : Nat) : (firstW l k).length = 64 := by
  induction k with
  | zero => simp [firstW]
  | succ k ih => simp [firstW, ih]
/-- the variable sha.k holds the constants -/
def HasK (w : World) : Prop := (∀ i, i < 64 → w.cell? ⟨0, i, none⟩ = some (.int .u32 (vw (kTab.getD i 0)))) ∧ 0 < w.heap.size
theorem HasK.on {w w' : World} (h : HasK w) (hB : Below w.heap.size w w') : HasK w' :=
  ⟨fun i hi => (hB.cell (p := ⟨0, i, none⟩) h.2).trans (h.1 i hi), Nat.lt_of_lt_of_le h.2 hB.size⟩
theorem HasK.from {n : Nat} {w w' : World} (h : HasK w) (hB : Below n w w') (hn : 0 < n) : HasK w' :=
  ⟨fun i hi => (hB.cell (p := ⟨0, i, none⟩) hn).trans (h.1 i hi), Nat.lt_of_lt_of_le h.2 hB.size⟩
theorem HasK.alloc {w : World} (h : HasK w) (o : Obj) : HasK (w.alloc o) := h.on ((Below.refl _ _).alloc (Nat.le_refl _) _)
/-- eight words as cells -/
def cS (v : St) : Array Value := #[.int .u32 (vw v.a), .int .u32 (vw v.b), .int .u32 (vw v.c), .int .u32 (vw v.d), .int .u32 (vw v.e), .int .u32 (vw v.f), .int .u32 (vw v.g), .int .u32 (vw v.h)]
/-- what a call that writes block b alone leaves -/
def Wrote (w : World) (b : Nat) (t : TypeId) (cs : Array Value) (e : Ending) (w' : World) : Prop := e = .returned (.tuple #[]) ∧ w.grownBy w' (some b) ∧ Blk w' b t cs
theorem grown_of {w w' : World} {b : Nat} (hB : Below w.heap.size w w') : w.grownBy w' (some b) := ⟨hB.os, hB.tape, hB.output, hB.size, fun k hk _ => hB.block k hk⟩
theorem grown_on {w W w' : World} {b : Nat} (G : w.grownBy W (some b)) (hB : Below W.heap.size W w') : w.grownBy w' (some b) :=
  ⟨hB.os.trans G.os, hB.tape.trans G.tape, hB.output.trans G.output, Nat.le_trans G.size hB.size, fun k hk hn => (hB.block k (Nat.lt_of_lt_of_le hk G.size)).trans (G.block k hk hn)⟩
theorem grown_set {w W : World} {b i : Nat} {u : Value} (G : w.grownBy W (some b)) : w.grownBy (W.setCell ⟨b, i, none⟩ u) (some b) :=
  ⟨G.os, G.tape, G.output, by rw [size_set]; exact G.size, fun k hk hn => (Below.heap_setCell _ _ _ _ (fun e => hn (by rw [e]))).trans (G.block k hk hn)⟩
@[go_sem] theorem add_w' (x y : Wd) : (vw x + vw y) % 4294967296 = vw (x + y) := by
  rw [← add_w x y, IntKind.wrap_u32']
theorem shl_w' (x : Wd) (n : Nat) (k : Int) (hk : k = 2 ^ n) : vw x * k % 4294967296 = vw (x <<< n) := by
  rw [← shl_w x n k hk, IntKind.wrap_u32']

/-! ### what the words of a block come to -/
theorem getD_set_eq {L : List Wd} {i : Nat} (h : i < L.length) (x : Wd) : (L.set i x).getD i 0 = x := by simp [List.getD, h]
theorem sha_set_ne {L : List Wd} {i j : Nat} (h : i ≠ j) (x : Wd) : (L.set i x).getD j 0 = L.getD j 0 := by simp [List.getD, List.getElem?_set_ne h]
theorem wordOf_snoc (l : List UInt8) (c : UInt8) : wordOf (l ++ [c]) = wordOf l <<< 8 ||| bw c := by unfold wordOf bw; simp
theorem take_snoc8 (l : List UInt8) (a n : Nat) (h : a + n < l.length) : (l.drop a).take (n + 1) = (l.drop a).take n ++ [l.getD (a + n) 0] := by
  rw [List.take_add_one]
  congr 1
  rw [List.getElem?_drop, List.getD, List.getElem?_eq_getElem h]
  rfl
theorem firstW_at (l : List UInt8) (hl : l.length = 64) (k : Nat) (hk : k ≤ 64) (j : Nat) (hj : j < 64) :
    (firstW l k).getD j 0 = wordOf ((l.drop (4 * j)).take (min 4 (k - 4 * j))) := by
  induction k with
  | zero =>
    rw [show min 4 (0 - 4 * j) = 0 by omega, firstW, List.getD, List.getElem?_replicate, if_pos hj]
    rfl
  | succ k ih =>
    have ih := ih (by omega)
    have hlen := firstW_len l k
    by_cases h : k / 4 = j
    · subst h
      rw [firstW, getD_set_eq (by omega), ih, ← wordOf_snoc, show min 4 (k - 4 * (k / 4)) = k - 4 * (k / 4) by omega, show min 4 (k + 1 - 4 * (k / 4)) = (k - 4 * (k / 4)) + 1 by omega,
        take_snoc8 l (4 * (k / 4)) (k - 4 * (k / 4)) (by omega), show 4 * (k / 4) + (k - 4 * (k / 4)) = k by omega]
    · rw [firstW, sha_set_ne h, ih, show min 4 (k + 1 - 4 * j) = min 4 (k - 4 * j) by omega]
theorem words16_len (l : List UInt8) : (words16 l).length = 16 := by simp [words16]
theorem firstW_all (l : List UInt8) (hl : l.length = 64) : firstW l 64 = words16 l ++ List.replicate 48 0 := by
  apply List.ext_getElem?
  intro j
  have hlen := firstW_len l 64
  by_cases hj : j < 64
  · have h1 := firstW_at l hl 64 (Nat.le_refl _) j hj
    rw [List.getD, List.getElem?_eq_getElem (by omega)] at h1
    rw [List.getElem?_eq_getElem (by omega)]
    simp only [Option.getD_some] at h1
    rw [h1]
    by_cases h16 : j < 16
    · rw [List.getElem?_append_left (by simp [words16]; exact h16), show min 4 (64 - 4 * j) = 4 by omega]
      simp [words16, h16]
    · rw [List.getElem?_append_right (by rw [words16_len]; omega), words16_len, List.getElem?_replicate, if_pos (by omega), show min 4 (64 - 4 * j) = 0 by omega]
      rfl
  · rw [List.getElem?_eq_none (by omega), List.getElem?_eq_none (by simp [words16]; omega)]
theorem grow_len (n : Nat) (w : List Wd) : (grow n w).length = w.length + n := by
  induction n generalizing w with
  | zero => rfl
  | succ n ih => rw [grow, ih]; simp; omega
theorem grow_succ (n : Nat) (w : List Wd) : grow (n + 1) w = grow n w ++ [nextW (grow n w)] := by
  induction n generalizing w with
  | zero => rfl
  | succ n ih => rw [grow, ih, grow]
/-- the row of words, so many reckoned -/
def moreW (l : List UInt8) (k : Nat) : List Wd := grow k (words16 l) ++ List.replicate (48 - k) 0
theorem moreW_len (l : List UInt8) (k : Nat) (hk : k ≤ 48) : (moreW l k).length = 64 := by
  unfold moreW
  rw [List.length_append, grow_len, words16_len, List.length_replicate]
  omega
theorem moreW_at (l : List UInt8) (k : Nat) (j : Nat) (hj : j < 16 + k) : (moreW l k).getD j 0 = (grow k (words16 l)).getD j 0 := by
  unfold moreW
  rw [List.getD, List.getD, List.getElem?_append_left (by rw [grow_len, words16_len]; exact hj)]
theorem moreW_next (l : List UInt8) (k : Nat) (hk : k < 48) :
    moreW l (k + 1) = (moreW l k).set (k + 16) ((moreW l k).getD k 0 + (moreW l k).getD (k + 9) 0 + sig0 ((moreW l k).getD (k + 1) 0) + sig1 ((moreW l k).getD (k + 14) 0)) := by
  rw [moreW_at l k k (by omega), moreW_at l k (k + 9) (by omega), moreW_at l k (k + 1) (by omega), moreW_at l k (k + 14) (by omega)]
  have hlen : (grow k (words16 l)).length = k + 16 := by rw [grow_len, words16_len]; omega
  have e : nextW (grow k (words16 l)) = (grow k (words16 l)).getD k 0 + (grow k (words16 l)).getD (k + 9) 0 + sig0 ((grow k (words16 l)).getD (k + 1) 0) + sig1 ((grow k (words16 l)).getD (k + 14) 0) := by
    unfold nextW
    rw [hlen, show k + 16 - 16 = k by omega, show k + 16 - 7 = k + 9 by omega, show k + 16 - 15 = k + 1 by omega, show k + 16 - 2 = k + 14 by omega]
  rw [← e]
  unfold moreW
  rw [grow_succ, show 48 - k = (48 - (k + 1)) + 1 by omega, List.replicate_succ, List.set_append_right _ _ (by omega), hlen, show k + 16 - (k + 16) = 0 by omega, List.set_cons_zero, List.append_assoc]
  rfl
theorem moreW_all (l : List UInt8) : moreW l 48 = grow 48 (words16 l) := by simp [moreW]
/-- the rounds, so many done -/
def roundW (v : St) (L : List Wd) (k : Nat) : St := rounds v ((kTab.zip L).take k)
theorem roundW_succ (v : St) (L : List Wd) (hL : L.length = 64) (k : Nat) (hk : k < 64) : roundW v L (k + 1) = rnd (roundW v L k) (kTab.getD k 0) (L.getD k 0) := by
  have hz : (kTab.zip L).length = 64 := by rw [List.length_zip, hL]; rfl
  unfold roundW rounds
  rw [List.take_add_one, List.foldl_append, List.getElem?_eq_getElem (by omega)]
  simp only [Option.toList_some, List.foldl_cons, List.foldl_nil, List.getElem_zip]
  rw [List.getD, List.getElem?_eq_getElem (show k < kTab.length from hk), List.getD, List.getElem?_eq_getElem (show k < L.length by omega)]
  rfl
theorem roundW_all (v : St) (L : List Wd) (hL : L.length = 64) : roundW v L 64 = rounds v (kTab.zip L) := by
  unfold roundW
  rw [List.take_of_length_le (by rw [List.length_zip, hL]; exact Nat.le_refl _)]
end Go.Proofs.YthflonnkmkjddaaDoor
end
section
set_option linter.unusedSimpArgs false
set_option linter.unusedVariables false
namespace Go.Proofs.YthflonnkmkjddaaDoor
open BigFrame Go.RowKit Go.Phx Go.Shelf
attribute [local go_sem] Oper.semAt_some

/-- a list of bytes as a text -/
def bs (l : List UInt8) : ByteArray := ⟨l.toArray⟩
theorem bs_list (l : List UInt8) : (bs l).data.toList = l := rfl
theorem bs_of (s : ByteArray) : bs s.data.toList = s := rfl
@[go_sem] theorem bs_size (l : List UInt8) : (bs l).size = l.length := by simp [bs, ByteArray.size]
@[go_sem] theorem bs_toList (l : List UInt8) : (bs l).toList = l := by
  rw [ByteArray.toList_eq]
  rfl
@[go_sem] theorem bs_app (a b : List UInt8) : bs a ++ bs b = bs (a ++ b) := by
  apply ByteArray.ext
  simp [bs, ByteArray.data_append]
theorem bs_ext (l : List UInt8) (a b : Nat) : (bs l).extract a b = bs ((l.drop a).take (b - a)) := by
  apply ByteArray.ext
  simp [bs, ByteArray.data_extract]
@[go_sem] theorem bs_take (l : List UInt8) (b : Nat) : (bs l).extract 0 b = bs (l.take b) := by rw [bs_ext]; simp
@[go_sem] theorem bs_drop (l : List UInt8) (a : Nat) : (bs l).extract a l.length = bs (l.drop a) := by
  rw [bs_ext, List.take_of_length_le (by simp)]
theorem conv1 (W : World) (t : TypeId) (a : Int) (k : Nat) : (convert 28 9 (.slice (some ⟨W.heap.size, 0, none⟩) 1 k)).run Tryd.prog (W.alloc (.cells #[.int .u8 a] t)) =
    .ok (.string (bs [UInt8.ofNat a.toNat])) (W.alloc (.cells #[.int .u8 a] t)) := by
  have hs : Tryd.prog.underlying 28 = some (.slice 5) := by kernel_rfl
  have he : Tryd.prog.underlying 5 = some (.int .u8) := by kernel_rfl
  have hd : Tryd.prog.underlying 9 = some .string := by kernel_rfl
  exact run_convert_bytes_arg _ _ _ hs he W.heap.size 0 1 k [a] rfl (fun i hi => by
    have hK := Blk.new0 W t #[.int .u8 a]
    rw [hK.cell]
    obtain rfl : i = 0 := by omega
    rfl) _ hd
theorem conv1d (W : World) (t : TypeId) (a : Int) (k : Nat) : (convert 28 9 (.slice (some ⟨W.heap.size, 0, none⟩) 1 k)).run Tryd.prog (W.alloc (.cells #[.int .u8 a] t)).drew =
    .ok (.string (bs [UInt8.ofNat a.toNat])) (W.alloc (.cells #[.int .u8 a] t)).drew := by
  have hs : Tryd.prog.underlying 28 = some (.slice 5) := by kernel_rfl
  have he : Tryd.prog.underlying 5 = some (.int .u8) := by kernel_rfl
  have hd : Tryd.prog.underlying 9 = some .string := by kernel_rfl
  exact run_convert_bytes_arg _ _ _ hs he W.heap.size 0 1 k [a] rfl (fun i hi => by
    have hK := (Blk.new0 W t #[.int .u8 a]).drew
    rw [hK.cell]
    obtain rfl : i = 0 := by omega
    rfl) _ hd
attribute [go_sem] conv1 conv1d
/-- how long the text in a variable is -/
def boxLen (b : Nat) (w : World) : Nat := match w.cell? ⟨b, 0, none⟩ with
  | some (.string s) => s.size
  | _ => 0
theorem boxLen_of {b : Nat} {w : World} {t : TypeId} {l : List UInt8} (h : Blk w b t #[.string (bs l)]) : boxLen b w = l.length := by
  unfold boxLen
  rw [h.cell 0]
  exact bs_size l
theorem Blk.grown {w w' : World} {g : Nat} {t : TypeId} {cs : Array Value} {row : Option Nat} (h : Blk w g t cs) (hg : w.grownBy w' row) (hn : some g ≠ row) : Blk w' g t cs := (hg.block g h.lt hn).trans h
theorem HasK.grown {w w' : World} {row : Option Nat} (h : HasK w) (hg : w.grownBy w' row) (hn : some 0 ≠ row) : HasK w' :=
  ⟨fun i hi => (World.cell?_of_block (w := w) (a := ⟨0, i, none⟩) (hg.block _ h.2 hn)).trans (h.1 i hi), Nat.lt_of_lt_of_le h.2 hg.size⟩
theorem keepsOthers_row {W W' : World} {b : Nat} {t : TypeId} {cs : Array Value} (h : Blk W b t cs) (hg : W.grownBy W' (some b)) : KeepsOthers W W' :=
  KeepsOthers.of_grownBy hg fun j o e ho => by
    cases e
    unfold Blk at h
    rw [h] at ho
    injection ho with ho
    subst ho
    rfl
theorem below_row {w W W' : World} {b : Nat} (h : Below w.heap.size w W) (hg : W.grownBy W' (some b)) (hb : w.heap.size ≤ b) : Below w.heap.size w W' := h.grown hg h.size fun k e => by injection e with e; omega

/-- a row of N bytes, the first k of L laid -/
def bcells (N : Nat) (L : List UInt8) (k : Nat) : Array Value := ((L.take k ++ List.replicate (N - k) 0).map fun c : UInt8 => Value.int .u8 (c.toNat : Int)).toArray
theorem bcells_set (N : Nat) (L : List UInt8) (k : Nat) (hk : k < N) (hL : L.length = N) (v : Int) (hv : v = ((L.getD k 0).toNat : Int)) : (bcells N L k).setIfInBounds k (.int .u8 v) = bcells N L (k + 1) := by
  subst hv
  unfold bcells
  rw [List.setIfInBounds_toArray, ← List.map_set (f := fun c : UInt8 => Value.int .u8 (c.toNat : Int)), List.set_append_right _ _ (by simp; omega)]
  congr 1
  congr 1
  rw [List.length_take, show k - min k L.length = 0 by omega, show N - k = (N - (k + 1)) + 1 by omega, List.replicate_succ, List.set_cons_zero, List.take_add_one, List.getElem?_eq_getElem (by omega), List.append_assoc]
  simp [List.getD, List.getElem?_eq_getElem (show k < L.length by omega)]
theorem bcells_at (N : Nat) (L : List UInt8) (k : Nat) (hk : k < N) (hL : L.length = N) : (bcells N L k)[k]? = some (.int .u8 0) := by
  unfold bcells
  rw [List.getElem?_toArray, List.getElem?_map, List.getElem?_append_right (by simp; omega), List.getElem?_replicate, if_pos (by simp; omega)]
  rfl
theorem bcells_all (N : Nat) (L : List UInt8) (hL : L.length = N) : bcells N L N = (L.map fun c : UInt8 => Value.int .u8 (c.toNat : Int)).toArray := by
  unfold bcells
  rw [List.take_of_length_le (by omega), Nat.sub_self]
  simp
theorem strOfNums_map (L : List UInt8) : strOfNums (L.map fun c : UInt8 => (c.toNat : Int)) = bs L := by
  unfold strOfNums bs
  rw [List.map_map]
  have e : ((fun n : Int => UInt8.ofNat n.toNat) ∘ fun c : UInt8 => (c.toNat : Int)) = id := by
    funext c
    simp
  rw [e, List.map_id]
/-- a row of bytes as a text -/
theorem conv_row (W : World) (g : Nat) (t : TypeId) (L : List UInt8) (n c : Nat) (h : Blk W g t (L.map fun c : UInt8 => Value.int .u8 (c.toNat : Int)).toArray) (hn : L.length = n) :
    (convert 28 9 (.slice (some ⟨g, 0, none⟩) n c)).run Tryd.prog W = .ok (.string (bs L)) W := by
  have hs : Tryd.prog.underlying 28 = some (.slice 5) := by kernel_rfl
  have he : Tryd.prog.underlying 5 = some (.int .u8) := by kernel_rfl
  have hd : Tryd.prog.underlying 9 = some .string := by kernel_rfl
  have := run_convert_bytes_arg (P := Tryd.prog) W _ _ hs he g 0 n c (L.map fun c : UInt8 => (c.toNat : Int)) (by simpa using hn) (fun i hi => by
    rw [h.cell]
    simp [List.getD, List.getElem?_eq_getElem (show i < L.length by omega)]) _ hd
  rw [this, strOfNums_map]
end Go.Proofs.YthflonnkmkjddaaDoor
end
section
namespace Go.Proofs.YthflonnkmkjddaaDoor
open Go.RowKit Go.Phx Go.Shelf
set_option linter.unusedSimpArgs false

/-- block g is just these cells now -/
def setRow (w : World) (g : Nat) (t : TypeId) (cs : Array Value) : World := w.putObj g (.cells cs t (0, 0))
theorem Blk.row {w : World} {g : Nat} {t : TypeId} {cs : Array Value} (hg : g < w.heap.size) : Blk (setRow w g t cs) g t cs := World.putObj_heap_same hg
theorem grown_row (w : World) (g : Nat) (t : TypeId) (cs : Array Value) : w.grownBy (setRow w g t cs) (some g) := grownBy_putObj' _ _ _
theorem Below.row {n : Nat} {w W : World} {g : Nat} {t : TypeId} {cs : Array Value} (h : Below n w W) (hg : n ≤ g) (hz : n ≤ W.heap.size) : Below n w (setRow W g t cs) := h.grown (grown_row _ _ _ _) hz fun k e => by injection e with e; omega
end Go.Proofs.YthflonnkmkjddaaDoor
end
