/- Small lemmas for loops over iterators and for worlds: a block that is kept; the shape of a contract that leaves old memory alone. No conditions. -/
import Derived.Test.YtpmmjomejackkaaDoorChecked
import Derived.Test.YtpmmjomejackkaaDoorArith
import Derived.WalkKit
import Derived.WalkSpells
import Derived.RangeFuncNested
import Derived.RangeFuncBound
import Derived.RangeFuncCalls
import Derived.RangeFuncLeaves
import Derived.RangeFuncBox
import Derived.Shelf.Abstract
import Derived.Shelf.RegionOpen
import Derived.OwnWalkIn
import Derived.TacticsInMore
import Derived.LoopNIn
import Derived.LoopIn
import Derived.WalkSmall
import Derived.WalkMore
import Derived.BigQuiet
import Derived.Deep.QuietTactic
import Derived.Deep.RegionHeld3
import Derived.Deep.RegionWith
import Derived.Lib.Hide
namespace Go.Proofs.YtpmmjomejackkaaDoor
open Go.RowKit Go.Shelf

/-- a call returns v, and what lay when it began lies as it lay -/
def Ret (w : World) (v : Value) (e : Ending) (w' : World) : Prop := e = .returned v ∧ Below w.heap.size w w'

/-- block B lies as it lay -/
def KeepB (B : Nat) (W W' : World) : Prop := W'.heap[B]? = W.heap[B]?
theorem KeepB.refl (B : Nat) (W : World) : KeepB B W W := rfl
theorem KeepB.trans {B : Nat} {a b c : World} (h : KeepB B a b) (k : KeepB B b c) : KeepB B a c := Eq.trans k h
theorem KeepB.cell {B : Nat} {W W' : World} (h : KeepB B W W') (o : Nat) : W'.cell? ⟨B, o, none⟩ = W.cell? ⟨B, o, none⟩ := World.cell?_of_block (w := W) h
theorem KeepB.frozen {B : Nat} {W W' : World} (h : KeepB B W W') (o : Nat) : W'.frozen? ⟨B, o, none⟩ = W.frozen? ⟨B, o, none⟩ := World.frozen?_of_block (w := W) h
theorem keepB_b {B : Nat} {w : World} (hB : B < w.heap.size) (W : World) (l : Nat) (o o' : Obj) (hl : w.heap.size ≤ l) (_ : W.heap[l]? = some o) (_ : o.isCells = false) (_ : o.isWalk = false) : KeepB B W (W.putObj l o') :=
  World.putObj_heap_other (by omega)
theorem keepB_t {B : Nat} {a b c : World} (h : KeepB B a b) (k : KeepB B b c) : KeepB B a c := h.trans k
theorem KeepB.below {B n : Nat} {W W' : World} (h : Below n W W') (hB : B < n) : KeepB B W W' := h.block B hB
theorem KeepB.setCell {B : Nat} {W : World} {a : Addr} (h : B ≠ a.block) (v : Value) : KeepB B W (W.setCell a v) := Below.heap_setCell _ _ _ _ h
/-- what old memory keeps, whatever is no cells keeps -/
theorem KeepsOthers.below {W W' : World} (h : Below W.heap.size W W') : KeepsOthers W W' :=
  ⟨h.size, fun k _ hk _ => (h.block k (Array.getElem?_eq_some_iff.1 hk).1).trans hk⟩
/-- a function whose own loop over an iterator has ended shuts the block of the rounds' deferred calls: new memory -/
theorem below_shut {n : Nat} {w W : World} {D : Nat} {o' : Obj} (hB : Below n w W) (hn : n ≤ w.heap.size) (hD : n ≤ D) : Below n w (W.putObj D o') :=
  hB.grown (grownBy_putObj' W D o') (Nat.le_trans hn hB.size) (fun k e => by cases e; exact hD)
/-- a contract that leaves the world, in the form that 'go_quiet' takes -/
theorem qs {P : Program} {f : FuncId} {args : Array Value} {w : World} {n : Nat} {v : Value} (h : Calls P f args (w.drewN n) fun e w' => e = .returned v ∧ w.drewN n = w') :
    Calls P f args (w.drewN n) fun e w'' => e = .returned v ∧ ∃ m, w'' = w.drewN m :=
  h.mono fun _ _ ⟨he, hm⟩ => ⟨he, n, hm.symm⟩

/-- .. behind a region that was quiet, too -/
theorem qa {P : Program} {f : FuncId} {args : Array Value} {w : World} {a n : Nat} {v : Value} (h : Calls P f args (w.drewN (a + n)) fun e w' => e = .returned v ∧ w.drewN (a + n) = w') :
    Calls P f args (w.drewN (a + n)) fun e w'' => e = .returned v ∧ ∃ m, w'' = w.drewN (a + m) :=
  h.mono fun _ _ ⟨he, hm⟩ => ⟨he, n, hm.symm⟩

/-- what an old world's part keeps, behind a callee that keeps it -/
theorem Below.via {n m : Nat} {w W w' : World} (h : Below m W w') (hm : n ≤ m) (hB : Below n w W) : Below n w w' := hB.trans (h.mono hm)
theorem Below.on {w W w' : World} (h : Below W.heap.size W w') (hB : Below w.heap.size w W) : Below w.heap.size w w' := hB.trans (h.mono hB.size)
/-- all old cells and marks read as they did -/
theorem bcell {n : Nat} {W w1 : World} (hb : Below n W w1) : (∀ b o, b < n → w1.cell? ⟨b, o, none⟩ = W.cell? ⟨b, o, none⟩) ∧ (∀ b o, b < n → w1.frozen? ⟨b, o, none⟩ = W.frozen? ⟨b, o, none⟩) :=
  ⟨fun b o h => hb.cell (p := ⟨b, o, none⟩) h, fun b o h => hb.frozen (p := ⟨b, o, none⟩) h⟩

/-- a scope through which the run goes without a goto, inside the wide fence -/
theorem wpIn_scope {n : Nat} {P : Program} {c : Code} {Q : Exit → Act → World → Prop} {a : Act} {w : World} (h : c.wpIn Fence.wide n P (Exit.noGoto Q) a w) : (Code.scope c).wpIn Fence.wide n P Q a w :=
  wpIn_wide.2 (wp_scope_straight (wpIn_wide.1 h))

/-- a number of the extension as a value -/
def v2 (z : Go.Phx.F2) : Value := .agg #[.int .u64 (Go.Phx.vz z.1), .int .u64 (Go.Phx.vz z.2)]
end Go.Proofs.YtpmmjomejackkaaDoor
