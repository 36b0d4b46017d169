/- A region that draws its order and whose callees make memory but leave what lay: walked once, in the order of the text, over the worlds that came later. No conditions. -/
import Derived.Test.YtpmmjomejackkaaDoorIter
namespace Go.Proofs.YtpmmjomejackkaaDoor
open Go.RowKit Go.Shelf

/-- the worlds that came later: what lay in w lies as it lay -/
def Later (w : World) : Type := { w' : World // Below w.heap.size w w' }
instance instLater (w : World) : Nonempty (Later w) := ⟨⟨w, Below.refl _ _⟩⟩
def Later.at {w : World} (x : Later w) : World := x.1
theorem Later.below {w : World} (x : Later w) : Below w.heap.size w x.at := x.2
@[go_sem] theorem Later.cell {w : World} (x : Later w) (b o : Nat) (h : b < w.heap.size) : x.at.cell? ⟨b, o, none⟩ = w.cell? ⟨b, o, none⟩ := x.below.cell (p := ⟨b, o, none⟩) h
@[go_sem] theorem Later.frozen {w : World} (x : Later w) (b o : Nat) (h : b < w.heap.size) : x.at.frozen? ⟨b, o, none⟩ = w.frozen? ⟨b, o, none⟩ := x.below.frozen (p := ⟨b, o, none⟩) h

theorem wp_region_later {P : Program} {id : Nat} {Q : Exit → Act → World → Prop} {a : Act} {w : World} {l : List Oper} (hm : P.follows .mixedOrders = true) (hB : Region.lexB .any l.toArray = true)
    (h : wpQuiet P l.toArray (fun w' => ∃ x : Later w, w' = x.at) (fun a' => ∀ w', Below w.heap.size w w' → Q .normal a' w') l a) : (Code.region id l.toArray true).wp P Q a w :=
  wp_region_quiet (C := fun w' => ∃ x : Later w, w' = x.at) hm hB ⟨⟨_, (Below.refl _ w).drew⟩, rfl⟩ (by
    have e : ∀ a', (∀ w', Below w.heap.size w w' → Q .normal a' w') → ∀ w', (∃ x : Later w, w' = x.at) → Q .normal a' w' := fun a' h w' ⟨x, hx⟩ => h w' (by rw [hx]; exact x.below)
    have mono : ∀ (l' : List Oper) (a : Act) (Q₁ Q₂ : Act → Prop), (∀ a, Q₁ a → Q₂ a) → wpQuiet P l.toArray (fun w' => ∃ x : Later w, w' = x.at) Q₁ l' a → wpQuiet P l.toArray (fun w' => ∃ x : Later w, w' = x.at) Q₂ l' a := by
      intro l'
      induction l' with
      | nil => exact fun a Q₁ Q₂ hq h => hq _ h
      | cons o l' ih =>
        intro a Q₁ Q₂ hq h
        simp only [wpQuiet] at h ⊢
        split
        · rename_i hw
          rw [if_pos hw] at h
          exact Oper.quiet_mono (fun a h => ih a _ _ hq h) h
        · rename_i hw
          rw [if_neg hw] at h
          exact ih _ _ _ hq h
    simpa using mono _ _ _ _ e h)

/-- a contract that leaves what lay, in the form that such a walk takes -/
theorem lq {P : Program} {f : FuncId} {args : Array Value} {w : World} {x : Later w} {v : Value} (h : Calls P f args x.at (Ret x.at v)) :
    Calls P f args x.at fun e w'' => e = .returned v ∧ ∃ y : Later w, w'' = y.at :=
  h.mono fun _ _ ⟨he, hb⟩ => ⟨he, ⟨_, Below.on hb x.below⟩, rfl⟩
theorem lw {P : Program} {f : FuncId} {args : Array Value} {w : World} {x : Later w} {v : Value} (h : Calls P f args x.at fun e w' => e = .returned v ∧ x.at = w') :
    Calls P f args x.at fun e w'' => e = .returned v ∧ ∃ y : Later w, w'' = y.at :=
  h.mono fun _ _ ⟨he, hb⟩ => ⟨he, x, hb.symm⟩
end Go.Proofs.YtpmmjomejackkaaDoor
