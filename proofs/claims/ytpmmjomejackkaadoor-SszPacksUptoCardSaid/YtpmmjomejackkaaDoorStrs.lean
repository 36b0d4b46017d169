/- Slices of texts; how what came in reads behind a call that leaves what lay; the last step of a row whose arguments are kept unopened. No conditions. -/
import Derived.Test.YtpmmjomejackkaaDoorRow2
import Derived.Test.YtpmmjomejackkaaDoorBlk2
import Derived.Carry
import Derived.SliceStrings
import Derived.Deep.DeepHandedRow
import Derived.Lib.LaidTab
namespace Go.Proofs.YtpmmjomejackkaaDoor
open Go.ChangeShapes Go.WideShapes Go.ChangeAt Go.RowKit Go.Joins
set_option maxRecDepth 100000

/-- a slice's address leads to these texts -/
def Strs (w : World) (A : Option Addr) (xs : List ByteArray) : Prop :=
  0 < xs.length → ∃ b o, A = some ⟨b, o, none⟩ ∧ b < w.heap.size ∧ ∀ (i : Nat) (x : ByteArray), xs[i]? = some x → w.cell? ⟨b, o + i, none⟩ = some (.string x)
theorem Strs.nil (w : World) (A : Option Addr) : Strs w A [] := fun h => absurd h (by simp)
theorem Strs.keep {w w' : World} {A : Option Addr} {xs : List ByteArray} (h : Strs w A xs) (hz : w.heap.size ≤ w'.heap.size) (hk : ∀ b o, b < w.heap.size → w'.cell? ⟨b, o, none⟩ = w.cell? ⟨b, o, none⟩) : Strs w' A xs := fun h0 => by
  obtain ⟨b, o, ha, hb, hc⟩ := h h0
  exact ⟨b, o, ha, by omega, fun i x hx => (hk _ _ hb).trans (hc i x hx)⟩
theorem Strs.below {w w' : World} {A : Option Addr} {xs : List ByteArray} (h : Strs w A xs) (hb : Below w.heap.size w w') : Strs w' A xs := h.keep hb.size fun b o hp => hb.cell (p := ⟨b, o, none⟩) hp
/-- .. of cells at an address -/
theorem Strs.mk {w : World} {b o : Nat} {xs : List ByteArray} (hb : b < w.heap.size) (h : ∀ (i : Nat) (x : ByteArray), xs[i]? = some x → w.cell? ⟨b, o + i, none⟩ = some (.string x)) : Strs w (some ⟨b, o, none⟩) xs := fun _ => ⟨b, o, rfl, hb, h⟩

section
variable {H : Type} {enc : TypeId × Value → H} {P : Program}
/-- arguments read behind the call as they did -/
theorem stays_all (hl : laidOutB P = true) {W W' : World} (hb : Below W.heap.size W W') : ∀ {ts : List TypeId} {vs : List Value} {ds : List (DataW H)} {ps : List MemPlace},
    (ts.all fun t => P.readableRec t && decide (t < P.types.size)) = true → DataW.TrodAll enc P W 0 (fun _ => true) true ts vs ds ps → (∀ x ∈ ps, x.block < W.heap.size) →
    ∀ sp : Nat → Bool, (∀ x ∈ ps, sp x.block = true) → DataW.TrodAll enc P W' 0 sp true ts vs ds ps := by
  intro ts
  induction ts with
  | nil =>
    intro vs ds ps _ h _ sp _
    obtain ⟨rfl, rfl, rfl⟩ := trodAll_nil h
    exact trodAll_mk0
  | cons t ts ih =>
    intro vs ds ps hr h hlt sp hsp
    obtain ⟨v, vs', d, ds', p, p', rfl, rfl, rfl, h0, h1⟩ := trodAll_cons h
    simp only [List.all_cons, Bool.and_eq_true, decide_eq_true_eq] at hr
    exact trodAll_cons_mk (WideElems.Trod_stays hl hr.1.1 hr.1.2 h0 (fun x hx => hb.same (hlt x (by simp [hx]))) (fun x hx => hsp x (by simp [hx])))
      (ih hr.2 h1 (fun x hx => hlt x (by simp [hx])) sp (fun x hx => hsp x (by simp [hx])))
end
theorem laidOut : laidOutB Tryd.prog = true := by kernel_rfl

section
variable {H : Type} {enc : TypeId × Value → H} {w : World} {base : Nat} {spare : Nat → Bool} {held : Bool} {r : Reach} {b0 : Nat} {v : Value} {d : DataW H} {p : List MemPlace}
/-- a slice of texts among the arguments -/
theorem openStrs (hv : Value.okWide Tryd.prog w r b0 22 v) (h : DataW.Trod enc Tryd.prog w base spare held 22 v d p) :
    ∃ (A : Option Addr) (c : Nat) (xs : List ByteArray), v = .slice A xs.length c ∧ xs.length ≤ c ∧ c ≤ maxLen ∧ Strs w A xs ∧ (∀ x ∈ xs, x.size ≤ maxLen) ∧ (d = .nil ∧ xs = [] ∨ ∃ rest, d = .slice (strs xs) rest) := by
  obtain ⟨fuel, hf⟩ := h
  obtain ⟨A, n, c, rfl⟩ : ∃ A n c, v = .slice A n c := by
    exact okWide_slice (show Tryd.prog.underlying 22 = some (.slice 9) by kernel_rfl) hv
  rcases open_strings (show Tryd.prog.underlying 22 = some (.slice 9) by kernel_rfl) underString (by kernel_rfl) hf with ⟨hc, hx⟩ | ⟨a, len, cap, ss, hc, _, hl, hm, hn, hx, hcell, hsz⟩
  · simp [Value.cells] at hc hx
    obtain ⟨rfl, rfl, rfl⟩ := hc
    exact ⟨none, 0, [], rfl, Nat.le_refl _, Nat.zero_le _, Strs.nil _ _, by simp, .inl ⟨hx.1, rfl⟩⟩
  · simp [Value.cells] at hc
    obtain ⟨rfl, rfl, rfl⟩ := hc
    have hlen : n ≤ ss.length := by rw [hn]; split <;> omega
    have ht : (ss.take n).length = n := by simp; omega
    refine ⟨some a, c, ss.take n, by rw [ht], by omega, hm, fun h0 => ?_, fun x hx => hsz x (List.mem_of_mem_take hx), .inr ⟨_, by simpa using congrArg Prod.fst hx⟩⟩
    have h00 := hcell 0 (by omega)
    have hsp : a.spot = none := by
      rw [Addr.add, if_pos rfl] at h00
      unfold World.cell? at h00
      split at h00
      · rename_i hh
        cases hs : a.spot with
        | none => rfl
        | some _ => rw [hs] at h00; simp at h00
      · cases h00
    obtain ⟨b, o, sp⟩ := a
    obtain rfl : sp = none := hsp
    refine ⟨b, o, rfl, World.block_lt_of_cell? _ _ h00, fun i x hx => ?_⟩
    have hi : i < n := by
      have := (List.getElem?_eq_some_iff.1 hx).1
      omega
    rw [List.getElem?_take_of_lt hi] at hx
    have := hcell i (by omega)
    rw [List.getD, hx] at this
    rw [← show Addr.add ⟨b, o, none⟩ i = ⟨b, o + i, none⟩ by unfold Addr.add; split <;> simp_all]
    exact this
end
end Go.Proofs.YtpmmjomejackkaaDoor
