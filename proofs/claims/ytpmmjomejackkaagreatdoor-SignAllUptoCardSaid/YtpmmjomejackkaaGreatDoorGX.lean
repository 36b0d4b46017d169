/- What the rows' frames stand on: arguments opened, results shut. No conditions. -/
import Derived.Test.YtpmmjomejackkaaGreatDoorG13
import Derived.Test.YtpmmjomejackkaaGreatDoorRows
import Derived.Test.YtpmmjomejackkaaGreatDoorG3
import Derived.ProofKit
import Derived.OpenShut
import Derived.Lib.SmallJoins
import Derived.ChangeMaps5
import Derived.Carry
import Derived.SliceStrings
import Derived.Deep.DeepHandedRow
import Derived.Lib.LaidTab
section
namespace Go.Proofs.YtpmmjomejackkaaGreatDoor
open Go.ChangeShapes Go.WideShapes Go.ChangeAt Go.RowKit Go.Joins
set_option maxRecDepth 100000

section
variable {H : Type} {enc : TypeId × Value → H} {P : Program}
/-- the row's last step where 'Below' is known of the world behind the call -/
theorem post_below {f : Func} {s : ChangeSpec} {apart fresh handsOn again : Bool} {W W' : World} {args : Array Value} {v : Value} {ds gs : List (DataW H)} {before pa pv : List MemPlace}
    (hW : DataW.Whole enc P f.params.toList s.vars apart W args.toList ds gs before)
    (hres : ∀ (b : Nat) (sp : Nat → Bool) (hd : Bool), DataW.TrodAll enc P W' b sp hd f.resultTypes.toList (v.resultList f.resultTypes.size) (s.fn H (ds ++ gs)).results [])
    (hargs : ∀ sp : Nat → Bool, (∀ p ∈ before, sp p.block = true) → DataW.TrodAll enc P W' 0 sp true f.params.toList args.toList (s.fn H (ds ++ gs)).args pa)
    (hvars : ∀ sp : Nat → Bool, (∀ p ∈ before, sp p.block = true) → DataW.TrodVars enc P W' sp s.vars (s.fn H (ds ++ gs)).vars pv)
    (hps : before = pa ++ pv) (hb : Below W.heap.size W W')
    (hok : ∀ (j : Nat) (t : TypeId) (r : Value), f.resultTypes[j]? = some t → (v.resultList f.resultTypes.size)[j]? = some r → Value.okWide P W' .any 0 t r) :
    s.post enc P f apart fresh handsOn again W args v W' := by
  have hlt : ∀ p ∈ before, p.block < W.heap.size := fun p hp => hW.lt p hp
  have hold : ∀ p ∈ before, (fun b => decide (b < W.heap.size)) p.block = true := fun p hp => by simpa using hlt p hp
  refine ⟨ds, gs, before, [], pa, pv, hW, hres _ _ _, hargs _ hold, hvars _ hold, World.keptBut_mono (fun p hp => ⟨hp, ?_⟩) (hb.frame (· ∈ before)), fun _ => ?_⟩
  · rw [hps, List.mem_append] at hp
    exact Or.inr hp
  · obtain ⟨_, _, _, _, _, hz, hn⟩ := hW
    refine ⟨hok, _, _, ([] ++ pa) ++ pv, ⟨[] ++ pa, pv, trodAll_append (hargs _ (fun _ _ => rfl)) (hres _ _ _), hvars _ (fun _ _ => rfl), rfl, ?_, ?_⟩, ?_⟩
    · intro b off hp
      have hin : MemPlace.cell b off ∈ before := by rw [hps]; simpa using hp
      rw [hb.frozen (hlt _ hin)]
      exact hz b off hin
    · intro ha
      have := hn ha
      rw [hps] at this
      simpa using this
    · intro p hp _
      rw [hps]
      simpa using hp
end

section
variable {H : Type} {enc : TypeId × Value → H} {w : World} {base : Nat} {spare : Nat → Bool} {held : Bool} {r : Reach} {b0 : Nat} {v : Value} {d : DataW H} {p : List MemPlace}
theorem openU64 (hv : Value.okWide Tryz.prog w r b0 28 v) (h : DataW.Trod enc Tryz.prog w base spare held 28 v d p) : ∃ a, v = .int .u64 a ∧ d = .lit (.int .u64 a) ∧ p = [] ∧ (Lit.int .u64 a).wf = true :=
  open_int Tryz.underlying28 hv h
theorem shutU64 {a : Int} (wa : (Lit.int .u64 a).wf = true) : DataW.Trod enc Tryz.prog w base spare held 28 (.int .u64 a) (.lit (.int .u64 a)) [] := shut_int Tryz.underlying28 wa
theorem cellsPair2 : Tryz.prog.cellsOf 56 = 2 := by kernel_rfl
theorem openPair2 (hv : Value.okWide Tryz.prog w r b0 56 v) (h : DataW.Trod enc Tryz.prog w base spare held 56 v d p) : ∃ a b, v = .agg #[.int .u64 a, .int .u64 b] ∧ d = .agg [.lit (.int .u64 a), .lit (.int .u64 b)] ∧ p = [] ∧ (Lit.int .u64 a).wf = true ∧ (Lit.int .u64 b).wf = true := by
  obtain ⟨c0, c1, y0, y1, m, rfl, rfl, rfl, hy0, hy1⟩ := open_agg2 Tryz.underlying56 (by kernel_rfl) cellsPair2 hv h
  obtain ⟨a, e0, rfl, wa⟩ := DataW.trod_int Tryz.underlying28 hy0
  obtain ⟨b, e1, rfl, wb⟩ := DataW.trod_int Tryz.underlying28 hy1
  simp at e0 e1
  subst e0 e1
  exact ⟨a, b, rfl, rfl, rfl, wa, wb⟩
theorem shutPair2 {a b : Int} (wa : (Lit.int .u64 a).wf = true) (wb : (Lit.int .u64 b).wf = true) : DataW.Trod enc Tryz.prog w base spare held 56 (.agg #[.int .u64 a, .int .u64 b]) (.agg [.lit (.int .u64 a), .lit (.int .u64 b)]) [] :=
  shut_agg2 (y0 := (.lit (.int .u64 a), [])) (y1 := (.lit (.int .u64 b), [])) Tryz.underlying56 (by kernel_rfl) cellsPair2 ⟨1, by simp [DataW.trod, Tryz.underlying28, wa]⟩ ⟨1, by simp [DataW.trod, Tryz.underlying28, wb]⟩
theorem cellsPoint : Tryz.prog.cellsOf 32 = 3 := by kernel_rfl
theorem openPoint (hv : Value.okWide Tryz.prog w r b0 32 v) (h : DataW.Trod enc Tryz.prog w base spare held 32 v d p) : ∃ a b c, v = .agg #[.int .u64 a, .int .u64 b, .bool c] ∧ d = .agg [.lit (.int .u64 a), .lit (.int .u64 b), .lit (.bool c)] ∧ p = [] ∧ (Lit.int .u64 a).wf = true ∧ (Lit.int .u64 b).wf = true := by
  obtain ⟨c0, c1, c2, y0, y1, y2, m, rfl, rfl, rfl, hy0, hy1, hy2⟩ := open_agg3 Tryz.underlying32 (by kernel_rfl) cellsPoint hv h
  obtain ⟨a, e0, rfl, wa⟩ := DataW.trod_int Tryz.underlying28 hy0
  obtain ⟨b, e1, rfl, wb⟩ := DataW.trod_int Tryz.underlying28 hy1
  obtain ⟨c, e2, rfl⟩ := DataW.trod_bool Tryz.underlying4 hy2
  simp at e0 e1 e2
  subst e0 e1 e2
  exact ⟨a, b, c, rfl, rfl, rfl, wa, wb⟩
theorem shutPoint {a b : Int} {c : Bool} (wa : (Lit.int .u64 a).wf = true) (wb : (Lit.int .u64 b).wf = true) : DataW.Trod enc Tryz.prog w base spare held 32 (.agg #[.int .u64 a, .int .u64 b, .bool c]) (.agg [.lit (.int .u64 a), .lit (.int .u64 b), .lit (.bool c)]) [] :=
  shut_agg3 (y0 := (.lit (.int .u64 a), [])) (y1 := (.lit (.int .u64 b), [])) (y2 := (.lit (.bool c), [])) Tryz.underlying32 (by kernel_rfl) cellsPoint ⟨1, by simp [DataW.trod, Tryz.underlying28, wa]⟩ ⟨1, by simp [DataW.trod, Tryz.underlying28, wb]⟩ ⟨1, by simp [DataW.trod, Tryz.underlying4]⟩
end
end Go.Proofs.YtpmmjomejackkaaGreatDoor
end
section
namespace Go.Proofs.YtpmmjomejackkaaGreatDoor
open Go.ChangeShapes Go.WideShapes Go.ChangeAt Go.RowKit Go.Joins
set_option maxRecDepth 100000

section
variable {H : Type} {enc : TypeId × Value → H} {w : World} {base : Nat} {spare : Nat → Bool} {held : Bool} {r : Reach} {b0 : Nat} {v : Value} {d : DataW H} {p : List MemPlace}
theorem underString : Tryz.prog.underlying 9 = some .string := by kernel_rfl
theorem openString (hv : Value.okWide Tryz.prog w r b0 9 v) (h : DataW.Trod enc Tryz.prog w base spare held 9 v d p) : ∃ s : ByteArray, v = .string s ∧ d = .lit (.string s.data.toList) ∧ p = [] ∧ s.size ≤ maxLen :=
  Go.ChangeMaps.open_string underString hv h
theorem shutString {s : ByteArray} (hs : s.size ≤ maxLen) : DataW.Trod enc Tryz.prog w base spare held 9 (.string s) (.lit (.string s.data.toList)) [] := Go.ChangeMaps.shut_string underString hs
theorem openI64 (hv : Value.okWide Tryz.prog w r b0 3 v) (h : DataW.Trod enc Tryz.prog w base spare held 3 v d p) : ∃ a, v = .int .i64 a ∧ d = .lit (.int .i64 a) ∧ p = [] ∧ (Lit.int .i64 a).wf = true :=
  open_int (show Tryz.prog.underlying 3 = some (.int .i64) by kernel_rfl) hv h
theorem shutI64 {a : Int} (wa : (Lit.int .i64 a).wf = true) : DataW.Trod enc Tryz.prog w base spare held 3 (.int .i64 a) (.lit (.int .i64 a)) [] := shut_int (show Tryz.prog.underlying 3 = some (.int .i64) by kernel_rfl) wa
end
end Go.Proofs.YtpmmjomejackkaaGreatDoor
end
section
namespace Go.Proofs.YtpmmjomejackkaaGreatDoor
open Go.ChangeShapes Go.WideShapes Go.ChangeAt Go.RowKit Go.Joins
set_option maxRecDepth 100000

section
variable {H : Type} {enc : TypeId × Value → H} {P : Program}
/-- arguments read behind the call as they did -/
theorem stays_all (hl : laidOutB P = true) {W W' : World} (hb : Below W.heap.size W W') : ∀ {ts : List TypeId} {vs : List Value} {ds : List (DataW H)} {ps : List MemPlace},
    (ts.all fun t => P.readableRec t && decide (t < P.types.size)) = true → DataW.TrodAll enc P W 0 (fun _ => true) true ts vs ds ps → (∀ x ∈ ps, x.block < W.heap.size) →
    ∀ sp : Nat → Bool, (∀ x ∈ ps, sp x.block = true) → DataW.TrodAll enc P W' 0 sp true ts vs ds ps := by
  intro ts
  induction ts with
  | nil =>
    intro vs ds ps _ h _ sp _
    obtain ⟨rfl, rfl, rfl⟩ := trodAll_nil h
    exact trodAll_mk0
  | cons t ts ih =>
    intro vs ds ps hr h hlt sp hsp
    obtain ⟨v, vs', d, ds', p, p', rfl, rfl, rfl, h0, h1⟩ := trodAll_cons h
    simp only [List.all_cons, Bool.and_eq_true, decide_eq_true_eq] at hr
    exact trodAll_cons_mk (WideElems.Trod_stays hl hr.1.1 hr.1.2 h0 (fun x hx => hb.same (hlt x (by simp [hx]))) (fun x hx => hsp x (by simp [hx])))
      (ih hr.2 h1 (fun x hx => hlt x (by simp [hx])) sp (fun x hx => hsp x (by simp [hx])))
end
theorem laidOut : laidOutB Tryz.prog = true := by kernel_rfl

section
variable {H : Type} {enc : TypeId × Value → H} {w : World} {base : Nat} {spare : Nat → Bool} {held : Bool} {r : Reach} {b0 : Nat} {v : Value} {d : DataW H} {p : List MemPlace}
/-- a slice of texts among the arguments -/
theorem openStrs (hv : Value.okWide Tryz.prog w r b0 22 v) (h : DataW.Trod enc Tryz.prog w base spare held 22 v d p) :
    ∃ (A : Option Addr) (c : Nat) (xs : List ByteArray), v = .slice A xs.length c ∧ xs.length ≤ c ∧ c ≤ maxLen ∧ Strs w A xs ∧ (∀ x ∈ xs, x.size ≤ maxLen) ∧ (d = .nil ∧ xs = [] ∨ ∃ rest, d = .slice (strs xs) rest) := by
  obtain ⟨fuel, hf⟩ := h
  obtain ⟨A, n, c, rfl⟩ : ∃ A n c, v = .slice A n c := by
    exact okWide_slice (show Tryz.prog.underlying 22 = some (.slice 9) by kernel_rfl) hv
  rcases open_strings (show Tryz.prog.underlying 22 = some (.slice 9) by kernel_rfl) underString (by kernel_rfl) hf with ⟨hc, hx⟩ | ⟨a, len, cap, ss, hc, _, hl, hm, hn, hx, hcell, hsz⟩
  · simp [Value.cells] at hc hx
    obtain ⟨rfl, rfl, rfl⟩ := hc
    exact ⟨none, 0, [], rfl, Nat.le_refl _, Nat.zero_le _, Strs.nil _ _, by simp, .inl ⟨hx.1, rfl⟩⟩
  · simp [Value.cells] at hc
    obtain ⟨rfl, rfl, rfl⟩ := hc
    have hlen : n ≤ ss.length := by rw [hn]; split <;> omega
    have ht : (ss.take n).length = n := by simp; omega
    refine ⟨some a, c, ss.take n, by rw [ht], by omega, hm, fun h0 => ?_, fun x hx => hsz x (List.mem_of_mem_take hx), .inr ⟨_, by simpa using congrArg Prod.fst hx⟩⟩
    have h00 := hcell 0 (by omega)
    have hsp : a.spot = none := by
      rw [Addr.add, if_pos rfl] at h00
      unfold World.cell? at h00
      split at h00
      · rename_i hh
        cases hs : a.spot with
        | none => rfl
        | some _ => rw [hs] at h00; simp at h00
      · cases h00
    obtain ⟨b, o, sp⟩ := a
    obtain rfl : sp = none := hsp
    refine ⟨b, o, rfl, World.block_lt_of_cell? _ _ h00, fun i x hx => ?_⟩
    have hi : i < n := by
      have := (List.getElem?_eq_some_iff.1 hx).1
      omega
    rw [List.getElem?_take_of_lt hi] at hx
    have := hcell i (by omega)
    rw [List.getD, hx] at this
    rw [← show Addr.add ⟨b, o, none⟩ i = ⟨b, o + i, none⟩ by unfold Addr.add; split <;> simp_all]
    exact this
end
end Go.Proofs.YtpmmjomejackkaaGreatDoor
end
