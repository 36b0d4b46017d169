/- How the arguments of this seat's statements open and shut, and the last step of a row of which the walk says 'true, and what lay lies as it lay'. No conditions. -/
import Derived.Test.YtpmmjomejackkaaDoorRows
import Derived.Test.YtpmmjomejackkaaDoorIter
import Derived.ProofKit
import Derived.OpenShut
import Derived.Lib.SmallJoins
namespace Go.Proofs.YtpmmjomejackkaaDoor
open Go.ChangeShapes Go.WideShapes Go.ChangeAt Go.RowKit Go.Joins
set_option maxRecDepth 100000

theorem own : ownKnob Tryd.prog.godebug = none := by kernel_rfl

section
variable {H : Type} {enc : TypeId × Value → H} {P : Program}
/-- the row's last step where 'Below' is known of the world behind the call -/
theorem post_below {f : Func} {s : ChangeSpec} {apart fresh handsOn again : Bool} {W W' : World} {args : Array Value} {v : Value} {ds gs : List (DataW H)} {before pa pv : List MemPlace}
    (hW : DataW.Whole enc P f.params.toList s.vars apart W args.toList ds gs before)
    (hres : ∀ (b : Nat) (sp : Nat → Bool) (hd : Bool), DataW.TrodAll enc P W' b sp hd f.resultTypes.toList (v.resultList f.resultTypes.size) (s.fn H (ds ++ gs)).results [])
    (hargs : ∀ sp : Nat → Bool, (∀ p ∈ before, sp p.block = true) → DataW.TrodAll enc P W' 0 sp true f.params.toList args.toList (s.fn H (ds ++ gs)).args pa)
    (hvars : ∀ sp : Nat → Bool, (∀ p ∈ before, sp p.block = true) → DataW.TrodVars enc P W' sp s.vars (s.fn H (ds ++ gs)).vars pv)
    (hps : before = pa ++ pv) (hb : Below W.heap.size W W')
    (hok : ∀ (j : Nat) (t : TypeId) (r : Value), f.resultTypes[j]? = some t → (v.resultList f.resultTypes.size)[j]? = some r → Value.okWide P W' .any 0 t r) :
    s.post enc P f apart fresh handsOn again W args v W' := by
  have hlt : ∀ p ∈ before, p.block < W.heap.size := fun p hp => hW.lt p hp
  have hold : ∀ p ∈ before, (fun b => decide (b < W.heap.size)) p.block = true := fun p hp => by simpa using hlt p hp
  refine ⟨ds, gs, before, [], pa, pv, hW, hres _ _ _, hargs _ hold, hvars _ hold, World.keptBut_mono (fun p hp => ⟨hp, ?_⟩) (hb.frame (· ∈ before)), fun _ => ?_⟩
  · rw [hps, List.mem_append] at hp
    exact Or.inr hp
  · obtain ⟨_, _, _, _, _, hz, hn⟩ := hW
    refine ⟨hok, _, _, ([] ++ pa) ++ pv, ⟨[] ++ pa, pv, trodAll_append (hargs _ (fun _ _ => rfl)) (hres _ _ _), hvars _ (fun _ _ => rfl), rfl, ?_, ?_⟩, ?_⟩
    · intro b off hp
      have hin : MemPlace.cell b off ∈ before := by rw [hps]; simpa using hp
      rw [hb.frozen (hlt _ hin)]
      exact hz b off hin
    · intro ha
      have := hn ha
      rw [hps] at this
      simpa using this
    · intro p hp _
      rw [hps]
      simpa using hp
end

section
variable {H : Type} {enc : TypeId × Value → H} {w : World} {base : Nat} {spare : Nat → Bool} {held : Bool} {r : Reach} {b0 : Nat} {v : Value} {d : DataW H} {p : List MemPlace}
theorem openU64 (hv : Value.okWide Tryd.prog w r b0 41 v) (h : DataW.Trod enc Tryd.prog w base spare held 41 v d p) : ∃ a, v = .int .u64 a ∧ d = .lit (.int .u64 a) ∧ p = [] ∧ (Lit.int .u64 a).wf = true :=
  open_int Tryd.underlying41 hv h
theorem shutU64 {a : Int} (wa : (Lit.int .u64 a).wf = true) : DataW.Trod enc Tryd.prog w base spare held 41 (.int .u64 a) (.lit (.int .u64 a)) [] := shut_int Tryd.underlying41 wa
theorem cellsPair2 : Tryd.prog.cellsOf 128 = 2 := by kernel_rfl
theorem openPair2 (hv : Value.okWide Tryd.prog w r b0 128 v) (h : DataW.Trod enc Tryd.prog w base spare held 128 v d p) : ∃ a b, v = .agg #[.int .u64 a, .int .u64 b] ∧ d = .agg [.lit (.int .u64 a), .lit (.int .u64 b)] ∧ p = [] ∧ (Lit.int .u64 a).wf = true ∧ (Lit.int .u64 b).wf = true := by
  obtain ⟨c0, c1, y0, y1, m, rfl, rfl, rfl, hy0, hy1⟩ := open_agg2 Tryd.underlying128 (by kernel_rfl) cellsPair2 hv h
  obtain ⟨a, e0, rfl, wa⟩ := DataW.trod_int Tryd.underlying41 hy0
  obtain ⟨b, e1, rfl, wb⟩ := DataW.trod_int Tryd.underlying41 hy1
  simp at e0 e1
  subst e0 e1
  exact ⟨a, b, rfl, rfl, rfl, wa, wb⟩
theorem shutPair2 {a b : Int} (wa : (Lit.int .u64 a).wf = true) (wb : (Lit.int .u64 b).wf = true) : DataW.Trod enc Tryd.prog w base spare held 128 (.agg #[.int .u64 a, .int .u64 b]) (.agg [.lit (.int .u64 a), .lit (.int .u64 b)]) [] :=
  shut_agg2 (y0 := (.lit (.int .u64 a), [])) (y1 := (.lit (.int .u64 b), [])) Tryd.underlying128 (by kernel_rfl) cellsPair2 ⟨1, by simp [DataW.trod, Tryd.underlying41, wa]⟩ ⟨1, by simp [DataW.trod, Tryd.underlying41, wb]⟩
theorem cellsPoint : Tryd.prog.cellsOf 52 = 3 := by kernel_rfl
theorem openPoint (hv : Value.okWide Tryd.prog w r b0 52 v) (h : DataW.Trod enc Tryd.prog w base spare held 52 v d p) : ∃ a b c, v = .agg #[.int .u64 a, .int .u64 b, .bool c] ∧ d = .agg [.lit (.int .u64 a), .lit (.int .u64 b), .lit (.bool c)] ∧ p = [] ∧ (Lit.int .u64 a).wf = true ∧ (Lit.int .u64 b).wf = true := by
  obtain ⟨c0, c1, c2, y0, y1, y2, m, rfl, rfl, rfl, hy0, hy1, hy2⟩ := open_agg3 Tryd.underlying52 (by kernel_rfl) cellsPoint hv h
  obtain ⟨a, e0, rfl, wa⟩ := DataW.trod_int Tryd.underlying41 hy0
  obtain ⟨b, e1, rfl, wb⟩ := DataW.trod_int Tryd.underlying41 hy1
  obtain ⟨c, e2, rfl⟩ := DataW.trod_bool Tryd.underlying4 hy2
  simp at e0 e1 e2
  subst e0 e1 e2
  exact ⟨a, b, c, rfl, rfl, rfl, wa, wb⟩
theorem shutPoint {a b : Int} {c : Bool} (wa : (Lit.int .u64 a).wf = true) (wb : (Lit.int .u64 b).wf = true) : DataW.Trod enc Tryd.prog w base spare held 52 (.agg #[.int .u64 a, .int .u64 b, .bool c]) (.agg [.lit (.int .u64 a), .lit (.int .u64 b), .lit (.bool c)]) [] :=
  shut_agg3 (y0 := (.lit (.int .u64 a), [])) (y1 := (.lit (.int .u64 b), [])) (y2 := (.lit (.bool c), [])) Tryd.underlying52 (by kernel_rfl) cellsPoint ⟨1, by simp [DataW.trod, Tryd.underlying41, wa]⟩ ⟨1, by simp [DataW.trod, Tryd.underlying41, wb]⟩ ⟨1, by simp [DataW.trod, Tryd.underlying4]⟩
end
end Go.Proofs.YtpmmjomejackkaaDoor
