/- How texts and signed numbers among the arguments open and shut. No conditions. -/
import Derived.Test.YtpmmjomejackkaaDoorRow
import Derived.ChangeMaps5
namespace Go.Proofs.YtpmmjomejackkaaDoor
open Go.ChangeShapes Go.WideShapes Go.ChangeAt Go.RowKit Go.Joins
set_option maxRecDepth 100000

section
variable {H : Type} {enc : TypeId × Value → H} {w : World} {base : Nat} {spare : Nat → Bool} {held : Bool} {r : Reach} {b0 : Nat} {v : Value} {d : DataW H} {p : List MemPlace}
theorem underString : Tryd.prog.underlying 9 = some .string := by kernel_rfl
theorem openString (hv : Value.okWide Tryd.prog w r b0 9 v) (h : DataW.Trod enc Tryd.prog w base spare held 9 v d p) : ∃ s : ByteArray, v = .string s ∧ d = .lit (.string s.data.toList) ∧ p = [] ∧ s.size ≤ maxLen :=
  Go.ChangeMaps.open_string underString hv h
theorem shutString {s : ByteArray} (hs : s.size ≤ maxLen) : DataW.Trod enc Tryd.prog w base spare held 9 (.string s) (.lit (.string s.data.toList)) [] := Go.ChangeMaps.shut_string underString hs
theorem openI64 (hv : Value.okWide Tryd.prog w r b0 3 v) (h : DataW.Trod enc Tryd.prog w base spare held 3 v d p) : ∃ a, v = .int .i64 a ∧ d = .lit (.int .i64 a) ∧ p = [] ∧ (Lit.int .i64 a).wf = true :=
  open_int (show Tryd.prog.underlying 3 = some (.int .i64) by kernel_rfl) hv h
theorem shutI64 {a : Int} (wa : (Lit.int .i64 a).wf = true) : DataW.Trod enc Tryd.prog w base spare held 3 (.int .i64 a) (.lit (.int .i64 a)) [] := shut_int (show Tryd.prog.underlying 3 = some (.int .i64) by kernel_rfl) wa
end
end Go.Proofs.YtpmmjomejackkaaDoor
