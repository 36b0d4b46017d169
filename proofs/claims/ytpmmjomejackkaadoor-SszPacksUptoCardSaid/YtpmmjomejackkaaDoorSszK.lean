/- A root with a length, by the reference. -/
import Derived.Test.YtpmmjomejackkaaDoorSszJ
set_option linter.unusedSimpArgs false
set_option linter.unusedVariables false
namespace Go.Proofs.YtpmmjomejackkaaDoor
open BigFrame Go.RowKit Go.Phx Go.Shelf
attribute [local go_sem] Oper.semAt_some

set_option maxRecDepth 100000 in
theorem rmix_calls (r : Bytes) (hr : r.length ≤ 9223372036854775807) (n : Nat) (hn : n < 18446744073709551616) (w : World) :
    Calls Tryd.prog 43 #[.string (bs r), .int .u64 n] w (Ret w (if r.length = 32 then .tuple #[.string (bs (sha (r ++ numP n))), .int .i64 0] else .tuple #[.string { data := #[] }, .int .i64 80])) := by
  have hl := numP_len n
  by_cases h : r.length = 32
  · rw [if_pos h]
    have h1 : ((r.length : Int) != 32) = false := by simp; omega
    go_enter Tryd.func43, Tryd.ntmps43
    go_wp2_with fail
    refine (rnumber_calls n hn _).mono ?_
    rintro e w2 ⟨rfl, h2⟩
    go_wp2_with fail
    refine (rsum_calls (r ++ numP n) (by rw [List.length_append]; omega) _).mono ?_
    rintro e w3 ⟨rfl, h3⟩
    go_wp2_with fail
    go_ret2
    exact ⟨rfl, Below.on h3 h2⟩
  · rw [if_neg h]
    have h1 : ((r.length : Int) != 32) = true := by simp; omega
    go_enter Tryd.func43, Tryd.ntmps43
    go_wp2_with fail
    go_ret2
    exact ⟨rfl, Below.refl _ _⟩
end Go.Proofs.YtpmmjomejackkaaDoor
