/- What the row's list gives: the variable sha.k holds its constants; a world for the witness; what the bound on the arguments' bulk gives. -/
import Derived.Test.YtpmmjomejackkaaDoorRows
import Derived.Test.YtpmmjomejackkaaDoorCards
import Derived.Test.YtpmmjomejackkaaDoorTie
import Derived.Test.YtpmmjomejackkaaDoorStrs
import Derived.Test.YtpmmjomejackkaaDoorSha2
import Derived.Deep.DeepHandedRow
import Derived.Lib.LaidTab
import Derived.SevenTiedAt
namespace Go.Proofs.YtpmmjomejackkaaDoor
open Go.ChangeShapes Go.WideShapes Go.ChangeAt Go.RowKit Go.Joins Go.Phx
set_option maxRecDepth 100000

theorem gK : Tryd.prog.globalNamed "pharos/sha.k" = some 0 := by kernel_rfl
theorem gKType : (Tryd.prog.globals[0]?).map (·.type) = some 114 := by kernel_rfl
theorem cellsK : Tryd.prog.cellsOf 114 = 64 := by kernel_rfl
theorem cellsU32 : Tryd.prog.cellsOf 62 = 1 := by kernel_rfl
theorem table {W : World} (h : laidMetH Tryd.prog [("pharos/sha.k", Rows.laid_pharos_sha_k)] W) : Lib.TabIs Tryd.prog W "pharos/sha.k" .u32 (kTab.map vw) :=
  Lib.tabIs_of_head (rest := []) gK gKType Tryd.underlying114 Tryd.underlying62 cellsU32 cellsK h
theorem hasK_of {W : World} (h : laidMetH Tryd.prog [("pharos/sha.k", Rows.laid_pharos_sha_k)] W) : HasK W := by
  have hc : ∀ i, i < 64 → W.cell? ⟨0, i, none⟩ = some (.int .u32 (vw (kTab.getD i 0))) := fun i hi => by
    rw [(table h).cell gK i (by rw [List.length_map]; exact hi)]
    simp [List.getD, List.getElem?_eq_getElem (show i < kTab.length from hi)]
  exact ⟨hc, World.block_lt_of_cell? _ _ (hc 0 (by decide))⟩
noncomputable def laidWorld (os : Os) : World :=
  { World.holding Tryd.prog os ⟨#[], #[], []⟩ with heap := (World.holding Tryd.prog os ⟨#[], #[], []⟩).heap.modify 0 fun
      | .cells _ t frozen => .cells (cw kTab) t frozen
      | o => o }

section
variable {H : Type}
theorem bulk_part {d : DataW H} {l : List (DataW H)} (h : d ∈ l) : Rows.uptoBulk d ≤ Rows.uptoBulkAll l := by
  induction l with
  | nil => cases h
  | cons x r ih =>
    simp only [Rows.uptoBulkAll]
    rcases List.mem_cons.1 h with rfl | e
    · omega
    · have := ih e
      omega
theorem bulk_of {ds gs : List (DataW H)} (h : Rows.uptoSmall H (ds ++ gs) = true) {d : DataW H} (hd : d ∈ ds) : Rows.uptoBulk d ≤ 1048576 :=
  Nat.le_trans (bulk_part (List.mem_append_left gs hd)) (of_decide_eq_true h)
theorem bulk_string {l : List UInt8} (h : Rows.uptoBulk (DataW.lit (H := H) (.string l)) ≤ 1048576) : l.length ≤ 1048576 := by
  simp only [Rows.uptoBulk] at h
  omega
theorem bulk_strs (xs : List ByteArray) : Rows.uptoBulkAll (H := H) (strs xs) = xs.length + ((xs.map fun s => s.data.toList).flatten).length := by
  unfold strs
  induction xs with
  | nil => rfl
  | cons x xs ih =>
    simp only [List.map_cons, Rows.uptoBulkAll, Rows.uptoBulk, ih, List.length_cons, List.flatten_cons, List.length_append]
    omega
theorem bulk_slice {xs : List ByteArray} {d : DataW H} (hd : d = .nil ∧ xs = [] ∨ ∃ rest, d = .slice (strs xs) rest) (h : Rows.uptoBulk d ≤ 1048576) : xs.length + ((xs.map fun s => s.data.toList).flatten).length ≤ 1048576 := by
  rcases hd with ⟨rfl, rfl⟩ | ⟨rest, rfl⟩
  · simp
  · simp only [Rows.uptoBulk] at h
    rw [bulk_strs] at h
    omega
end
end Go.Proofs.YtpmmjomejackkaaDoor
