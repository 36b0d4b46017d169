/- A block of bytes taken in, by the reference. -/
import Derived.Test.YtpmmjomejackkaaDoorSha6
set_option linter.unusedSimpArgs false
set_option linter.unusedVariables false
namespace Go.Proofs.YtpmmjomejackkaaDoor
open BigFrame Go.RowKit Go.Phx Go.Shelf
attribute [local go_sem] Oper.semAt_some

theorem ch_eq (e f g : Wd) : e &&& f ^^^ ~~~e &&& g = chf e f g := by
  unfold chf
  ext i hi
  simp
  cases e[i] <;> cases f[i] <;> cases g[i] <;> rfl
theorem maj_eq (a b c : Wd) : a &&& b ^^^ a &&& c ^^^ b &&& c = maj a b c := by
  unfold maj
  ext i hi
  simp
  cases a[i] <;> cases b[i] <;> cases c[i] <;> rfl
set_option maxRecDepth 100000 in
set_option maxHeartbeats 2000000 in
theorem words_calls (w : World) : Calls Tryd.prog 102 #[] w (Ret w (.agg (cw kTab))) := by
  go_enter Tryd.func102, Tryd.ntmps102
  go_wp2_with (first
    | (with_reducible refine wpList_store_blk (o := ⟨none, .store 114 _ _, _, _, _, _⟩) (Blk.new0 _ _ _) rfl _ _ rfl rfl rfl ?hs ?hi2 ?h1 ?_))
  case hs => kernel_rfl
  case hi2 => kernel_rfl
  case h1 => kernel_rfl
  refine bodyPost_ret (results_cell_row rfl _ _ w.heap.size _ _ _ _ rfl (Blk.row (by simp)) Tryd.underlying114 rfl (by kernel_rfl)) rfl ⟨?_, Below.row (by repeat (first | assumption | exact Below.refl _ _ | refine Below.setCell ?_ (by first | exact Nat.le_refl _ | (simp; done) | omega | (simp; omega)) _ | refine Below.alloc ?_ (by first | exact Nat.le_refl _ | (simp; done) | omega | (simp; omega)) _ | refine below_drewN ?_ _ | refine Below.drew ?_ | refine Below.on (by assumption) ?_ | refine Below.via (by assumption) (by first | exact Nat.le_refl _ | (simp; done) | omega | (simp; omega)) ?_)) (Nat.le_refl _) (by simp)⟩
  kernel_rfl
end Go.Proofs.YtpmmjomejackkaaDoor
