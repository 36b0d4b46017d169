/- More on blocks that are known whole. No conditions. -/
import Derived.Test.YtpmmjomejackkaaDoorBlk
import Derived.Test.YtpmmjomejackkaaDoorTailIn
namespace Go.Proofs.YtpmmjomejackkaaDoor
open Go.RowKit Go.Shelf

theorem Blk.later {w w' : World} {g : Nat} {t : TypeId} {cs : Array Value} (hb : Below w.heap.size w w') (h : Blk w g t cs) : Blk w' g t cs := h.below hb
theorem Blk.to {W : World} {g : Nat} {t : TypeId} {cs cs' : Array Value} (h : Blk W g t cs) (e : cs = cs') : Blk W g t cs' := e ▸ h
theorem Blk.over2 {w : World} {g b i : Nat} {t : TypeId} {cs : Array Value} {u : Value} (hp : g ≠ b) (h : Blk w g t cs) : Blk (w.setCell ⟨b, i, none⟩ u) g t cs := h.far hp u
theorem Blk.newAt {w : World} {g : Nat} {t : TypeId} {cs : Array Value} (hs : w.heap.size = g) : Blk (w.alloc (.cells cs t)) g t cs := hs ▸ Blk.new0 w t cs
theorem size_set (w : World) (p : Addr) (u : Value) : (w.setCell p u).heap.size = w.heap.size := by simp [World.setCell]
theorem Blk.newS1 (w : World) (p : Addr) (u : Value) (t : TypeId) (cs : Array Value) : Blk ((w.setCell p u).alloc (.cells cs t)) w.heap.size t cs := Blk.newAt (size_set _ _ _)
theorem Blk.newS2 (w : World) (p p' : Addr) (u u' : Value) (t : TypeId) (cs : Array Value) : Blk (((w.setCell p u).setCell p' u').alloc (.cells cs t)) w.heap.size t cs := Blk.newAt (by rw [size_set, size_set])
theorem Blk.newS3 (w : World) (p p' p'' : Addr) (u u' u'' : Value) (t : TypeId) (cs : Array Value) : Blk ((((w.setCell p u).setCell p' u').setCell p'' u'').alloc (.cells cs t)) w.heap.size t cs := Blk.newAt (by rw [size_set, size_set, size_set])
theorem blk_kept {W W' : World} {g : Nat} {t : TypeId} {cs : Array Value} {row : Option Nat} (h : Blk W g t cs) (hg : W.grownBy W' row) (hr : ∀ r, row = some r → ∃ o : Obj, W.heap[r]? = some o ∧ o.isCells = false) : Blk W' g t cs := by
  refine (hg.block g h.lt ?_).trans h
  intro e
  obtain ⟨o, ho, hc⟩ := hr g e.symm
  unfold Blk at h
  rw [h] at ho
  injection ho with ho
  subst ho
  simp [Obj.isCells] at hc
end Go.Proofs.YtpmmjomejackkaaDoor
