/- What the later texts stand on (Crv1, Crv2, Crv3, Crv4, Crv5, Crv6, Crv7, Crv8, Crv9, Crv10, Crv11, Crv12, Crv13, Crv14, Crv15, Crv16, Crv17, Crv18): plain laws and walks, each by its own conditions. -/
import Derived.Test.YtegaaccioppfjaaGreatDoorFr3
import Derived.Test.YtegaaccioppfjaaGreatDoorFr1
import Derived.Test.YtegaaccioppfjaaGreatDoorFr2
set_option linter.unusedSimpArgs false
set_option linter.unusedVariables false
section
namespace Go.Proofs.YtegaaccioppfjaaGreatDoor
open Go.RowKit Go.Phx Go.Shelf
attribute [local go_sem] Oper.semAt_some

/-- is what these say a point? -/
noncomputable def isOn (x y : Int) (i : Bool) : Bool :=
 if i then decide (x = 0 ∧ y = 0) else decide (x < 2147482867 ∧ y < 2147482867 ∧ zf y * zf y = zf x * zf x * zf x + zf x)
/-- the point that these say -/
noncomputable def ptOf (x y : Int) (i : Bool) : E := if i then none else some (zf x, zf y)
end Go.Proofs.YtegaaccioppfjaaGreatDoor
end
section
namespace Go.Proofs.YtegaaccioppfjaaGreatDoor
open BigFrame Go.RowKit Go.Phx Go.Shelf
attribute [local go_sem] Oper.semAt_some

end Go.Proofs.YtegaaccioppfjaaGreatDoor
end
section
namespace Go.Proofs.YtegaaccioppfjaaGreatDoor
open BigFrame Go.RowKit Go.Phx Go.Shelf
attribute [local go_sem] Oper.semAt_some

end Go.Proofs.YtegaaccioppfjaaGreatDoor
end
section
namespace Go.Proofs.YtegaaccioppfjaaGreatDoor
open BigFrame Go.RowKit Go.Phx Go.Shelf
attribute [local go_sem] Oper.semAt_some

/-- two points in cells, and a third one, 0 -/
def Three (n : Nat) (x1 y1 x2 y2 : Int) (W : World) : Prop :=
 (W.cell? ⟨n, 0, none⟩ = some (.int .u64 x1) ∧ W.cell? ⟨n, 1, none⟩ = some (.int .u64 y1) ∧ W.cell? ⟨n, 2, none⟩ = some (.bool false)) ∧
 (W.cell? ⟨n + 1, 0, none⟩ = some (.int .u64 x2) ∧ W.cell? ⟨n + 1, 1, none⟩ = some (.int .u64 y2) ∧ W.cell? ⟨n + 1, 2, none⟩ = some (.bool false)) ∧
 (W.cell? ⟨n + 1 + 1, 0, none⟩ = some (.int .u64 0) ∧ W.cell? ⟨n + 1 + 1, 1, none⟩ = some (.int .u64 0) ∧ W.cell? ⟨n + 1 + 1, 2, none⟩ = some (.bool false)) ∧
 (W.frozen? ⟨n + 1 + 1, 0, none⟩ = false ∧ W.frozen? ⟨n + 1 + 1, 1, none⟩ = false ∧ W.frozen? ⟨n + 1 + 1, 2, none⟩ = false) ∧
 n + 1 + 1 < W.heap.size
theorem Three.on {n : Nat} {x1 y1 x2 y2 : Int} {W W2 : World} (h : Three n x1 y1 x2 y2 W) (hB : Below W.heap.size W W2) : Three n x1 y1 x2 y2 W2 := by
 obtain ⟨⟨c0, c1, c2⟩, ⟨d0, d1, d2⟩, ⟨r0, r1, r2⟩, ⟨f0, f1, f2⟩, hz⟩ := h
 obtain ⟨hc, hf⟩ := bcell hB
 have hz2 := hB.size
 refine ⟨⟨?_, ?_, ?_⟩, ⟨?_, ?_, ?_⟩, ⟨?_, ?_, ?_⟩, ⟨?_, ?_, ?_⟩, ?_⟩
 all_goals first | (rw [hc _ _ (by omega)]; assumption) | (rw [hf _ _ (by omega)]; assumption) | omega

theorem Three.drew {n : Nat} {x1 y1 x2 y2 : Int} {W : World} (h : Three n x1 y1 x2 y2 W) (k : Nat) : Three n x1 y1 x2 y2 (W.drewN k) := by
 obtain ⟨⟨c0, c1, c2⟩, ⟨d0, d1, d2⟩, ⟨r0, r1, r2⟩, ⟨f0, f1, f2⟩, hz⟩ := h
 refine ⟨⟨?_, ?_, ?_⟩, ⟨?_, ?_, ?_⟩, ⟨?_, ?_, ?_⟩, ⟨?_, ?_, ?_⟩, ?_⟩
 all_goals (simp [go_sem]; assumption)

end Go.Proofs.YtegaaccioppfjaaGreatDoor
end
section
namespace Go.Proofs.YtegaaccioppfjaaGreatDoor
open BigFrame Go.RowKit Go.Phx Go.Shelf
attribute [local go_sem] Oper.semAt_some

end Go.Proofs.YtegaaccioppfjaaGreatDoor
end
section
namespace Go.Proofs.YtegaaccioppfjaaGreatDoor
open BigFrame Go.RowKit Go.Phx Go.Shelf
attribute [local go_sem] Oper.semAt_some

end Go.Proofs.YtegaaccioppfjaaGreatDoor
end
section
namespace Go.Proofs.YtegaaccioppfjaaGreatDoor
open BigFrame Go.RowKit Go.Phx Go.Shelf
attribute [local go_sem] Oper.semAt_some

end Go.Proofs.YtegaaccioppfjaaGreatDoor
end
section
namespace Go.Proofs.YtegaaccioppfjaaGreatDoor
open Go.RowKit Go.Phx Go.Shelf
attribute [local go_sem] Oper.semAt_some

end Go.Proofs.YtegaaccioppfjaaGreatDoor
end
section
namespace Go.Proofs.YtegaaccioppfjaaGreatDoor
open Go.RowKit Go.Phx Go.Shelf
attribute [local go_sem] Oper.semAt_some

/-- a point's parts -/
def px : E → Int | none => 0 | some (x, _) => vz x
def py : E → Int | none => 0 | some (_, y) => vz y
def pf : E → Bool | none => true | some _ => false
/-- what stands in the cells of a multiple under way: the point, the result's own cell, the sum -/
def TimesAt (n b : Nat) (p o : E) (W : World) : Prop :=
 n + 1 < b ∧ b < W.heap.size ∧
 (W.cell? ⟨n, 0, none⟩ = some (.int .u64 (px p)) ∧ W.cell? ⟨n, 1, none⟩ = some (.int .u64 (py p)) ∧ W.cell? ⟨n, 2, none⟩ = some (.bool (pf p))) ∧
 (W.cell? ⟨n + 1, 0, none⟩ = some (.int .u64 0) ∧ W.cell? ⟨n + 1, 1, none⟩ = some (.int .u64 0) ∧ W.cell? ⟨n + 1, 2, none⟩ = some (.bool false)) ∧
 (W.frozen? ⟨n + 1, 0, none⟩ = false ∧ W.frozen? ⟨n + 1, 1, none⟩ = false ∧ W.frozen? ⟨n + 1, 2, none⟩ = false) ∧
 (W.cell? ⟨b, 0, none⟩ = some (.int .u64 (px o)) ∧ W.cell? ⟨b, 1, none⟩ = some (.int .u64 (py o)) ∧ W.cell? ⟨b, 2, none⟩ = some (.bool (pf o))) ∧
 (W.frozen? ⟨b, 0, none⟩ = false ∧ W.frozen? ⟨b, 1, none⟩ = false ∧ W.frozen? ⟨b, 2, none⟩ = false)
theorem TimesAt.on {n b : Nat} {p o : E} {W W2 : World} (h : TimesAt n b p o W) (hB : Below W.heap.size W W2) : TimesAt n b p o W2 := by
 obtain ⟨h0, h1, ⟨a0, a1, a2⟩, ⟨b0, b1, b2⟩, ⟨c0, c1, c2⟩, ⟨d0, d1, d2⟩, ⟨e0, e1, e2⟩⟩ := h
 obtain ⟨hc, hf⟩ := bcell hB
 have hz2 := hB.size
 refine ⟨h0, ?_, ⟨?_, ?_, ?_⟩, ⟨?_, ?_, ?_⟩, ⟨?_, ?_, ?_⟩, ⟨?_, ?_, ?_⟩, ⟨?_, ?_, ?_⟩⟩
 all_goals first | (rw [hc _ _ (by omega)]; assumption) | (rw [hf _ _ (by omega)]; assumption) | omega
/-- a sum is stored -/
def put3 (W : World) (b : Nat) (o : E) : World := ((W.setCell ⟨b, 0, none⟩ (.int .u64 (px o))).setCell ⟨b, 1, none⟩ (.int .u64 (py o))).setCell ⟨b, 2, none⟩ (.bool (pf o))
theorem TimesAt.put {n b : Nat} {p o : E} {W : World} (h : TimesAt n b p o W) (o' : E) : TimesAt n b p o' (put3 W b o') := by
 obtain ⟨h0, h1, ⟨a0, a1, a2⟩, ⟨b0, b1, b2⟩, ⟨c0, c1, c2⟩, ⟨d0, d1, d2⟩, ⟨e0, e1, e2⟩⟩ := h
 have n1 : n ≠ b := by omega
 have n2 : n + 1 ≠ b := by omega
 unfold put3
 refine ⟨h0, by simp; omega, ⟨?_, ?_, ?_⟩, ⟨?_, ?_, ?_⟩, ⟨?_, ?_, ?_⟩, ⟨?_, ?_, ?_⟩, ⟨?_, ?_, ?_⟩⟩
 all_goals (simp (maxDischargeDepth := 9) [go_sem, n1, n2, n1.symm, n2.symm, *])
theorem TimesAt.own (n b : Nat) (p : E) : Own (fun pre W => TimesAt n b p (timesBits p pre) W) := fun _ _ _ _ ⟨h0, h1, ⟨a0, a1, a2⟩, ⟨b0, b1, b2⟩, ⟨c0, c1, c2⟩, ⟨d0, d1, d2⟩, ⟨e0, e1, e2⟩⟩ hg hr =>
 ⟨h0, Nat.lt_of_lt_of_le h1 hg.size, ⟨cell_kept a0 hg hr, cell_kept a1 hg hr, cell_kept a2 hg hr⟩, ⟨cell_kept b0 hg hr, cell_kept b1 hg hr, cell_kept b2 hg hr⟩,
 ⟨(frozen_kept b0 hg hr).trans c0, (frozen_kept b1 hg hr).trans c1, (frozen_kept b2 hg hr).trans c2⟩, ⟨cell_kept d0 hg hr, cell_kept d1 hg hr, cell_kept d2 hg hr⟩,
 ⟨(frozen_kept d0 hg hr).trans e0, (frozen_kept d1 hg hr).trans e1, (frozen_kept d2 hg hr).trans e2⟩⟩

end Go.Proofs.YtegaaccioppfjaaGreatDoor
end
section
namespace Go.Proofs.YtegaaccioppfjaaGreatDoor
open Go.RowKit Go.Phx Go.Shelf
attribute [local go_sem] Oper.semAt_some

end Go.Proofs.YtegaaccioppfjaaGreatDoor
end
section
namespace Go.Proofs.YtegaaccioppfjaaGreatDoor
open BigFrame Go.RowKit Go.Phx Go.Shelf
attribute [local go_sem] Oper.semAt_some

/-- the point that these say, if they say one -/
noncomputable def said (x y : Int) (i : Bool) : Option E := if isOn x y i then some (ptOf x y i) else none
/-- two points in cells, and a third one, 0 -/
def Trio (n : Nat) (x1 y1 : Int) (i1 : Bool) (x2 y2 : Int) (i2 : Bool) (W : World) : Prop :=
 (W.cell? ⟨n, 0, none⟩ = some (.int .u64 x1) ∧ W.cell? ⟨n, 1, none⟩ = some (.int .u64 y1) ∧ W.cell? ⟨n, 2, none⟩ = some (.bool i1)) ∧
 (W.cell? ⟨n + 1, 0, none⟩ = some (.int .u64 x2) ∧ W.cell? ⟨n + 1, 1, none⟩ = some (.int .u64 y2) ∧ W.cell? ⟨n + 1, 2, none⟩ = some (.bool i2)) ∧
 (W.cell? ⟨n + 1 + 1, 0, none⟩ = some (.int .u64 0) ∧ W.cell? ⟨n + 1 + 1, 1, none⟩ = some (.int .u64 0) ∧ W.cell? ⟨n + 1 + 1, 2, none⟩ = some (.bool false)) ∧
 (W.frozen? ⟨n + 1 + 1, 0, none⟩ = false ∧ W.frozen? ⟨n + 1 + 1, 1, none⟩ = false ∧ W.frozen? ⟨n + 1 + 1, 2, none⟩ = false) ∧
 n + 1 + 1 < W.heap.size
theorem Trio.on {n : Nat} {x1 y1 x2 y2 : Int} {i1 i2 : Bool} {W W2 : World} (h : Trio n x1 y1 i1 x2 y2 i2 W) (hB : Below W.heap.size W W2) : Trio n x1 y1 i1 x2 y2 i2 W2 := by
 obtain ⟨⟨c0, c1, c2⟩, ⟨d0, d1, d2⟩, ⟨r0, r1, r2⟩, ⟨f0, f1, f2⟩, hz⟩ := h
 obtain ⟨hc, hf⟩ := bcell hB
 have hz2 := hB.size
 refine ⟨⟨?_, ?_, ?_⟩, ⟨?_, ?_, ?_⟩, ⟨?_, ?_, ?_⟩, ⟨?_, ?_, ?_⟩, ?_⟩
 all_goals first | (rw [hc _ _ (by omega)]; assumption) | (rw [hf _ _ (by omega)]; assumption) | omega
/-- a point in a cell, and a second one, 0 -/
def Duo (n : Nat) (x1 y1 : Int) (i1 : Bool) (W : World) : Prop :=
 (W.cell? ⟨n, 0, none⟩ = some (.int .u64 x1) ∧ W.cell? ⟨n, 1, none⟩ = some (.int .u64 y1) ∧ W.cell? ⟨n, 2, none⟩ = some (.bool i1)) ∧
 (W.cell? ⟨n + 1, 0, none⟩ = some (.int .u64 0) ∧ W.cell? ⟨n + 1, 1, none⟩ = some (.int .u64 0) ∧ W.cell? ⟨n + 1, 2, none⟩ = some (.bool false)) ∧
 (W.frozen? ⟨n + 1, 0, none⟩ = false ∧ W.frozen? ⟨n + 1, 1, none⟩ = false ∧ W.frozen? ⟨n + 1, 2, none⟩ = false) ∧
 n + 1 < W.heap.size
theorem Duo.on {n : Nat} {x1 y1 : Int} {i1 : Bool} {W W2 : World} (h : Duo n x1 y1 i1 W) (hB : Below W.heap.size W W2) : Duo n x1 y1 i1 W2 := by
 obtain ⟨⟨c0, c1, c2⟩, ⟨r0, r1, r2⟩, ⟨f0, f1, f2⟩, hz⟩ := h
 obtain ⟨hc, hf⟩ := bcell hB
 have hz2 := hB.size
 refine ⟨⟨?_, ?_, ?_⟩, ⟨?_, ?_, ?_⟩, ⟨?_, ?_, ?_⟩, ?_⟩
 all_goals first | (rw [hc _ _ (by omega)]; assumption) | (rw [hf _ _ (by omega)]; assumption) | omega
end Go.Proofs.YtegaaccioppfjaaGreatDoor
end
section
namespace Go.Proofs.YtegaaccioppfjaaGreatDoor
open BigFrame Go.RowKit Go.Phx Go.Shelf
attribute [local go_sem] Oper.semAt_some

end Go.Proofs.YtegaaccioppfjaaGreatDoor
end
section
namespace Go.Proofs.YtegaaccioppfjaaGreatDoor
open BigFrame Go.RowKit Go.Phx Go.Shelf
attribute [local go_sem] Oper.semAt_some

theorem fldInf (a b c : Value) (w : World) : (Instr.field 96 (.agg #[a, b, c]) 2).run Tryz.prog w = .ok c w := by kernel_rfl
attribute [local go_sem] fldInf
/-- a point in a cell -/
def Pt (b : Nat) (p : E) (W : World) : Prop :=
 (W.cell? ⟨b, 0, none⟩ = some (.int .u64 (px p)) ∧ W.cell? ⟨b, 1, none⟩ = some (.int .u64 (py p)) ∧ W.cell? ⟨b, 2, none⟩ = some (.bool (pf p))) ∧ b < W.heap.size
theorem Pt.on {b : Nat} {p : E} {W W2 : World} (h : Pt b p W) (hB : Below W.heap.size W W2) : Pt b p W2 := by
 obtain ⟨⟨c0, c1, c2⟩, hz⟩ := h
 obtain ⟨hc, hf⟩ := bcell hB
 have hz2 := hB.size
 refine ⟨⟨?_, ?_, ?_⟩, ?_⟩
 all_goals first | (rw [hc _ _ (by omega)]; assumption) | omega
theorem Pt.new (p : E) (t : TypeId) (W : World) : Pt W.heap.size p (W.alloc (.cells #[.int .u64 (px p), .int .u64 (py p), .bool (pf p)] t)) := by
 refine ⟨⟨?_, ?_, ?_⟩, ?_⟩
 all_goals simp [go_sem]
theorem Pt.alloc {b : Nat} {p : E} {W : World} (h : Pt b p W) (o : Obj) : Pt b p (W.alloc o) := h.on ((Below.refl _ _).alloc (Nat.le_refl _) _)

end Go.Proofs.YtegaaccioppfjaaGreatDoor
end
section
namespace Go.Proofs.YtegaaccioppfjaaGreatDoor
open BigFrame Go.RowKit Go.Phx Go.Shelf
attribute [local go_sem] Oper.semAt_some fldInf

/-- a text's value -/
abbrev vs (l : List UInt8) : Value := .string ⟨l.toArray⟩
theorem conv5 (W : World) (t : TypeId) (a b c d e : Int) (k : Nat) : (convert 108 9 (.slice (some ⟨W.heap.size, 0, none⟩) 5 k)).run Tryz.prog (W.alloc (.cells #[.int .u8 a, .int .u8 b, .int .u8 c, .int .u8 d, .int .u8 e] t)) =
  .ok (.string ⟨#[UInt8.ofNat a.toNat, UInt8.ofNat b.toNat, UInt8.ofNat c.toNat, UInt8.ofNat d.toNat, UInt8.ofNat e.toNat]⟩) (W.alloc (.cells #[.int .u8 a, .int .u8 b, .int .u8 c, .int .u8 d, .int .u8 e] t)) := by
 have hs : Tryz.prog.underlying 108 = some (.slice 5) := by kernel_rfl
 have he : Tryz.prog.underlying 5 = some (.int .u8) := by kernel_rfl
 have hd : Tryz.prog.underlying 9 = some .string := by kernel_rfl
 exact run_convert_bytes_arg _ _ _ hs he W.heap.size 0 5 k [a, b, c, d, e] rfl (fun i hi => by
  have hK := Blk.new0 W t #[.int .u8 a, .int .u8 b, .int .u8 c, .int .u8 d, .int .u8 e]
  rw [hK.cell]
  rcases i with _ | _ | _ | _ | _ | i
  ·rfl
  ·rfl
  ·rfl
  ·rfl
  ·rfl
  ·omega) _ hd
attribute [local go_sem] conv5

end Go.Proofs.YtegaaccioppfjaaGreatDoor
end
section
namespace Go.Proofs.YtegaaccioppfjaaGreatDoor
open BigFrame Go.RowKit Go.Phx Go.Shelf
attribute [local go_sem] Oper.semAt_some fldInf

end Go.Proofs.YtegaaccioppfjaaGreatDoor
end
section
namespace Go.Proofs.YtegaaccioppfjaaGreatDoor
open BigFrame Go.RowKit Go.Phx Go.Shelf
attribute [local go_sem] Oper.semAt_some fldInf

end Go.Proofs.YtegaaccioppfjaaGreatDoor
end
section
namespace Go.Proofs.YtegaaccioppfjaaGreatDoor
open BigFrame Go.RowKit Go.Phx Go.Shelf

def be : Option (List UInt8) → Int | none => 100 | some _ => 0
theorem toList_eq (s : ByteArray) : s.toList = s.data.toList := by
 have h : ∀ (n i : Nat) (r : List UInt8), i + n = s.size → ByteArray.toList.loop s i r = r.reverse ++ s.data.toList.drop i := by
  intro n
  induction n with
  | zero =>
   intro i r hi
   unfold ByteArray.toList.loop
   rw [if_neg (by omega), List.drop_eq_nil_of_le (by simp; show s.size ≤ i; omega), List.append_nil]
  | succ n ih =>
   intro i r hi
   unfold ByteArray.toList.loop
   rw [if_pos (by omega), ih _ _ (by omega)]
   have hlt : i < s.data.toList.length := by simp; show i < s.size; omega
   rw [List.drop_eq_getElem_cons hlt, List.reverse_cons, List.append_assoc]
   have e : s.get! i = s.data.toList[i] := by
    show s.data[i]! = _
    simp only [Array.getElem_toList]
    exact getElem!_pos s.data i (by simpa using hlt)
   rw [e]
   rfl
 have := h s.size 0 [] (by omega)
 simpa [ByteArray.toList] using this
end Go.Proofs.YtegaaccioppfjaaGreatDoor
end
