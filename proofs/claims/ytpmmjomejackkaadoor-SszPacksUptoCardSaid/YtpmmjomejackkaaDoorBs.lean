/- Texts as lists of bytes, as the walk meets them: how long, a part, a byte, one behind the other. No conditions. -/
import Derived.Test.YtpmmjomejackkaaDoorSha2
import Derived.Test.YtpmmjomejackkaaDoorStrs
set_option linter.unusedSimpArgs false
set_option linter.unusedVariables false
namespace Go.Proofs.YtpmmjomejackkaaDoor
open BigFrame Go.RowKit Go.Phx Go.Shelf
attribute [local go_sem] Oper.semAt_some

/-- a list of bytes as a text -/
def bs (l : List UInt8) : ByteArray := ⟨l.toArray⟩
theorem bs_list (l : List UInt8) : (bs l).data.toList = l := rfl
theorem bs_of (s : ByteArray) : bs s.data.toList = s := rfl
@[go_sem] theorem bs_size (l : List UInt8) : (bs l).size = l.length := by simp [bs, ByteArray.size]
@[go_sem] theorem bs_toList (l : List UInt8) : (bs l).toList = l := by
  rw [ByteArray.toList_eq]
  rfl
theorem bs_inj {a b : List UInt8} (h : bs a = bs b) : a = b := congrArg (fun s : ByteArray => s.data.toList) h
@[go_sem] theorem bs_app (a b : List UInt8) : bs a ++ bs b = bs (a ++ b) := by
  apply ByteArray.ext
  simp [bs, ByteArray.data_append]
theorem bs_ext (l : List UInt8) (a b : Nat) : (bs l).extract a b = bs ((l.drop a).take (b - a)) := by
  apply ByteArray.ext
  simp [bs, ByteArray.data_extract]
@[go_sem] theorem bs_take (l : List UInt8) (b : Nat) : (bs l).extract 0 b = bs (l.take b) := by rw [bs_ext]; simp
@[go_sem] theorem bs_drop (l : List UInt8) (a : Nat) : (bs l).extract a l.length = bs (l.drop a) := by
  rw [bs_ext, List.take_of_length_le (by simp)]
theorem conv1 (W : World) (t : TypeId) (a : Int) (k : Nat) : (convert 39 9 (.slice (some ⟨W.heap.size, 0, none⟩) 1 k)).run Tryd.prog (W.alloc (.cells #[.int .u8 a] t)) =
    .ok (.string (bs [UInt8.ofNat a.toNat])) (W.alloc (.cells #[.int .u8 a] t)) := by
  have hs : Tryd.prog.underlying 39 = some (.slice 5) := by kernel_rfl
  have he : Tryd.prog.underlying 5 = some (.int .u8) := by kernel_rfl
  have hd : Tryd.prog.underlying 9 = some .string := by kernel_rfl
  exact run_convert_bytes_arg _ _ _ hs he W.heap.size 0 1 k [a] rfl (fun i hi => by
    have hK := Blk.new0 W t #[.int .u8 a]
    rw [hK.cell]
    obtain rfl : i = 0 := by omega
    rfl) _ hd
theorem conv1d (W : World) (t : TypeId) (a : Int) (k : Nat) : (convert 39 9 (.slice (some ⟨W.heap.size, 0, none⟩) 1 k)).run Tryd.prog (W.alloc (.cells #[.int .u8 a] t)).drew =
    .ok (.string (bs [UInt8.ofNat a.toNat])) (W.alloc (.cells #[.int .u8 a] t)).drew := by
  have hs : Tryd.prog.underlying 39 = some (.slice 5) := by kernel_rfl
  have he : Tryd.prog.underlying 5 = some (.int .u8) := by kernel_rfl
  have hd : Tryd.prog.underlying 9 = some .string := by kernel_rfl
  exact run_convert_bytes_arg _ _ _ hs he W.heap.size 0 1 k [a] rfl (fun i hi => by
    have hK := (Blk.new0 W t #[.int .u8 a]).drew
    rw [hK.cell]
    obtain rfl : i = 0 := by omega
    rfl) _ hd
attribute [go_sem] conv1 conv1d
/-- how long the text in a variable is -/
def boxLen (b : Nat) (w : World) : Nat := match w.cell? ⟨b, 0, none⟩ with
  | some (.string s) => s.size
  | _ => 0
theorem boxLen_of {b : Nat} {w : World} {t : TypeId} {l : List UInt8} (h : Blk w b t #[.string (bs l)]) : boxLen b w = l.length := by
  unfold boxLen
  rw [h.cell 0]
  exact bs_size l
theorem Blk.grown {w w' : World} {g : Nat} {t : TypeId} {cs : Array Value} {row : Option Nat} (h : Blk w g t cs) (hg : w.grownBy w' row) (hn : some g ≠ row) : Blk w' g t cs := (hg.block g h.lt hn).trans h
theorem HasK.grown {w w' : World} {row : Option Nat} (h : HasK w) (hg : w.grownBy w' row) (hn : some 0 ≠ row) : HasK w' :=
  ⟨fun i hi => (World.cell?_of_block (w := w) (a := ⟨0, i, none⟩) (hg.block _ h.2 hn)).trans (h.1 i hi), Nat.lt_of_lt_of_le h.2 hg.size⟩
theorem keepsOthers_row {W W' : World} {b : Nat} {t : TypeId} {cs : Array Value} (h : Blk W b t cs) (hg : W.grownBy W' (some b)) : KeepsOthers W W' :=
  KeepsOthers.of_grownBy hg fun j o e ho => by
    cases e
    unfold Blk at h
    rw [h] at ho
    injection ho with ho
    subst ho
    rfl
theorem below_row {w W W' : World} {b : Nat} (h : Below w.heap.size w W) (hg : W.grownBy W' (some b)) (hb : w.heap.size ≤ b) : Below w.heap.size w W' := h.grown hg h.size fun k e => by injection e with e; omega

/-- a row of N bytes, the first k of L laid -/
def bcells (N : Nat) (L : List UInt8) (k : Nat) : Array Value := ((L.take k ++ List.replicate (N - k) 0).map fun c : UInt8 => Value.int .u8 (c.toNat : Int)).toArray
theorem bcells_set (N : Nat) (L : List UInt8) (k : Nat) (hk : k < N) (hL : L.length = N) (v : Int) (hv : v = ((L.getD k 0).toNat : Int)) : (bcells N L k).setIfInBounds k (.int .u8 v) = bcells N L (k + 1) := by
  subst hv
  unfold bcells
  rw [List.setIfInBounds_toArray, ← List.map_set (f := fun c : UInt8 => Value.int .u8 (c.toNat : Int)), List.set_append_right _ _ (by simp; omega)]
  congr 1
  congr 1
  rw [List.length_take, show k - min k L.length = 0 by omega, show N - k = (N - (k + 1)) + 1 by omega, List.replicate_succ, List.set_cons_zero, List.take_add_one, List.getElem?_eq_getElem (by omega), List.append_assoc]
  simp [List.getD, List.getElem?_eq_getElem (show k < L.length by omega)]
theorem bcells_at (N : Nat) (L : List UInt8) (k : Nat) (hk : k < N) (hL : L.length = N) : (bcells N L k)[k]? = some (.int .u8 0) := by
  unfold bcells
  rw [List.getElem?_toArray, List.getElem?_map, List.getElem?_append_right (by simp; omega), List.getElem?_replicate, if_pos (by simp; omega)]
  rfl
theorem bcells_all (N : Nat) (L : List UInt8) (hL : L.length = N) : bcells N L N = (L.map fun c : UInt8 => Value.int .u8 (c.toNat : Int)).toArray := by
  unfold bcells
  rw [List.take_of_length_le (by omega), Nat.sub_self]
  simp
theorem strOfNums_map (L : List UInt8) : strOfNums (L.map fun c : UInt8 => (c.toNat : Int)) = bs L := by
  unfold strOfNums bs
  rw [List.map_map]
  have e : ((fun n : Int => UInt8.ofNat n.toNat) ∘ fun c : UInt8 => (c.toNat : Int)) = id := by
    funext c
    simp
  rw [e, List.map_id]
/-- a row of bytes as a text -/
theorem conv_row (W : World) (g : Nat) (t : TypeId) (L : List UInt8) (n c : Nat) (h : Blk W g t (L.map fun c : UInt8 => Value.int .u8 (c.toNat : Int)).toArray) (hn : L.length = n) :
    (convert 39 9 (.slice (some ⟨g, 0, none⟩) n c)).run Tryd.prog W = .ok (.string (bs L)) W := by
  have hs : Tryd.prog.underlying 39 = some (.slice 5) := by kernel_rfl
  have he : Tryd.prog.underlying 5 = some (.int .u8) := by kernel_rfl
  have hd : Tryd.prog.underlying 9 = some .string := by kernel_rfl
  have := run_convert_bytes_arg (P := Tryd.prog) W _ _ hs he g 0 n c (L.map fun c : UInt8 => (c.toNat : Int)) (by simpa using hn) (fun i hi => by
    rw [h.cell]
    simp [List.getD, List.getElem?_eq_getElem (show i < L.length by omega)]) _ hd
  rw [this, strOfNums_map]
end Go.Proofs.YtpmmjomejackkaaDoor
