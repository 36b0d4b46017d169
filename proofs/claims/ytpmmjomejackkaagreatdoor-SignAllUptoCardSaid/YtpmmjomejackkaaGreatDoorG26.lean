/- What the later texts stand on (App, Sha9, Sha10, Laid): plain laws and walks, each by its own conditions. -/
import Derived.Test.YtpmmjomejackkaaGreatDoorG14
import Derived.Lib.FrozenHead
import Derived.Laws.OwnMore
import Derived.Test.YtpmmjomejackkaaGreatDoorG25
import Derived.Deep.AppendLies
import Derived.Deep.RegionLaw
import Derived.Test.YtpmmjomejackkaaGreatDoorRows
import Derived.Test.YtpmmjomejackkaaGreatDoorCards
import Derived.Test.YtpmmjomejackkaaGreatDoorTie
import Derived.Test.YtpmmjomejackkaaGreatDoorG13
import Derived.Test.YtpmmjomejackkaaGreatDoorG12
import Derived.Deep.DeepHandedRow
import Derived.Lib.LaidTab
import Derived.SevenTiedAt
section
namespace Go.Proofs.YtpmmjomejackkaaGreatDoor
open Go.RowKit Go.Phx Go.Shelf
set_option linter.unusedSimpArgs false

/-- a slice value owns these cells; what is frozen of its row lies behind its capacity -/
def OwnX (w : World) (base : Nat) (e : TypeId) (v : Value) (n : Nat) (xs : List Value) : Prop :=
  xs.length = n ∧ ∃ g cap cur fz, v = .slice (some ⟨g, 0, none⟩) n cap ∧ base ≤ g ∧ w.heap[g]? = some (.cells cur e fz) ∧ (fz.2 ≤ fz.1 ∨ cap ≤ fz.1) ∧ n ≤ cap ∧ cap ≤ maxLen ∧ cur.size = cap ∧ cur.toList.take n = xs
theorem OwnX.form {w : World} {base : Nat} {e : TypeId} {v : Value} {n : Nat} {xs : List Value} (h : OwnX w base e v n xs) :
    ∃ g cap, v = .slice (some ⟨g, 0, none⟩) n cap ∧ base ≤ g ∧ g < w.heap.size ∧ n ≤ cap ∧ cap ≤ maxLen ∧ ∀ j u, xs[j]? = some u → w.cell? ⟨g, j, none⟩ = some u := by
  obtain ⟨_, g, cap, cur, fz, hv, hb, hg, _, hnc, hcm, _, ht⟩ := h
  refine ⟨g, cap, hv, hb, (Array.getElem?_eq_some_iff.1 hg).1, hnc, hcm, fun j u hu => ?_⟩
  rw [cell_of_row w g j cur e fz hg]
  rw [← ht, List.getElem?_take] at hu
  split at hu
  · simpa using hu
  · cases hu
theorem OwnX.kept {w w' : World} {base : Nat} {e : TypeId} {v : Value} {n : Nat} {xs : List Value} {row : Option Nat} (h : OwnX w base e v n xs) (hg : w.grownBy w' row) (hne : v.ownBlock ≠ row) : OwnX w' base e v n xs := by
  obtain ⟨hl, g, cap, cur, fz, hv, hb, hh, r⟩ := h
  refine ⟨hl, g, cap, cur, fz, hv, hb, ?_, r⟩
  rw [hg.block g (Array.getElem?_eq_some_iff.1 hh).1 (by subst hv; simpa [Value.ownBlock] using hne)]
  exact hh
theorem OwnX.alloc {w : World} {base : Nat} {e : TypeId} {v : Value} {n : Nat} {xs : List Value} (h : OwnX w base e v n xs) (o : Obj) : OwnX (w.alloc o) base e v n xs :=
  h.kept (World.grownBy_alloc w o none) (by
    obtain ⟨_, g, cap, cur, fz, rfl, _⟩ := h
    simp [Value.ownBlock])
theorem OwnX.below {w w' : World} {base : Nat} {e : TypeId} {v : Value} {n : Nat} {xs : List Value} (h : OwnX w base e v n xs) (hB : Below w.heap.size w w') : OwnX w' base e v n xs := by
  obtain ⟨hl, g, cap, cur, fz, hv, hb, hh, r⟩ := h
  exact ⟨hl, g, cap, cur, fz, hv, hb, (hB.block g (Array.getElem?_eq_some_iff.1 hh).1).trans hh, r⟩
theorem run_storeCells_X (P : Program) (g o : Nat) (t : TypeId) (fz : Nat × Nat) : ∀ (vs : List Value) (i : Nat) (cur : Array Value) (w : World), w.heap[g]? = some (.cells cur t fz) → (fz.2 ≤ fz.1 ∨ cur.size ≤ fz.1) → o + i + vs.length ≤ cur.size → (∀ v ∈ vs, v.oneCell' = true) →
    (storeCells ⟨g, o, none⟩ vs i).run P w = .ok () (w.setRow g (cur.toList.take (o + i) ++ vs ++ cur.toList.drop (o + i + vs.length)).toArray)
  | [], i, cur, w, hg, _, _, _ => by
    simp only [storeCells, List.append_nil, List.length_nil, Nat.add_zero, List.take_append_drop, Array.toArray_toList]
    rw [setRow_self w g cur t fz hg]
    rfl
  | v :: rest, i, cur, w, hg, hfz, hl, h1 => by
    have hi : o + i < cur.size := by simp at hl; omega
    have hadd : (⟨g, o, none⟩ : Addr).add i = ⟨g, o + i, none⟩ := by unfold Addr.add; split <;> simp_all
    have hcell : w.cell? ⟨g, o + i, none⟩ = some cur[o + i] := by simp [World.cell?, hg, hi]
    have hfro : w.frozen? ⟨g, o + i, none⟩ = false := by
      obtain ⟨lo, hi'⟩ := fz
      simp only [World.frozen?, hg, Bool.and_eq_false_iff, decide_eq_false_iff_not]
      simp only at hfz
      omega
    have hst : (store ((⟨g, o, none⟩ : Addr).add i) v).run P w = .ok () (w.setRow g (cur.setIfInBounds (o + i) v)) := by
      rw [hadd, run_store P w _ v _ (h1 v (by simp)), hcell]
      simp [hfro, setCell_eq_setRow w g (o + i) cur t fz v hg]
    have ih := run_storeCells_X P g o t fz rest (i + 1) (cur.setIfInBounds (o + i) v) (w.setRow g (cur.setIfInBounds (o + i) v)) (setRow_heap w g cur _ t _ hg) (by simpa using hfz) (by simp at hl ⊢; omega) (fun x hx => h1 x (by simp [hx]))
    simp only [storeCells, Sem.run_bind, hst, Result.andThen_ok, ih, setRow_setRow]
    congr 3
    have e := list_seg_step cur.toList (o + i) v rest (by simp at hl ⊢; omega)
    simpa [Array.toList_setIfInBounds, Nat.add_assoc] using e

theorem run_append_X {P : Program} (w : World) (base : Nat) (t ty e : TypeId) (i : TypeInfo) (z : Value) (ht : P.underlying t = some (.slice e)) (hi : P.info? e = some i) (hz : i.zero = some z)
    (hsize : i.size = 1) (hby : i.bytes = 1) (hzs : z.cells.size = 1)
    (v : Value) (n : Nat) (xs : List Value) (hown : OwnX w base e v n xs)
    (a : Addr) (m c : Nat) (news : List Value) (hl : news.length = m) (hnews : ∀ j u, news[j]? = some u → w.cell? (a.add j) = some u) (h1 : ∀ u ∈ news, u.oneCell' = true)
    (h63 : n + m ≤ 140737488355328) (hbase : base ≤ w.heap.size) :
    ∃ v' w', (Builtin.append_ #[t, t] ty #[v, .slice (some a) m c]).run P w = .ok v' w' ∧ OwnX w' base e v' (n + m) (xs ++ news) ∧ w.grownBy w' v.ownBlock := by
  obtain ⟨hxl, g, cap, cur, fz, rfl, hbg, hg, hfz, hnc, hcm, hcs, htake⟩ := hown
  have hlen : (xs ++ news).length = n + m := by rw [List.length_append, hxl, hl]
  by_cases hroom : n + m ≤ cap
  · have hf := run_firstCells_some (P := P) w i.size m a m c news (by rw [hsize, Nat.mul_one]; exact hl) hnews
    rw [hsize] at hf
    have hst := run_storeCells_X P g n e fz news 0 cur w hg (by rw [hcs]; exact hfz) (by omega) h1
    simp only [Nat.add_zero] at hst
    refine ⟨.slice (some ⟨g, 0, none⟩) (n + m) cap, w.setRow g (cur.toList.take n ++ news ++ cur.toList.drop (n + news.length)).toArray, ?_, ⟨hlen, g, cap, _, fz, rfl, hbg, setRow_heap w g cur _ e _ hg, hfz, hroom, hcm, ?_, ?_⟩,
      ⟨rfl, rfl, rfl, by simp, fun k _ hk => setRow_other w g k _ (fun e => hk (by simp [Value.ownBlock, e]))⟩⟩
    · simp [Builtin.append_, run_underlying ht, sizeOf, typeInfo, hi, Builtin.lenOf, hroom, hf, Addr.add_lit, hst, hsize]
    · simp only [List.size_toArray, List.length_append, List.length_take, List.length_drop, Array.length_toList]
      omega
    · rw [htake, ← hlen]
      exact List.take_left
  · have holds : ∀ j u, xs[j]? = some u → w.cell? ((⟨g, 0, none⟩ : Addr).add j) = some u := fun j u hu => by
      have hadd : (⟨g, 0, none⟩ : Addr).add j = ⟨g, j, none⟩ := by unfold Addr.add; split <;> simp_all
      rw [hadd, cell_of_row w g j cur e fz hg]
      rw [← htake, List.getElem?_take] at hu
      split at hu
      · simpa using hu
      · cases hu
    have hr := run_append_grow (P := P) w t ty e i z ht hi hz ⟨g, 0, none⟩ n cap xs (by rw [hsize, Nat.mul_one]; exact hxl) holds a m c news (by rw [hsize, Nat.mul_one]; exact hl) hnews (by omega) (by omega) (growslice_fits (by omega) (by rw [hby]; omega))
    have hge := grownCap_ge w (n + m) cap e
    have hcm2 : grownCap w (n + m) cap e ≤ maxLen := grownCap_le_maxLen w (n + m) cap e (by unfold maxLen; omega)
    refine ⟨_, _, hr, ⟨hlen, w.heap.size, _, _, (0, 0), rfl, hbase, heap_alloc_new w.drew _, .inl (Nat.le_refl _), hge, hcm2, ?_, ?_⟩, ⟨rfl, rfl, rfl, by simp, fun k hk _ => heap_alloc_old w.drew _ hk⟩⟩
    · simp only [Array.size_append, List.size_toArray, size_zeroCells, hzs, hxl, hl]
      omega
    · simp only [Array.toList_append, List.append_assoc]
      rw [← List.append_assoc, ← hlen]
      exact List.take_left
theorem wpList_append_X {P : Program} {ops : Array Oper} {rest : List Oper} {o : Oper} {a : Act} {w : World} {Q : Exit → Act → World → Prop} (hgd : o.guard = none) (s x : Operand) (t : TypeId)
    (ho : o.op = .call { callee := .builtin .append, args := #[s, x], argTypes := #[t, t] })
    (base : Nat) (e : TypeId) (i : TypeInfo) (z : Value) (ht : P.underlying t = some (.slice e)) (hi : P.info? e = some i) (hz : i.zero = some z) (hsize : i.size = 1) (hby : i.bytes = 1) (hzs : z.cells.size = 1)
    (v : Value) (n : Nat) (xs : List Value) (hs : a.eval s = v) (hown : OwnX w base e v n xs)
    (ad : Addr) (m c : Nat) (news : List Value) (hx : a.eval x = .slice (some ad) m c) (hl : news.length = m) (hnews : ∀ j u, news[j]? = some u → w.cell? (ad.add j) = some u) (h1 : ∀ u ∈ news, u.oneCell' = true)
    (h63 : n + m ≤ 140737488355328) (hbase : base ≤ w.heap.size)
    (h : ∀ v' w', OwnX w' base e v' (n + m) (xs ++ news) → w.grownBy w' v.ownBlock → wpList P ops Q rest (a.put o.dst v') w') : wpList P ops Q (o :: rest) a w := by
  refine wpList_plain hgd fun K hK => ?_
  obtain ⟨v', w', hr, h2, h3⟩ := run_append_X (P := P) w base t o.type e i z ht hi hz hsize hby hzs v n xs hown ad m c news hl hnews h1 h63 hbase
  unfold Oper.wp execOp
  simp only [ho, resolve, invoke, builtin, Sem.run_bind, Sem.run_pure, Result.andThen_ok, List.map_toArray, List.map_cons, List.map_nil, hs, hx, hr]
  exact hK _ _ (h v' w' h2 h3)
/-- one byte in a block that was just made -/
theorem news1 (W : World) (t : TypeId) (v : Value) : ∀ j u, [v][j]? = some u → (W.alloc (.cells #[v] t)).cell? ((⟨W.heap.size, 0, none⟩ : Addr).add j) = some u := by
  intro j u hu
  match j, hu with
  | 0, hu =>
    have := (Blk.new0 W t #[v]).cell 0
    simp at hu
    subst hu
    simp [Addr.add]
/-- a byte's value -/
def bv (c : UInt8) : Value := .int .u8 (c.toNat : Int)
/-- a text's own bytes -/
def txtCells (w : World) (s : ByteArray) : World :=
  w.drew.alloc (.cells (bytesRow s (grownCap w s.size 0 5)) 5 ((bytesRow s (grownCap w s.size 0 5)).size, (bytesRow s (grownCap w s.size 0 5)).size + 1))
@[go_sem] theorem conv_txt (w : World) (s : ByteArray) : (convert 9 73 (.string s)).run Tryz.prog w = .ok (.slice (some ⟨w.heap.size, 0, none⟩) s.size (grownCap w s.size 0 5)) (txtCells w s) :=
  run_bytes_of_string w _ _ _ s (show Tryz.prog.underlying 9 = some .string by kernel_rfl) (show Tryz.prog.underlying 73 = some (.slice 5) by kernel_rfl) (show Tryz.prog.underlying 5 = some (.int .u8) by kernel_rfl)
theorem txt_own (w : World) (l : List UInt8) (base : Nat) (hb : base ≤ w.heap.size) (hl : l.length ≤ 140737488355328) :
    OwnX (txtCells w (bs l)) base 5 (.slice (some ⟨w.heap.size, 0, none⟩) l.length (grownCap w l.length 0 5)) l.length (l.map bv) := by
  have hge := grownCap_ge w l.length 0 5
  unfold txtCells
  rw [bs_size]
  refine ⟨by simp, w.heap.size, _, _, _, rfl, hb, heap_alloc_new w.drew _, .inr ?_, hge, grownCap_le_maxLen w _ _ _ (by unfold maxLen; omega), ?_, ?_⟩
  · show _ ≤ (bytesRow (bs l) _).size
    have e1 : (bs l).data.size = l.length := by simp [bs]
    unfold bytesRow
    rw [Array.size_append, Array.size_map, Array.size_replicate, bs_size, e1]
    omega
  · have e1 : (bs l).data.size = l.length := by simp [bs]
    unfold bytesRow
    rw [Array.size_append, Array.size_map, Array.size_replicate, bs_size, e1]
    omega
  · simp [bytesRow, bs]
    exact fun _ _ => rfl
theorem txt_below (w : World) (s : ByteArray) : Below w.heap.size w (txtCells w s) := ((Below.refl _ _).drew).alloc (Nat.le_refl _) _
theorem conv_cells (W : World) (g : Nat) (L : List UInt8) (n c : Nat) (hn : L.length = n) (h : ∀ j u, (L.map bv)[j]? = some u → W.cell? ⟨g, j, none⟩ = some u) :
    (convert 73 9 (.slice (some ⟨g, 0, none⟩) n c)).run Tryz.prog W = .ok (.string (bs L)) W := by
  have hs : Tryz.prog.underlying 73 = some (.slice 5) := by kernel_rfl
  have he : Tryz.prog.underlying 5 = some (.int .u8) := by kernel_rfl
  have hd : Tryz.prog.underlying 9 = some .string := by kernel_rfl
  have := run_convert_bytes_arg (P := Tryz.prog) W _ _ hs he g 0 n c (L.map fun c : UInt8 => (c.toNat : Int)) (by simpa using hn) (fun i hi => by
    rw [Nat.zero_add, h i (bv (L.getD i 0)) (by rw [List.getElem?_map, List.getElem?_eq_getElem (by omega), List.getD, List.getElem?_eq_getElem (by omega)]; rfl)]
    unfold bv
    simp [List.getD, List.getElem?_eq_getElem (show i < L.length by omega)]) _ hd
  rw [this, strOfNums_map]
theorem own_cells {w : World} {base : Nat} {e : TypeId} {n cap g : Nat} {xs : List Value} (h : w.ownsRow base e 1 (.slice (some ⟨g, 0, none⟩) n cap) n xs) : ∀ j u, xs[j]? = some u → w.cell? ⟨g, j, none⟩ = some u := fun j u hu => by
  have := h.cells (g := g) rfl j u hu
  rwa [Addr.add_mid, Nat.zero_add] at this
/-- bytes of the call's own, so far -/
structure HoldsX (w0 wr : World) (v : Value) (q : List UInt8) : Prop where
  own : OwnX wr w0.heap.size 5 v q.length (q.map bv)
  below : Below w0.heap.size w0 wr
theorem HoldsX.step {w0 wr w' : World} {v v' : Value} {q : List UInt8} {o : Obj} {x : Int} (c : UInt8) (h : HoldsX w0 wr v q) (hx : x = (c.toNat : Int)) (hown : OwnX w' w0.heap.size 5 v' (q.length + 1) (q.map bv ++ [.int .u8 x])) (hg : (wr.alloc o).grownBy w' v.ownBlock) :
    HoldsX w0 w' v' (q ++ [c]) := by
  subst hx
  refine ⟨by simpa [bv] using hown, (h.below.alloc h.below.size o).grown hg (by have := h.below.size; simp; omega) fun k e => ?_⟩
  obtain ⟨g, cap, hv, hb, _⟩ := h.own.form
  rw [hv] at e
  simp [Value.ownBlock] at e
  omega
end Go.Proofs.YtpmmjomejackkaaGreatDoor
end
section
set_option linter.unusedSimpArgs false
set_option linter.unusedVariables false
namespace Go.Proofs.YtpmmjomejackkaaGreatDoor
open BigFrame Go.RowKit Go.Phx Go.Shelf
attribute [local go_sem] Oper.semAt_some

theorem infoU8 : (Tryz.prog.info? 5).map (fun i => (i.zero, i.size, i.bytes)) = some (some (.int .u8 0), 1, 1) := by kernel_rfl
/-- a call hands back bytes of its own -/
def Gave (w : World) (l : List UInt8) (e : Ending) (w' : World) : Prop := ∃ g cap, e = .returned (.slice (some ⟨g, 0, none⟩) l.length cap) ∧ OwnX w' w.heap.size 5 (.slice (some ⟨g, 0, none⟩) l.length cap) l.length (l.map bv) ∧ Below w.heap.size w w'
/-- bytes 0 behind a text and a byte 128, so many -/
def pad0 (l : List UInt8) (k : Nat) : List UInt8 := l ++ 128 :: List.replicate k 0
theorem pad0_len (l : List UInt8) (k : Nat) : (pad0 l k).length = l.length + 1 + k := by simp [pad0]; omega
theorem pad0_succ (l : List UInt8) (k : Nat) : pad0 l (k + 1) = pad0 l k ++ [0] := by unfold pad0; rw [List.replicate_succ']; simp

set_option maxRecDepth 100000 in
set_option maxHeartbeats 2000000 in
theorem padded_calls (l : List UInt8) (hl : l.length ≤ 100000000000000) (w : World) : Calls Tryz.prog 70 #[.string (bs l)] w (Gave w (padS l)) := by
  obtain ⟨i0, hi, hz0, hz1, hz2⟩ := info_parts infoU8
  go_enter Tryz.func70, Tryz.ntmps70
  go_wp2_with (at_builtin; refine wpList_append_X rfl _ _ 73 rfl w.heap.size 5 i0 (.int .u8 0) Tryz.underlying73 hi hz0 hz1 hz2 rfl _ _ _ rfl ((txt_own w l _ (Nat.le_refl _) (by omega)).alloc _) ⟨_, 0, none⟩ 1 1 [.int .u8 128] rfl rfl (news1 _ _ _) (by simp [Value.oneCell']) (by omega) (by simp [txtCells]; omega) ?_)
  intro v1 w1 hown hg
  have H1 : HoldsX w w1 v1 (pad0 l 0) := HoldsX.step (q := l) 128 ⟨txt_own w l _ (Nat.le_refl _) (by omega), txt_below _ _⟩ rfl hown hg
  clear hown hg
  obtain ⟨c, hc⟩ : ∃ c, (119 - l.length % 64) % 64 = c := ⟨_, rfl⟩
  have hc1 : c < 64 := by omega
  have hcm : ∀ k, k ≤ c → ((l.length + 1 + k) % 64 = 56 ↔ k = c) := fun k hk => by omega
  have HC := Lib.hid hc
  have HCM := Lib.hid hcm
  clear hc hcm
  go_wp2_with fail
  go_loopw [3] (fun v wr => ∃ k : Nat, k ≤ c ∧ HoldsX w wr v (pad0 l k)) (fun v _ => match v with | .slice _ n _ => l.length + 65 - n | _ => 0)
  case atStart => exact ⟨0, by omega, H1⟩
  case round =>
    clear H1
    obtain ⟨k, hk, H⟩ := hrel
    obtain ⟨g, cap, rfl, hbg, hgl, hnc, hcm, hcell⟩ := H.own.form
    have hlen := pad0_len l k
    have hiff := HCM.out k hk
    rw [← hlen] at hiff
    by_cases hlt : k < c
    · have t1 : (((pad0 l k).length : Int) % 64 == 56) = false := by rw [beq_eq_false_iff_ne]; omega
      have t2 : (((pad0 l k).length : Int) % 64 != 56) = true := by rw [bne_iff_ne]; omega
      have hml : (pad0 l k).length ≤ 100000000000100 := by omega
      have HLEN := Lib.hid hlen
      clear hlen hiff hcell hcm hnc
      go_wp2_with (at_builtin; refine wpList_append_X rfl _ _ 73 rfl w.heap.size 5 i0 (.int .u8 0) Tryz.underlying73 hi hz0 hz1 hz2 rfl _ _ _ rfl (H.own.alloc _) ⟨_, 0, none⟩ 1 1 [.int .u8 0] rfl rfl (news1 _ _ _) (by simp [Value.oneCell']) (by omega) (by have := H.below.size; simp; omega) ?_)
      intro v2 w2 hown hg
      have H2 := H.step 0 rfl hown hg
      rw [← pad0_succ] at H2
      have hl2 := pad0_len l (k + 1)
      have hl1 := HLEN.out
      have em : v2 = .slice (some ⟨(H2.own.form).choose, 0, none⟩) (pad0 l (k + 1)).length (H2.own.form).choose_spec.choose := (H2.own.form).choose_spec.choose_spec.1
      clear hown hg
      replace H2 := Lib.hid H2
      go_wp2_with fail
      go_roundw
      case rel => exact ⟨k + 1, by omega, H2.out⟩
      case measure => rw [em]; simp only; omega
    · obtain rfl : k = c := by omega
      have t1 : (((pad0 l k).length : Int) % 64 == 56) = true := by rw [beq_iff_eq]; omega
      have t2 : (((pad0 l k).length : Int) % 64 != 56) = false := by simp; omega
      have hml : (pad0 l k).length ≤ 100000000000100 := by omega
      clear hlen hiff hcell hcm hnc HCM
      have hpad : pad0 l k ++ (List.range 8).map (fun i => UInt8.ofNat (8 * l.length / 2 ^ (56 - 8 * i))) = padS l := by
        rw [← HC.out]
        unfold pad0 padS tail64
        simp
      have HPAD := Lib.hid hpad
      clear hpad HC
      go_wp2_with fail
      go_loopw [3, 5] (fun v i wr => ∃ j : Nat, j ≤ 8 ∧ i = .int .i64 (7 - j) ∧ HoldsX w wr v (pad0 l k ++ (List.range j).map fun i => UInt8.ofNat (8 * l.length / 2 ^ (56 - 8 * i)))) (fun _ i _ => (intOf i + 1).toNat)
      case atStart => exact ⟨0, by omega, rfl, by simpa using H⟩
      case round =>
        clear H
        obtain ⟨j, hj, rfl, H⟩ := hrel
        obtain ⟨q, hq⟩ : ∃ q, (pad0 l k ++ (List.range j).map fun i => UInt8.ofNat (8 * l.length / 2 ^ (56 - 8 * i))) = q := ⟨_, rfl⟩
        have hql : q.length ≤ 100000000000200 := by rw [← hq]; simp; omega
        rw [hq] at H
        have HQ := Lib.hid hq
        clear hq
        obtain ⟨g2, cap2, rfl, hbg2, hgl2, hnc2, hcm2, hcell2⟩ := H.own.form
        by_cases hlt8 : j < 8
        · clear hcell2 hcm2 hnc2
          have hx : 8 * (l.length : Int) / 2 ^ (8 * (7 - j)) % 256 = ((UInt8.ofNat (8 * l.length / 2 ^ (56 - 8 * j))).toNat : Int) := by
            rw [show 8 * (7 - j) = 56 - 8 * j by omega]
            have e : (8 * (l.length : Int) / 2 ^ (56 - 8 * j)) = ((8 * l.length / 2 ^ (56 - 8 * j) : Nat) : Int) := by simp
            rw [e]
            generalize 8 * l.length / 2 ^ (56 - 8 * j) = m
            simp
          replace hx := Lib.hid hx
          go_wp2_with (at_builtin; refine wpList_append_X rfl _ _ 73 rfl w.heap.size 5 i0 (.int .u8 0) Tryz.underlying73 hi hz0 hz1 hz2 rfl _ _ _ rfl (H.own.alloc _) ⟨_, 0, none⟩ 1 1 [.int .u8 (8 * (l.length : Int) / 2 ^ (8 * (7 - j)) % 256)] rfl rfl (news1 _ _ _) (by simp [Value.oneCell']) (by omega) (by have := H.below.size; simp; omega) ?_)
          intro v2 w2 hown hg
          have H2 := H.step _ hx.out hown hg
          rw [← HQ.out, List.append_assoc, show (List.range j).map (fun i => UInt8.ofNat (8 * l.length / 2 ^ (56 - 8 * i))) ++ [UInt8.ofNat (8 * l.length / 2 ^ (56 - 8 * j))] = (List.range (j + 1)).map (fun i => UInt8.ofNat (8 * l.length / 2 ^ (56 - 8 * i))) from by rw [List.range_succ, List.map_append]; rfl] at H2
          clear hown hg
          replace H2 := Lib.hid H2
          go_wp2_with fail
          go_roundw
          case rel => exact ⟨j + 1, by omega, by congr 1; omega, H2.out⟩
          case measure => simp [intOf]; omega
        · obtain rfl : j = 8 := by omega
          rw [HPAD.out] at HQ
          obtain rfl := HQ.out
          simp only [show (7 : Int) - ((8 : Nat) : Int) = -1 from rfl]
          go_wp2_with fail
          go_ret
          exact ⟨g2, cap2, rfl, H.own, H.below⟩
end Go.Proofs.YtpmmjomejackkaaGreatDoor
end
section
set_option linter.unusedSimpArgs false
set_option linter.unusedVariables false
namespace Go.Proofs.YtpmmjomejackkaaGreatDoor
open BigFrame Go.RowKit Go.Phx Go.Shelf
attribute [local go_sem] Oper.semAt_some

theorem rtake_lit (v : St) (g o c : Nat) (l : List UInt8) (hl : l.length = 64) (w : World) (hb : BytesAt w g o l) (ho : o + 64 ≤ 9223372036854775807) (hc : 64 ≤ c) :
    Calls Tryz.prog 71 #[.agg #[.int .u32 (vw v.a), .int .u32 (vw v.b), .int .u32 (vw v.c), .int .u32 (vw v.d), .int .u32 (vw v.e), .int .u32 (vw v.f), .int .u32 (vw v.g), .int .u32 (vw v.h)], .slice (some ⟨g, o, none⟩) 64 c] w
      (Ret w (.agg #[.int .u32 (vw (takeB v l).a), .int .u32 (vw (takeB v l).b), .int .u32 (vw (takeB v l).c), .int .u32 (vw (takeB v l).d), .int .u32 (vw (takeB v l).e), .int .u32 (vw (takeB v l).f), .int .u32 (vw (takeB v l).g), .int .u32 (vw (takeB v l).h)])) :=
  rtake_calls v g o c l hl w hb ho hc
theorem ownX_bytes {w : World} {base : Nat} {g cap : Nat} {p : List UInt8} (h : OwnX w base 5 (.slice (some ⟨g, 0, none⟩) p.length cap) p.length (p.map bv)) (o : Nat) (n : Nat) (hn : o + n ≤ p.length) : BytesAt w g o ((p.drop o).take n) := by
  obtain ⟨g', cap', hv, _, hlt, _, _, hc⟩ := h.form
  injection hv with hv
  injection hv with hv
  injection hv with hv
  subst hv
  refine ⟨hlt, fun j hj => ?_⟩
  have hj' : j < n := by simp at hj; omega
  rw [hc (o + j) (bv (p.getD (o + j) 0)) (by rw [List.getElem?_map, List.getElem?_eq_getElem (by omega), List.getD, List.getElem?_eq_getElem (by omega)]; rfl), vw_bw]
  unfold bv
  congr 4
  rw [List.getD, List.getD, List.getElem?_take_of_lt hj', List.getElem?_drop]

theorem grown_put8 (w : World) (b : Nat) (x0 x1 x2 x3 x4 x5 x6 x7 : Value) : w.grownBy ((((((((w.setCell ⟨b, 0, none⟩ x0).setCell ⟨b, 1, none⟩ x1).setCell ⟨b, 2, none⟩ x2).setCell ⟨b, 3, none⟩ x3).setCell ⟨b, 4, none⟩ x4).setCell ⟨b, 5, none⟩ x5).setCell ⟨b, 6, none⟩ x6).setCell ⟨b, 7, none⟩ x7) (some b) :=
  grown_set (grown_set (grown_set (grown_set (grown_set (grown_set (grown_set (grown_set (World.grownBy.refl w _))))))))
theorem news4 (W : World) (t : TypeId) (a b c d : Value) : ∀ j u, [a, b, c, d][j]? = some u → (W.alloc (.cells #[a, b, c, d] t)).drew.cell? ((⟨W.heap.size, 0, none⟩ : Addr).add j) = some u := by
  intro j u hu
  have hK := (Blk.new0 W t #[a, b, c, d]).drew
  rw [Addr.add_mid, hK.cell, Nat.zero_add]
  simpa using hu
theorem bytesW_bv (x : Wd) : (bytesW x).map bv = [.int .u8 (IntKind.u8.wrap (vw x / 16777216)), .int .u8 (IntKind.u8.wrap (vw x / 65536)), .int .u8 (IntKind.u8.wrap (vw x / 256)), .int .u8 (IntKind.u8.wrap (vw x))] := by
  have e : ∀ m : Nat, ((UInt8.ofNat m).toNat : Int) = IntKind.u8.wrap (m : Int) := fun m => by
    rw [IntKind.wrap_u8']
    simp
  unfold bytesW bv vw
  simp only [List.map_cons, List.map_nil, e]
  rfl
theorem words_all (v : St) : ((wS v).take 8).flatMap bytesW = v.bytes := rfl
theorem cS_lit (v : St) : #[.int .u32 (vw v.a), .int .u32 (vw v.b), .int .u32 (vw v.c), .int .u32 (vw v.d), .int .u32 (vw v.e), .int .u32 (vw v.f), .int .u32 (vw v.g), .int .u32 (vw v.h)] = cS v := rfl
set_option maxRecDepth 100000 in
set_option maxHeartbeats 4000000 in
theorem rsum_calls (l : List UInt8) (hl : l.length ≤ 100000000000000) (w : World) : Calls Tryz.prog 55 #[.string (bs l)] w (Ret w (.string (bs (sha l)))) := by
  obtain ⟨i0, hi, hz0, hz1, hz2⟩ := info_parts infoU8
  go_enter Tryz.func55, Tryz.ntmps55
  go_wp2_with fail
  refine (padded_calls l hl _).mono ?_
  rintro e w1 ⟨g, cap, rfl, hown, hB⟩
  have hgb : w.heap.size + 1 ≤ g := by
    obtain ⟨g', cap', hv, hb, _⟩ := hown.form
    injection hv with hv
    injection hv with hv
    injection hv with hv
    subst hv
    simpa using hb
  have hnc : (padS l).length ≤ cap := by
    obtain ⟨g', cap', hv, _, _, hn, _⟩ := hown.form
    injection hv with _ _ hv
    omega
  have hpl := padS_len l
  have hpm : (padS l).length ≤ 100000000000200 := by unfold padS tail64; simp; omega
  have TA := Lib.hid (takes_all l)
  obtain ⟨p, hp⟩ : ∃ p, padS l = p := ⟨_, rfl⟩
  rw [hp] at hown hnc hpl hpm TA ⊢
  clear hp
  have hown1 : OwnX w1 (w.heap.size + 1) 5 (.slice (some ⟨g, 0, none⟩) p.length cap) p.length (p.map bv) := by simpa using hown
  have OW := Lib.hid hown1
  clear hown hown1
  (have HBn : Below w.heap.size w w1 := Below.on hB (by repeat (first | assumption | exact Below.refl _ _ | refine Below.setCell ?_ (by first | exact Nat.le_refl _ | (simp; done) | omega | (simp; omega)) _ | refine Below.alloc ?_ (by first | exact Nat.le_refl _ | (simp; done) | omega | (simp; omega)) _ | refine below_drewN ?_ _ | refine Below.drew ?_ | refine Below.on (by assumption) ?_ | refine Below.via (by assumption) (by first | exact Nat.le_refl _ | (simp; done) | omega | (simp; omega)) ?_)); have N0 := Lib.hid (Blk.below (g := w.heap.size) (by repeat (first | with_reducible exact Blk.new0 _ _ _ | with_reducible exact Blk.new1 _ _ _ _ | with_reducible exact Blk.new2 _ _ _ _ _ | with_reducible exact Blk.new3 _ _ _ _ _ _ | with_reducible exact Blk.new4 _ _ _ _ _ _ _ | with_reducible exact Blk.newS1 _ _ _ _ _ | with_reducible exact Blk.newS2 _ _ _ _ _ _ _ | with_reducible exact Blk.newS3 _ _ _ _ _ _ _ _ _ | with_reducible apply Blk.set_ | with_reducible apply Blk.alloc | with_reducible apply Blk.drewN | with_reducible apply Blk.drew | (with_reducible apply Blk.over2; first | assumption | omega))) hB); (try simp only [List.setIfInBounds_toArray, List.set_cons_succ, List.set_cons_zero] at N0); (try clear HB); clear hB; have HB := HBn; clear HBn; have HZw1 := HB.size; have K0 := N0; clear N0; have k0 := Blk.cell K0.out; have f0 := Blk.free K0.out; have l0 := Blk.lt K0.out; have m0 := Nat.le_of_lt l0)
  go_wp2_with fail
  go_loopw [5] (fun i wr => ∃ m : Nat, 64 * m ≤ p.length ∧ i = .int .i64 ((64 * m : Nat) : Int) ∧ Blk wr w.heap.size 80 (cS (takes (chunks m p))) ∧ OwnX wr (w.heap.size + 1) 5 (.slice (some ⟨g, 0, none⟩) p.length cap) p.length (p.map bv) ∧ Below w.heap.size w wr)
    (fun i _ => (p.length - intOf i).toNat)
  case atStart => exact ⟨0, by omega, rfl, K0.out, OW.out, HB⟩
  case round =>
    clear K0 k0 f0 l0 m0 OW HB HZw1
    obtain ⟨m, hm, rfl, K0, OW, HB⟩ := hrel
    have HBY := fun h => ownX_bytes OW (64 * m) 64 h
    have HS := Lib.hid (takes_snoc (chunks m p) ((p.drop (64 * m)).take 64))
    rw [← chunks_succ] at HS
    obtain ⟨k, hk⟩ : ∃ k, 64 * m = k := ⟨_, rfl⟩
    rw [hk] at HBY hm HS ⊢
    have HK := Lib.hid hk
    by_cases hlt : k < p.length
    · have hk64 : k + 64 ≤ p.length := by omega
      have hby := Lib.hid (HBY hk64)
      have hyl : ((p.drop k).take 64).length = 64 := by simp; omega
      clear hk HBY
      generalize takes (chunks m p) = V at *
      generalize (p.drop k).take 64 = y at *
      unfold cS at K0
      replace K0 := Lib.hid K0
      replace OW := Lib.hid OW
      have HYL := Lib.hid hyl
      clear hyl
      (have k0 := Blk.cell K0.out; have f0 := Blk.free K0.out; have l0 := Blk.lt K0.out; have m0 := Nat.le_of_lt l0)
      have e1 : IntKind.i64.wrap ((k : Int) + 64) = (k : Int) + 64 := IntWalk.i64_in _ (by omega)
      go_wp2_with fail
      (refine wp_region_later_tail 7 (by kernel_rfl) (by kernel_rfl) ?_; simp only [List.take_succ_cons, List.take_zero, List.drop_succ_cons, List.drop_zero]; (repeat (go_big_quiet_step ((go_at_call 71; exact lq (rtake_lit V g k _ y HYL.out _ (hby.out.from (Later.below _) hby.out.1 (Later.below _).size) (by omega) (by omega)))))); refine wpQuiet_nil ?_; intro w' hB)
      clear k0 f0 l0 m0
      replace K0 := Lib.hid (K0.out.below hB)
      replace OW := Lib.hid (OW.out.below hB)
      replace HB := Below.on hB HB
      clear hB e1
      (have k0 := Blk.cell K0.out; have f0 := Blk.free K0.out; have l0 := Blk.lt K0.out; have m0 := Nat.le_of_lt l0)
      go_wp2_with fail
      have hK := HK.out
      go_roundw
      case rel => exact ⟨m + 1, by omega, by congr 1; omega, by rw [HS.out, ← cS_lit]; exact blk_put8 _ _ _ _ _ _ _ _ K0.out, OW.out.kept (grown_put8 w' w.heap.size _ _ _ _ _ _ _ _) (by simp [Value.ownBlock]; omega), below_put8 (Nat.le_refl _) _ _ _ _ _ _ _ _ HB⟩
      case measure => simp [intOf]; omega
    · have hmT : m = p.length / 64 := by omega
      rw [hmT] at K0
      obtain ⟨V, hV⟩ : ∃ V, takes (chunks (p.length / 64) p) = V := ⟨_, rfl⟩
      rw [hV] at K0 TA
      clear hV HS HBY OW hk HK hmT
      rw [cS_words] at K0
      replace K0 := Lib.hid K0
      go_wp2_with fail
      go_loopw [6, 7] (fun v i wr => ∃ k : Nat, k ≤ 8 ∧ i = .int .i64 k ∧ wr.ownsRow (w.heap.size + 1) 5 1 v (4 * k) ((((wS V).take k).flatMap bytesW).map bv) ∧ Blk wr w.heap.size 80 (cw (wS V)) ∧ Below w.heap.size w wr) (fun _ i _ => (8 - intOf i).toNat)
      case atStart => exact ⟨0, by omega, rfl, World.ownsRow_nil _ _ _ _, K0.out, HB⟩
      case round =>
        clear K0 HB
        obtain ⟨k, hk, rfl, OWN, K0, HB⟩ := hrel
        by_cases hlt : k < 8
        · have g0 := cw_get (L := wS V) (i := k) (by simp [wS]; omega)
          have hq : ((wS V).take (k + 1)).flatMap bytesW = ((wS V).take k).flatMap bytesW ++ bytesW ((wS V).getD k 0) := by
            rw [List.take_add_one, List.getElem?_eq_getElem (show k < (wS V).length by simp [wS]; omega), List.flatMap_append, List.getD, List.getElem?_eq_getElem (show k < (wS V).length by simp [wS]; omega)]
            simp
          have HQ := Lib.hid hq
          clear hq
          generalize ((wS V).take k).flatMap bytesW = q at *
          generalize (wS V).getD k 0 = x at *
          have v1 := vw_nonneg x
          replace OWN := Lib.hid OWN
          replace K0 := Lib.hid K0
          (have k0 := Blk.cell K0.out; have f0 := Blk.free K0.out; have l0 := Blk.lt K0.out; have m0 := Nat.le_of_lt l0)
          go_wp2_with fail
          have hc0 := (k0 k).trans g0
          have hne : some w.heap.size ≠ u6.ownBlock := (fun e => by have := (OWN.out.lt _ e.symm).1; omega)
          go_region_held3 (fun w' => w'.cell? ⟨w.heap.size, k, none⟩ = some (.int .u32 (vw x))) (first | go_keep | exact (World.cell?_of_block (a := ⟨w.heap.size, k, none⟩) (hgrow2.block _ (by simp; omega) hne)).trans (by simp (maxDischargeDepth := 9) [go_sem, *])) ((refine step_append_lies _ (by rfl) _ _ _ (by rfl) (w.heap.size + 1) 5 i0 (.int .u8 0) 1 1 Tryz.underlying73 hi hz0 hz1 hz2 (by rfl) (by omega) _ (4 * k) (q.map bv) (by rfl) (OWN.out.alloc _).drew ⟨_, 0, none⟩ 4 4 _ (by rfl) (by rfl) (news4 _ _ _ _ _ _) (by simp [Value.oneCell']) (by omega) (by unfold maxLen; omega) (by omega) (by have := HB.size; simp; omega) (wr.heap.size + 1) (by simp) ?_; intro g2 cap2 w2 hown2 hgrow2 hat2 hlt2))
          have hown3 := hown2
          rw [← bytesW_bv, ← List.map_append, ← HQ.out] at hown3
          have K1 := ((K0.out.alloc (.cells #[.int .u8 (IntKind.u8.wrap (vw x / 16777216)), .int .u8 (IntKind.u8.wrap (vw x / 65536)), .int .u8 (IntKind.u8.wrap (vw x / 256)), .int .u8 (IntKind.u8.wrap (vw x))] 5)).drew).grown hgrow2 hne
          have HB2 := ((HB.alloc HB.size (.cells #[.int .u8 (IntKind.u8.wrap (vw x / 16777216)), .int .u8 (IntKind.u8.wrap (vw x / 65536)), .int .u8 (IntKind.u8.wrap (vw x / 256)), .int .u8 (IntKind.u8.wrap (vw x))] 5)).drew).grown hgrow2 (by have := HB.size; simp; omega) (fun j e => by have := (OWN.out.lt _ e).1; omega)
          clear hown2 hgrow2 hat2 hc0
          replace hown3 := Lib.hid hown3
          go_wp2_with fail
          go_roundw
          case rel => exact ⟨k + 1, by omega, by go_num, hown3.out, K1, HB2⟩
          case measure => simp [intOf]; omega
        · obtain rfl : k = 8 := by omega
          rw [words_all, TA.out] at OWN
          obtain ⟨g3, cap3, rfl⟩ := ownsRow_succ (k := 31) OWN
          have hcv := conv_cells wr g3 (sha l) 32 cap3 (sha_len _) (own_cells OWN)
          clear OWN K0
          simp only [show ((8 : Nat) : Int) = 8 from rfl]
          go_wp2_with fail
          go_ret
          exact ⟨rfl, HB⟩
end Go.Proofs.YtpmmjomejackkaaGreatDoor
end
section
namespace Go.Proofs.YtpmmjomejackkaaGreatDoor
open Go.ChangeShapes Go.WideShapes Go.ChangeAt Go.RowKit Go.Joins Go.Phx
set_option maxRecDepth 100000

theorem gK : Tryz.prog.globalNamed "pharos/sha.k" = some 0 := by kernel_rfl
theorem gKType : (Tryz.prog.globals[0]?).map (·.type) = some 94 := by kernel_rfl
theorem cellsK : Tryz.prog.cellsOf 94 = 64 := by kernel_rfl
theorem cellsU32 : Tryz.prog.cellsOf 79 = 1 := by kernel_rfl
theorem table {W : World} (h : laidMetH Tryz.prog [("pharos/sha.k", Rows.laid_pharos_sha_k)] W) : Lib.TabIs Tryz.prog W "pharos/sha.k" .u32 (kTab.map vw) :=
  Lib.tabIs_of_head (rest := []) gK gKType Tryz.underlying94 Tryz.underlying79 cellsU32 cellsK h
theorem hasK_of {W : World} (h : laidMetH Tryz.prog [("pharos/sha.k", Rows.laid_pharos_sha_k)] W) : HasK W := by
  have hc : ∀ i, i < 64 → W.cell? ⟨0, i, none⟩ = some (.int .u32 (vw (kTab.getD i 0))) := fun i hi => by
    rw [(table h).cell gK i (by rw [List.length_map]; exact hi)]
    simp [List.getD, List.getElem?_eq_getElem (show i < kTab.length from hi)]
  exact ⟨hc, World.block_lt_of_cell? _ _ (hc 0 (by decide))⟩
noncomputable def laidWorld (os : Os) : World :=
  { World.holding Tryz.prog os ⟨#[], #[], []⟩ with heap := (World.holding Tryz.prog os ⟨#[], #[], []⟩).heap.modify 0 fun
      | .cells _ t frozen => .cells (cw kTab) t frozen
      | o => o }

section
variable {H : Type}
theorem bulk_part {d : DataW H} {l : List (DataW H)} (h : d ∈ l) : Rows.uptoBulk d ≤ Rows.uptoBulkAll l := by
  induction l with
  | nil => cases h
  | cons x r ih =>
    simp only [Rows.uptoBulkAll]
    rcases List.mem_cons.1 h with rfl | e
    · omega
    · have := ih e
      omega
theorem bulk_of {ds gs : List (DataW H)} (h : Rows.uptoSmall H (ds ++ gs) = true) {d : DataW H} (hd : d ∈ ds) : Rows.uptoBulk d ≤ 1048576 :=
  Nat.le_trans (bulk_part (List.mem_append_left gs hd)) (of_decide_eq_true h)
theorem bulk_string {l : List UInt8} (h : Rows.uptoBulk (DataW.lit (H := H) (.string l)) ≤ 1048576) : l.length ≤ 1048576 := by
  simp only [Rows.uptoBulk] at h
  omega
theorem bulk_strs (xs : List ByteArray) : Rows.uptoBulkAll (H := H) (strs xs) = xs.length + ((xs.map fun s => s.data.toList).flatten).length := by
  unfold strs
  induction xs with
  | nil => rfl
  | cons x xs ih =>
    simp only [List.map_cons, Rows.uptoBulkAll, Rows.uptoBulk, ih, List.length_cons, List.flatten_cons, List.length_append]
    omega
theorem bulk_slice {xs : List ByteArray} {d : DataW H} (hd : d = .nil ∧ xs = [] ∨ ∃ rest, d = .slice (strs xs) rest) (h : Rows.uptoBulk d ≤ 1048576) : xs.length + ((xs.map fun s => s.data.toList).flatten).length ≤ 1048576 := by
  rcases hd with ⟨rfl, rfl⟩ | ⟨rest, rfl⟩
  · simp
  · simp only [Rows.uptoBulk] at h
    rw [bulk_strs] at h
    omega
end
end Go.Proofs.YtpmmjomejackkaaGreatDoor
end
