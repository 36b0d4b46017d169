/- A tree's levels, as an iterator with a state of its own. -/
import Derived.Test.YtpmmjomejackkaaDoorSszC
set_option linter.unusedSimpArgs false
set_option linter.unusedVariables false
namespace Go.Proofs.YtpmmjomejackkaaDoor
open BigFrame Go.RowKit Go.Phx Go.Shelf
attribute [local go_sem] Oper.semAt_some

theorem levels_stops (n : Nat) (hn : 1 ≤ n) (b : Nat) (A0 : Option Addr) (c0 : Nat) (c : List Bytes) (d : Nat) (hcl : c.length ≤ 1024) (hall : ∀ x ∈ c, x.length = 32) (hd : d ≤ 10) (w : World) (hk : HasK w)
    (hcs : Txts w A0 c) (hK0 : Blk w b 22 #[.slice A0 c.length c0]) (hK1 : Blk w (b + 1) 3 #[.int .i64 d]) :
    SeqSt Fence.wide n Tryd.prog 108 #[.pointer (some ⟨b, 0, none⟩), .pointer (some ⟨b + 1, 0, none⟩)] (fun y : Value × Bytes => #[y.1, .string (bs y.2)]) (LevAt w.heap.size c d) (LevKp b) (LevAb w.heap.size) (.slice none 0 0) (fun xs => xs.length = d + 1) (fun _ => True) w :=
  fun lp J Jx W hW hJ hJx hY h0 => levels1_in n hn lp b w.heap.size A0 c0 c d hcl hall hd J Jx hJ hJx hY W hk.2 hW.size (hk.on hW) (Strs.below hcs hW) (hK0.below hW) (hK1.below hW) h0
theorem levels_in (n : Nat) (A : Option Addr) (m c0 : Nat) (d : Int) (w : World) :
    CallsIn Fence.wide n Tryd.prog 69 #[.slice A m c0, .int .i64 d] w fun e w' => e = .returned (.func (.func 108) #[] #[.pointer (some ⟨w.heap.size, 0, none⟩), .pointer (some ⟨w.heap.size + 1, 0, none⟩)]) ∧
      w' = (w.alloc (.cells #[.slice A m c0] 22)).alloc (.cells #[.int .i64 d] 3) := by
  refine callsIn_of_wp Tryd.func69 rfl trivial ?_ rfl
  simp only [Tryd.ntmps69, List.size_toArray, List.length_cons, List.length_nil, Nat.reduceAdd, Nat.reduceSub, Array.replicate_succ, Array.replicate_zero, List.push_toArray, List.append_toArray, List.nil_append, List.cons_append]
  gi_wp2
  go_ret
  exact ⟨rfl, rfl⟩
/-- what the range asks of the iterator's own words -/
theorem levKp_put (w : World) (b : Nat) (hk : 0 < w.heap.size) (x : Value) (W : World) (l : Nat) (o o' : Obj) (hl : w.heap.size ≤ l) (h1 : W.heap[l]? = some o) (h2 : o.isCells = false) : LevKp b x W (W.putObj l o') := by
  refine ⟨by simp, fun h => HasK.grown h (grownBy_putObj' W l o') (by intro e; injection e with e; omega), fun j hj cs t fz hx => ?_⟩
  have hne : j ≠ l := by
    intro e
    subst e
    rw [h1] at hx
    injection hx with hx
    subst hx
    cases h2
  exact (World.putObj_heap_other hne).trans hx
theorem levAb_keeps (base : Nat) (x : Value) (A : World) (y : Value) (B : World) (k : Nat) (o : Obj) (h : LevAb base x A y B) (hA : A.heap[k]? = some o) (ho : o.isCells = false) : B.heap[k]? = some o := by
  refine (h.1.block k (Array.getElem?_eq_some_iff.1 hA).1 (fun e => ?_)).trans hA
  obtain ⟨_, cs, t, fz, hx⟩ := h.2.2 k e.symm
  rw [hA] at hx
  injection hx with hx
  subst hx
  cases ho
theorem levAt_put (base : Nat) (c : List Bytes) (d : Nat) (pre : List (Value × Bytes)) (y : Value × Bytes) (x : Value) (W : World) (l : Nat) (o o' : Obj) (h : LevAt base c d pre y x W) (h1 : W.heap[l]? = some o) (h2 : o.isCells = false) : LevAt base c d pre y x (W.putObj l o') := by
  obtain ⟨a1, a2, a3, a4⟩ := h
  refine ⟨a1, a2, a3, a4.1, ?_⟩
  rcases a4.2 with h0 | ⟨g, cap, cur, e, hb, hg, r⟩
  · exact .inl h0
  · refine .inr ⟨g, cap, cur, e, hb, (World.putObj_heap_other (fun e => ?_)).trans hg, r⟩
    subst e
    rw [h1] at hg
    injection hg with hg
    subst hg
    cases h2
end Go.Proofs.YtpmmjomejackkaaDoor
