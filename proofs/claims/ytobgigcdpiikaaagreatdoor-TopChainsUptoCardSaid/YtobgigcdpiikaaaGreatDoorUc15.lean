/- Plain laws and walks, each by its own conditions. -/
import Derived.Test.YtobgigcdpiikaaaGreatDoorUc14
import Derived.Test.YtobgigcdpiikaaaGreatDoorCards
import Derived.Test.YtobgigcdpiikaaaGreatDoorTie
import Derived.Deep.DeepHandedRow
import Derived.Lib.LaidTab
import Derived.SevenTiedAt
import Derived.Deep.MidRow
set_option linter.unusedSimpArgs false
set_option linter.unusedVariables false
set_option maxRecDepth 100000
set_option maxHeartbeats 16000000
namespace Go.Proofs.YtobgigcdpiikaaaGreatDoor
section
open BigFrame Go.RowKit Go.Phx Go.Shelf
attribute [local go_sem] Oper.semAt_some
theorem Txts.below{w w':World}{A:Option Addr}{L:List Bytes} (h:Txts w A L) (hB:Below w.heap.size w w'):Txts w' A L:=Strs.below h hB
theorem wpListIn_append_txt{F:Fence}{nF:Nat}{ops:Array Oper}{rest:List Oper}{o:Oper}{a:Act}{w:World}{Q:Exit→Act→World→Prop} (hgd:o.guard=none) (s x:Operand)
  (ho:o.op=.call { callee:=.builtin .append,args := #[s,x],argTypes := #[31, 31] }) (base:Nat) (v:Value) (L:List Bytes) (hs:a.eval s=v) (R:LRow base w v L)
  (u:Bytes) (ad:Addr) (hx:a.eval x=.slice (some ad) 1 1) (hc:w.cell? (ad.add 0)=some (tv u)) (hl:L.length≤1000000000) (hb:base≤w.heap.size)
  (h:∀ v' w',LRow base w' v' (L ++ [u])→w.grownBy w' v.ownBlock→(v'.ownBlock=v.ownBlock∨v'.ownBlock=some w.heap.size)→wpListIn F nF Tryz.prog ops Q rest (a.put o.dst v') w'):wpListIn F nF Tryz.prog ops Q (o :: rest) a w:=by
 obtain⟨i0,hi,hz0,hz1,hz2⟩:=info_parts infoStr
 refine wpListIn_append_own_at w hgd s x 31 ho base 9 i0 (.string ByteArray.empty) 1 16 Tryz.underlying31 hi hz0 hz1 hz2 rfl (by decide) v L.length (L.map tv) hs R ad 1 1 [tv u] hx rfl (fun j y hy=>by
  match j,hy with
  | 0,hy=>simp at hy;subst hy;exact hc) (by simp[Value.oneCell',tv]) (by unfold maxLen;omega) (by omega) hb ?_
 intro v' w' h2 h3 _ h5
 refine h v' w' ?_ h3 h5
 unfold LRow
 rw[List.length_append,List.map_append]
 exact h2
end
section
open Go.ChangeShapes Go.WideShapes Go.ChangeAt Go.RowKit Go.Joins Go.Phx
set_option maxRecDepth 100000
theorem gK:Tryz.prog.globalNamed "pharos/sha.k" = some 0 := by kernel_rfl
theorem gKType:(Tryz.prog.globals[0]?).map (·.type)=some 223 := by kernel_rfl
theorem cellsK:Tryz.prog.cellsOf 223 = 64:=by kernel_rfl
theorem cellsU32:Tryz.prog.cellsOf 175 = 1:=by kernel_rfl
theorem table{W:World} (h:laidMetH Tryz.prog [("pharos/sha.k", Rows.laid_pharos_sha_k)] W):Lib.TabIs Tryz.prog W "pharos/sha.k" .u32 (kTab.map vw) :=
 Lib.tabIs_of_head (rest:=[]) gK gKType Tryz.underlying223 Tryz.underlying175 cellsU32 cellsK h
theorem hasK_of{W:World} (h:laidMetH Tryz.prog [("pharos/sha.k", Rows.laid_pharos_sha_k)] W):HasK W:=by
 have hc:∀ i,i<64→W.cell? ⟨0, i,none⟩=some (.int .u32 (vw (kTab.getD i 0))):=fun i hi=>by
  rw[(table h).cell gK i (by rw[List.length_map];exact hi)]
  simp[List.getD,List.getElem?_eq_getElem (show i<kTab.length from hi)]
 exact⟨hc,World.block_lt_of_cell? _ _ (hc 0 (by decide))⟩
section
variable {H:Type}
theorem bulk_part{d:DataW H}{l:List (DataW H)} (h:d∈l):Rows.uptoBulk d≤Rows.uptoBulkAll l:=by
 induction l with
 | nil=>cases h
 | cons x r ih =>
  simp only[Rows.uptoBulkAll]
  rcases List.mem_cons.1 h with rfl|e
  ·omega
  ·have:=ih e
   omega
theorem bulk_of{ds gs:List (DataW H)} (h:Rows.uptoSmall H (ds ++ gs)=true) {d:DataW H} (hd:d∈ds):Rows.uptoBulk d≤1048576 :=
 Nat.le_trans (bulk_part (List.mem_append_left gs hd)) (of_decide_eq_true h)
theorem bulk_string{l:List UInt8} (h:Rows.uptoBulk (DataW.lit (H:=H) (.string l))≤1048576):l.length≤1048576:=by
 simp only[Rows.uptoBulk]at h
 omega
end
end
section
open Go.RowKit Go.Phx Go.Shelf
section
variable {P:Program}{w:World}{g:Nat}{t ty:TypeId}{cs:Array Value}{pre mid post new:List Value}{o:Nat}{d:TypeDesc}
theorem Blk.part(h:Blk w g t cs) (e:cs.toList=pre ++ (mid ++ post)) (ho:pre.length=o):w.rangeAt g o mid:=fun j v hv=>by
 subst ho
 have hj:=(List.getElem?_eq_some_iff.1 hv).1
 rw[h.cell,←Array.getElem?_toList,e,List.getElem?_append_right (by omega),List.getElem?_append_left (by omega),show pre.length+j - pre.length=j by omega,hv]
theorem run_load_part(h:Blk w g t cs) (pre mid post:List Value) (e:cs.toList=pre ++ (mid ++ post)) (ho:pre.length=o) (hu:P.underlying ty=some d) (hd:d.isRow=true) (hi:(P.info? ty).map (·.size)=some mid.length) :
  (Instr.loadAt ty (.pointer (some ⟨g,o,none⟩))).run P w=.ok (.agg mid.toArray) w:=run_loadAt_mid w g o ty mid d (h.part e ho) hu hd hi
theorem set_row(h:Blk w g t cs) (i:Nat) (v:Value):w.setCell ⟨g,i,none⟩ v=setRow w g t (cs.setIfInBounds i v):=by
 have:=row_set w g t cs i v h.lt
 rwa [row_of w g t cs h]at this
theorem cells_part(h:Blk w g t cs) (e:cs.toList=pre ++ (mid ++ post)) (ho:pre.length=o):∀ (new:List Value),new.length=mid.length→w.setCells g o new=setRow w g t (pre ++ (new ++ post)).toArray:=by
 subst ho
 have key:∀ (new:List Value) (mid pre:List Value) (cs:Array Value) (W:World),new.length=mid.length→cs.toList=pre ++ (mid ++ post)→Blk W g t cs→W.setCells g pre.length new=setRow W g t (pre ++ (new ++ post)).toArray:=by
  intro new
  induction new with
  | nil =>
   intro mid pre cs W hl e hW
   obtain rfl:=List.eq_nil_of_length_eq_zero hl.symm
   have e2:(pre ++ ([] ++ post)).toArray=cs:=by rw[←e]
   rw[e2]
   exact(row_of W g t cs hW).symm
  | cons v r ih =>
   intro mid pre cs W hl e hW
   match mid,hl with
   | m :: mid,hl =>
    rw[World.setCells,set_row hW]
    have e2:(cs.setIfInBounds pre.length v).toList=(pre ++ [v]) ++ (mid ++ post):=by
     rw[Array.toList_setIfInBounds,e,List.set_append_right _ _ (Nat.le_refl _),Nat.sub_self]
     simp
    have hl2:r.length=mid.length:=by simpa using hl
    have:=ih mid (pre ++ [v]) (cs.setIfInBounds pre.length v) (setRow W g t (cs.setIfInBounds pre.length v)) hl2 e2 (Blk.row hW.lt)
    rw[show(pre ++ [v]).length=pre.length+1 by simp]at this
    rw[this]
    simp only[setRow,World.putObj,List.append_assoc,List.cons_append,List.nil_append]
    congr 1
    apply Array.ext_getElem?
    intro k
    by_cases hk:k=g
    ·subst hk;simp[hW.lt]
    ·simp[Ne.symm hk]
 exact fun new hn=>key new mid pre cs w hn e h
theorem run_store_part(h:Blk w g t cs) (pre mid post:List Value) (e:cs.toList=pre ++ (mid ++ post)) (ho:pre.length=o) (new:Array Value) (hn:new.size=mid.length) (hi:(P.info? ty).map (·.size)=some new.size) (h1:new.all (·.oneCell')=true) :
  (Instr.storeAt ty (.pointer (some ⟨g,o,none⟩)) (.agg new)).run P w=.ok () (setRow w g t (pre ++ (new.toList ++ post)).toArray):=by
 rw[run_storeAt_mid w g o ty new (fun j hj=>?_) hi h1,cells_part h e ho new.toList (by simpa using hn)]
 rw[h.cell,h.free]
 have:o+j<cs.size:=by
  have:=congrArg List.length e
  simp at this
  omega
 simp[this]
end
end
end Go.Proofs.YtobgigcdpiikaaaGreatDoor
