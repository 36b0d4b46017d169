/- Two names. -/
import Derived.Lib.Hide
import Derived.KernelRfl
namespace Go
theorem Z{p:Prop}(h:p):RowKit.Hid p:=h
theorem jA{α:Type}{a:List α}{i:Nat}(h:i<a.toArray.size):a.toArray[i]=a[i]'(by simpa using h):=rfl
theorem jB{α:Type}(a:List α)(i:Nat)(v:α):a.toArray.setIfInBounds i v=(a.set i v).toArray:=List.setIfInBounds_toArray a i v
theorem jC{α:Type}{x:α}{a:List α}{i:Nat}{v:α}:(x::a).set (i+1) v=x::a.set i v:=rfl
theorem jD{α:Type}{x:α}{a:List α}{v:α}:(x::a).set 0 v=v::a:=rfl
theorem jE{α:Type}{a:α}{b:List α}{i:Nat}(h:i+1<(a::b).length):(a::b)[i+1]=b[i]'(Nat.lt_of_succ_lt_succ h):=rfl
theorem jF{α:Type}{a:α}{b:List α}(h:0<(a::b).length):(a::b)[0]=a:=rfl
theorem U{α:Type}{a b:α}(h:a=b:=by kernel_rfl):a=b:=h
end Go
