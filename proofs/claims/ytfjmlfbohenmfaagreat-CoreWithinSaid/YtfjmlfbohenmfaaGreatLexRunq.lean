/-
 The walk of run: a run of bytes.
-/
import Derived.Test.YtfjmlfbohenmfaaGreatLexCharq
import Derived.Test.YtfjmlfbohenmfaaGreatLexSymq
namespace Go.Proofs.YtfjmlfbohenmfaaGreat
open Go.RowKit Go.Sort
namespace Lx
def runW(w rest:List UInt8):Res:=
 if w=[35,102]then .tok ⟨10,0,[]⟩ rest
 else if w=[35,116]then .tok ⟨10,1,[]⟩ rest
 else if w=[46]then .tok ⟨8,0,[]⟩ rest
 else if figure (w.headD 0)||((w.headD 0==45||w.headD 0==43)&&decide (1<w.length)&&figure (pk w 1))then
  if(Fx.parse w).2=0 then .tok ⟨9,(Fx.parse w).1,[]⟩ rest
  else if(Fx.parse w).2=5 then .err 30 else .err (Fx.parse w).2
 else if symbol w then .tok ⟨13,0,w⟩ rest
 else .err 30
theorem run_eq(t:List UInt8):run t=runW (t.takeWhile fun c=> !ends c) (t.dropWhile fun c=> !ends c):=rfl
theorem tw_take(f:UInt8→Bool)(l:List UInt8)(n:Nat)(h:(l.takeWhile f).length=n):l.takeWhile f=l.take n∧l.dropWhile f=l.drop n:=by
 have e:=List.takeWhile_append_dropWhile (p:=f) (l:=l);constructor
 ·conv=>rhs;rw[←e]
  rw[List.take_append_of_le_length (by omega),List.take_of_length_le (by omega)]
 ·conv=>rhs;rw[←e]
  rw[List.drop_append_of_le_length (by omega),List.drop_of_length_le (by omega)]
  rfl
theorem run_ext(s:ByteArray)(b n:Nat)(x:ByteArray)(hx:s.extract b (b+n)=x)(hn:b+n≤s.size)(hin:∀j,j<n→ends (pk (tl s b) j)=false)(hout:ends (pk (tl s b) n)=true):
  run (tl s b)=runW x.data.toList (tl s (b+n)):=by
 have hl:((tl s b).takeWhile fun c=> !ends c).length=n:=by
  rw[run_len _ s b (b+n) (by omega) hn (fun j h1 h2=>by
   have:=hin (j - b) (by omega);rw[pk_in s b (j - b) (by omega)]at this;simp only[show b+(j - b)=j by omega]at this;rw[this];rfl) (fun h=>by
   rw[pk_in s b n h]at hout;rw[hout];rfl)]
  omega
 obtain⟨h1,h2⟩:=tw_take _ _ _ hl;rw[run_eq,h1,h2,tl_drop,←hx,Lib.extract_data,show b+n - b=n by omega]
 rfl
end Lx
end Go.Proofs.YtfjmlfbohenmfaaGreat
