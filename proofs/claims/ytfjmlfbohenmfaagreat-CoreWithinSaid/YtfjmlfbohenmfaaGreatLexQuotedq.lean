/-
 The walk of quoted: a string's characters.
-/
import Derived.Test.YtfjmlfbohenmfaaGreatLexGap2q
import Derived.Lib.SmallJoins
namespace Go.Proofs.YtfjmlfbohenmfaaGreat
open Go.RowKit
namespace Lx
def byteV(c:UInt8):Value:= .int .u8 (c.toNat:Int)
theorem infoU8:(Tryz.prog.info? 5).map (fun i=>(i.zero,i.size,i.bytes))=some (some (.int .u8 0),1,1):=by kernel_rfl
set_option maxRecDepth 100000 in
theorem conv_own{w:World}{base:Nat}{v:Value}(l:List UInt8)(h:w.ownsRow base 5 1 v l.length (l.map byteV)):
  (convert 197 9 v).run Tryz.prog w= .ok (.string ⟨l.toArray⟩) w:=by
 have h0:=h;obtain⟨_,h1⟩:=h;rcases h1 with⟨rfl,hn⟩|⟨g,cap,cur,rfl,_,_,_,_,_,_⟩
 ·have:l=[]:=List.eq_nil_of_length_eq_zero hn;subst this;rw[run_convert_bytes_nil (P:=Tryz.prog) w 197 5 Tryz.underlying197 Tryz.underlying5 0 0 9 Tryz.underlying9]
  rfl
 ·have hr:=run_convert_bytes_arg (P:=Tryz.prog) w 197 5 Tryz.underlying197 Tryz.underlying5 g 0 l.length cap (l.map fun c=>(c.toNat:Int)) (by simp) (fun i hi=>by
   rw[Nat.zero_add,h0.cellAt i (by omega)];simp[byteV,List.getD,List.getElem?_eq_getElem hi]) 9 Tryz.underlying9
  rw[hr]
  congr 2
  unfold strOfNums;rw[List.map_map]
  congr 2
  conv=>rhs;rw[←List.map_id l]
  apply List.map_congr_left
  intro c _;simp[Function.comp]
theorem quoted_plain(c:UInt8)(t:List UInt8)(hc:(c==92)=false):quoted (c :: t)=if white c&&c !=32 then none else(quoted t).map (c :: ·):=by
 cases t with
 |nil=>
  conv=>lhs;rw[quoted]
  rw[hc];simp[quoted]
 |cons d r=>
  conv=>lhs;rw[quoted]
  rw[hc];simp
theorem quoted_esc(d:UInt8)(r:List UInt8):quoted (92 :: d :: r)=(if d==110 then(quoted r).map (10 :: ·)
   else if d==116 then(quoted r).map (9 :: ·)
   else if d==92||d==34 then(quoted r).map (d :: ·)
   else if d==120 then(if two r<0 then none else(quoted (r.drop 2)).map (UInt8.ofNat (two r).toNat :: ·))
   else none):=by
 rw[quoted];rfl
theorem two_range(r:List UInt8):0≤two r→2≤r.length∧two r≤127:=by
 unfold two
 match r with
 |[]=>intro h;simp at h
 |[_]=>intro h;simp at h
 |a :: b :: t=>
  intro h;refine⟨by simp,?_⟩
  revert h
  simp only
  cases ha:hexOf a with
  |none=>intro h;simp at h
  |some x=>cases hb:hexOf b with
   |none=>intro h;simp at h
   |some y=>
    have hy:y≤15:=by
     unfold hexOf at hb;split at hb
     ·rename_i hf;simp[figure]at hf;simp at hb;omega
     ·split at hb
      ·rename_i hf;simp at hf;simp at hb;omega
      ·simp at hb
    simp only;split
    ·intro _;omega
    ·intro h;omega
theorem map_acc(acc:List UInt8)(x:UInt8)(o p:Option (List UInt8))(h:o=p.map (x :: ·)):o.map (acc++ ·)=p.map ((acc++[x])++ ·):=by
 rw[h,Option.map_map]
 congr 1
 funext q
 simp
theorem d_cons(d:ByteArray)(h:0<d.size):d.data.toList=d[0] :: d.data.toList.drop 1:=by
 have:=tl_cons d 0 h;unfold tl at this;rw[List.drop_zero]at this;exact this
end Lx
end Go.Proofs.YtfjmlfbohenmfaaGreat
