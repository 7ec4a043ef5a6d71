/-
  LexRunb, LexWordb, LexWordsPb, RdModelb, LexWordsb, LexAwakeb, LexSameb, LexAllb, LexBareb, LexApartPb, LexApartQb, LexApartSb.
-/
import Derived.Test.YtfjmlfbohenmfaaGreatLexCharb
import Derived.Test.YtfjmlfbohenmfaaGreatCoreBBM2
import Derived.RangeFuncNested
import Derived.RangeFuncBound
import Derived.RangeFuncCalls
import Derived.RangeFuncLeaves
import Derived.Shelf.Abstract
import Derived.Shelf.RegionOpen
import Derived.WalkKit
import Derived.OwnWalkIn
import Derived.TacticsInMore
import Derived.LoopNIn
import Derived.LoopIn
import Derived.Maps.OwnIn
import Derived.Maps.AppendAt
set_option maxRecDepth 100000
set_option maxHeartbeats 32000000
namespace Go.Proofs.YtfjmlfbohenmfaaGreat
open Go.RowKit Go.Sort
namespace Lx
def runW(w rest:List UInt8):Res:=
 if w=[35,102]then .tok ⟨10,0,[]⟩ rest
 else if w=[35,116]then .tok ⟨10,1,[]⟩ rest
 else if w=[46]then .tok ⟨8,0,[]⟩ rest
 else if figure (w.headD 0)||((w.headD 0==45||w.headD 0==43)&&decide (1<w.length)&&figure (pk w 1))then
  if(Fx.parse w).2=0 then .tok ⟨9,(Fx.parse w).1,[]⟩ rest
  else if(Fx.parse w).2=5 then .err 30 else .err (Fx.parse w).2
 else if symbol w then .tok ⟨13,0,w⟩ rest
 else .err 30
theorem run_eq(t:List UInt8):run t=runW (t.takeWhile fun c=> !ends c) (t.dropWhile fun c=> !ends c):=rfl
theorem tw_take(f:UInt8→Bool)(l:List UInt8)(n:Nat)(h:(l.takeWhile f).length=n):l.takeWhile f=l.take n∧l.dropWhile f=l.drop n:=by
 have e:=List.takeWhile_append_dropWhile (p:=f) (l:=l);constructor
 ·conv=>rhs;rw[←e]
  rw[List.take_append_of_le_length (by omega),List.take_of_length_le (by omega)]
 ·conv=>rhs;rw[←e]
  rw[List.drop_append_of_le_length (by omega),List.drop_of_length_le (by omega)]
  rfl
theorem run_ext(s:ByteArray)(b n:Nat)(x:ByteArray)(hx:s.extract b (b+n)=x)(hn:b+n≤s.size)(hin:∀j,j<n→ends (pk (tl s b) j)=false)(hout:ends (pk (tl s b) n)=true):
  run (tl s b)=runW x.data.toList (tl s (b+n)):=by
 have hl:((tl s b).takeWhile fun c=> !ends c).length=n:=by
  rw[run_len _ s b (b+n) (by omega) hn (fun j h1 h2=>by
   have:=hin (j - b) (by omega);rw[pk_in s b (j - b) (by omega)]at this;simp only[show b+(j - b)=j by omega]at this;rw[this];rfl) (fun h=>by
   rw[pk_in s b n h]at hout;rw[hout];rfl)]
  omega
 obtain⟨h1,h2⟩:=tw_take _ _ _ hl;rw[run_eq,h1,h2,tl_drop,←hx,Lib.extract_data,show b+n - b=n by omega]
 rfl
end Lx
namespace Lx
theorem TkAt.alloc(w:World)(k a z m:Int)(x:ByteArray)(ty:TypeId):TkAt (w.alloc (.cells #[.int .i64 k,.int .i64 a,.int .i64 z,.int .i64 m,.string x] ty)) w.heap.size k a z m x:=by
 have hh:(w.alloc (.cells #[.int .i64 k,.int .i64 a,.int .i64 z,.int .i64 m,.string x] ty)).heap[w.heap.size]?=some (.cells #[.int .i64 k,.int .i64 a,.int .i64 z,.int .i64 m,.string x] ty):=by
  show(w.heap.push _)[w.heap.size]?=_;simp
 refine⟨?_,?_,?_,?_,?_,fun j=> ?_,?_⟩
 ·unfold World.cell?;rw[hh];rfl
 ·unfold World.cell?;rw[hh];rfl
 ·unfold World.cell?;rw[hh];rfl
 ·unfold World.cell?;rw[hh];rfl
 ·unfold World.cell?;rw[hh];rfl
 ·unfold World.frozen?;rw[hh];simp
 ·simp
theorem TkAt.set1{w:World}{T:Nat}{k a z m:Int}{x:ByteArray}(h:TkAt w T k a z m x)(v:Int):TkAt (w.setCell ⟨T,1,none⟩ (.int .i64 v)) T k v z m x:=
 ⟨by rw[World.cell?_setCell_other _ _ _ _ (by simp)];exact h.c0,World.cell?_setCell_same _ _ _ h.c1,by rw[World.cell?_setCell_other _ _ _ _ (by simp)];exact h.c2,by rw[World.cell?_setCell_other _ _ _ _ (by simp)];exact h.c3,by rw[World.cell?_setCell_other _ _ _ _ (by simp)];exact h.c4,fun j=>by rw[World.frozen?_setCell];exact h.fz j,by simpa[World.setCell]using h.lt⟩
def put5(w:World)(R:Nat)(k a z m:Int)(x:ByteArray):World:=((((w.setCell ⟨R,0,none⟩ (.int .i64 k)).setCell ⟨R,1,none⟩ (.int .i64 a)).setCell ⟨R,2,none⟩ (.int .i64 z)).setCell ⟨R,3,none⟩ (.int .i64 m)).setCell ⟨R,4,none⟩ (.string x)
theorem put5_at{w:World}{R:Nat}{k0 a0 z0 m0:Int}{x0:ByteArray}(h:TkAt w R k0 a0 z0 m0 x0)(k a z m:Int)(x:ByteArray):TkAt (put5 w R k a z m x) R k a z m x:=
 ((((h.set0 k).set1 a).set2 z).set3 m).set4 x
theorem word_eq(t:List UInt8)(sg:Nat×Nat)(h:sign t=sg):word t=if sg.1≠0 then .tok ⟨sg.1,0,[]⟩ (t.drop sg.2)else if pk t 0==34 then str t else if pk t 0==35&&pk t 1==92 then char t else run t:=by
 unfold word;rw[h]
end Lx
namespace Lx
theorem gap_len:∀(f:Nat) (t:List UInt8),(gap f t).1.length≤t.length:=by
 intro f
 induction f with
 |zero=>intro t;simp[gap]
 |succ f ih=>
  intro t
  cases t with
  |nil=>simp[gap]
  |cons c r=>
   unfold gap;split
   ·have:=ih r;simp;omega
   ·split
    ·have h1:=ih (r.dropWhile (· !=10));have h2:(r.dropWhile (· !=10)).length≤r.length:=(List.dropWhile_sublist _).length_le;simp only[List.length_cons];omega
    ·split
     ·split
      ·exact Nat.le_refl _
      ·rename_i r' hr;have h1:=ih r';have h2:=com_len _ _ _ _ (Nat.le_refl _) hr;simp only[List.length_cons]at h2 ⊢;omega
     ·exact Nat.le_refl _
theorem gap_end:∀(f:Nat) (t:List UInt8),t.length≤f→(gap f t).2=true→(gap f t).1=[]∨(white (pk (gap f t).1 0)=false∧(pk (gap f t).1 0==59)=false):=by
 intro f
 induction f with
 |zero=>
  intro t ht _;left;have:t=[]:=List.eq_nil_of_length_eq_zero (by omega);subst this
  rfl
 |succ f ih=>
  intro t ht h
  cases t with
  |nil=>left;rfl
  |cons c r=>
   simp only[List.length_cons]at ht;unfold gap at h ⊢;split at h
   ·rename_i hw;rw[if_pos hw];exact ih r (by omega) h
   ·rename_i hw;rw[if_neg hw];split at h
    ·rename_i h59;rw[if_pos h59];have h2:(r.dropWhile (· !=10)).length≤r.length:=(List.dropWhile_sublist _).length_le;exact ih _ (by omega) h
    ·rename_i h59;rw[if_neg h59];split at h
     ·rename_i h35;rw[if_pos h35];split at h
      ·exact absurd h (by simp)
      ·rename_i r' hr;have h2:=com_len _ _ _ _ (Nat.le_refl _) hr;simp only[List.length_cons]at h2;exact ih r' (by omega) h
     ·rename_i h35;rw[if_neg h35];right;exact⟨by simpa[pk]using hw,by simpa[pk]using h59⟩
theorem strEnd_len:∀(m:Nat) (l b r:List UInt8),l.length≤m→strEnd l=some (b,r)→r.length<l.length:=by
 intro m
 induction m with
 |zero=>
  intro l b r hm h;have:l=[]:=List.eq_nil_of_length_eq_zero (by omega);subst this;rw[strEnd]at h;simp at h
 |succ m ih=>
  intro l b r hm h
  match l with
  |[]=>rw[strEnd]at h;simp at h
  |[c]=>
   rw[strEnd]at h;split at h
   ·simp at h;rw[←h.2];simp
   ·simp at h
  |c :: d :: t=>
   simp only[List.length_cons]at hm ⊢;rw[strEnd]at h;split at h
   ·simp at h;rw[←h.2];simp
   ·split at h
    ·cases he:strEnd t with
     |none=>rw[he]at h;simp at h
     |some q=>
      rw[he]at h;simp at h;have:=ih t q.1 q.2 (by omega) he;rw[←h.2];omega
    ·cases he:strEnd (d :: t)with
     |none=>rw[he]at h;simp at h
     |some q=>
      rw[he]at h;simp at h;have:=ih (d :: t) q.1 q.2 (by simp only[List.length_cons];omega) he;simp only[List.length_cons]at this;rw[←h.2];omega
theorem str_len(t:List UInt8)(k:Tok)(r:List UInt8)(h:str t= .tok k r):r.length<t.length:=by
 unfold str at h;split at h
 ·simp at h
 ·rename_i b r' he;have h1:=strEnd_len _ _ _ _ (Nat.le_refl _) he;have h2:t.tail.length≤t.length:=by simp
  split at h
  ·split at h
   ·simp at h;rw[←h.2];omega
   ·simp at h
  ·simp at h
theorem char_len(t:List UInt8)(k:Tok)(r:List UInt8)(h:char t= .tok k r):r.length<t.length:=by
 unfold char at h;split at h
 ·simp at h
 ·rename_i hne;split at h
  ·simp at h
  ·simp at h;rw[←h.2];have:t.drop 2≠[]:=hne;have:0<(t.drop 2).length:=List.length_pos_iff.2 this;simp only[List.length_drop]at this ⊢;omega
theorem run_rest(t:List UInt8)(k:Tok)(r:List UInt8)(h:run t= .tok k r):r=t.dropWhile fun c=> !ends c:=by
 rw[run_eq]at h;unfold runW at h;repeat' split at h
 all_goals first
  |(simp at h;done)
  |(simp at h;exact h.2.symm)
theorem dw_len(f:UInt8→Bool)(t:List UInt8)(h0:t≠[])(h:f (pk t 0)=true):(t.dropWhile f).length<t.length:=by
 cases t with
 |nil=>exact absurd rfl h0
 |cons c r=>
  rw[List.dropWhile_cons_of_pos (by simpa[pk]using h)];have h2:(r.dropWhile f).length≤r.length:=(List.dropWhile_sublist _).length_le;simp only[List.length_cons];omega
theorem word_len(t:List UInt8)(h0:t≠[])(hw0:white (pk t 0)=false)(h59:(pk t 0==59)=false)(h00:(pk t 0==0)=false)(k:Tok)(r:List UInt8)(h:word t= .tok k r):r.length<t.length:=by
 have hpos:0<t.length:=List.length_pos_iff.2 h0;unfold word at h;split at h
 ·rename_i hs;simp at h;rw[←h.2,List.length_drop];have:0<(sign t).2:=by
   revert hs
   unfold sign;repeat' split
   all_goals simp
  omega
 ·rename_i hs;split at h
  ·exact str_len t k r h
  ·rename_i h34;split at h
   ·exact char_len t k r h
   ·rw[run_rest t k r h];apply dw_len _ _ h0;have hg:(sign t).1=0:=by simpa using hs
    have hn34:(pk t 0==34)=false:=by simpa using h34
    unfold ends;rw[h00,hw0,hn34,h59];unfold sign at hg;cases g40:(pk t 0==40)
    ·cases g41:(pk t 0==41)
     ·rfl
     ·rw[g40,g41]at hg;simp at hg
    ·rw[g40]at hg;simp at hg
theorem word_err(t:List UInt8)(c:Int)(h:word t= .err c):c≠0:=by
 unfold word at h;split at h
 ·simp at h
 ·split at h
  ·unfold str at h;repeat' split at h
   all_goals (simp at h;try omega)
  ·split at h
   ·unfold char at h;repeat' split at h
    all_goals (simp at h;try omega)
   ·rw[run_eq]at h;unfold runW at h;repeat' split at h
    all_goals (simp at h;try omega)
end Lx
end Go.Proofs.YtfjmlfbohenmfaaGreat
namespace Go.Proofs.YtfjmlfbohenmfaaGreat
namespace Rd
open Dt Lx
end Rd
end Go.Proofs.YtfjmlfbohenmfaaGreat
namespace Go.Proofs.YtfjmlfbohenmfaaGreat
open Go.RowKit Go.Sort
namespace Lx
theorem infoTok:(Tryz.prog.info? 144).map (fun i=>(i.zero,i.size,i.bytes))=some (some (.agg #[.int .i64 0,.int .i64 0,.int .i64 0,.int .i64 0,.string ⟨#[]⟩]),5,48):=by kernel_rfl
def cells5(p:PTok):List Value:=[.int .i64 p.t.k,.int .i64 (p.at_:Int),.int .i64 (p.to:Int),.int .i64 p.t.n,.string ⟨p.t.s.toArray⟩]
def flatT(l:List PTok):List Value:=l.flatMap cells5
def app(acc:List PTok)(r:List PTok×Nat×Int):List PTok×Nat×Int:=if r.2.2=0 then(acc++r.1,0,0)else([],r.2.1,r.2.2)
def WordsPost(W:List PTok×Nat×Int)(w:World)(e:Ending)(w':World):Prop:=
 Below w.heap.size w w'∧((W.2.2=0∧∃v,e= .returned (.tuple #[v,.int .i64 0,.int .i64 0])∧w'.ownsRow w.heap.size 144 5 v W.1.length (flatT W.1))
  ∨(W.2.2≠0∧e= .returned (.tuple #[.slice none 0 0,.int .i64 (W.2.1:Int),.int .i64 W.2.2])))
theorem WordsPost.err{W:List PTok×Nat×Int}{w w':World}{e:Ending}(p:Nat)(c:Int)(h:W=([],p,c))(hc:c≠0)(hb:Below w.heap.size w w')(he:e= .returned (.tuple #[.slice none 0 0,.int .i64 (p:Int),.int .i64 c])):WordsPost W w e w':=by
 subst h;exact⟨hb,.inr ⟨hc,he⟩⟩
theorem ok_int(c:UInt8):okByte c=(decide ((c.toNat:Int)≤126)&&(decide (32≤(c.toNat:Int))||white c)):=by
 unfold okByte;congr 1
 ·rw[decide_eq_decide];omega
 ·congr 1
  rw[decide_eq_decide];omega
theorem all_ok(s:ByteArray)(h:∀j,(hj:j<s.size)→okByte s[j]=true):s.data.toList.all okByte=true:=by
 rw[List.all_eq_true];intro x hx;obtain⟨i,hi,rfl⟩:=List.getElem_of_mem hx;exact h i (by rw[←Fx.size_toList];exact hi)
theorem five_new(w:World)(k a z m:Int)(x:ByteArray)(ty:TypeId):∀j u,[.int .i64 k,.int .i64 a,.int .i64 z,.int .i64 m,.string x][j]?=some u→(w.alloc (.cells #[.int .i64 k,.int .i64 a,.int .i64 z,.int .i64 m,.string x] ty)).cell? ((⟨w.heap.size,0,none⟩:Addr).add j)=some u:=by
 intro j u h;have T:=TkAt.alloc w k a z m x ty
 match j,h with
 |0,h=>simp at h;subst h;simp[Addr.add]
 |1,h=>simp at h;subst h;simp[Addr.add]
 |2,h=>simp at h;subst h;simp[Addr.add]
 |3,h=>simp at h;subst h;simp[Addr.add]
 |4,h=>simp at h;subst h;simp[Addr.add]
 |j+5,h=>simp at h
theorem words_step(N f c:Nat)(t:List UInt8):words N (f+1) c t=
  if(gap t.length t).2=false then([],N - (gap t.length t).1.length,31)
  else if(gap t.length t).1=[]then([],0,0)
  else if c=4096 then([],N - (gap t.length t).1.length,3)
  else match word (gap t.length t).1 with
   | .err e=>([],N - (gap t.length t).1.length,e)
   | .tok k rest=>if(words N f (c+1) rest).2.2=0 then(⟨N - (gap t.length t).1.length,N - rest.length,k⟩ :: (words N f (c+1) rest).1,0,0)else([],(words N f (c+1) rest).2.1,(words N f (c+1) rest).2.2):=rfl
theorem words_norm(N f c:Nat)(t:List UInt8):app [] (words N f c t)=words N f c t:=by
 cases f with
 |zero=>rfl
 |succ f=>
  rw[words_step];split
  ·rfl
  ·split
   ·rfl
   ·split
    ·rfl
    ·split
     ·rename_i e he;unfold app;rw[if_neg (word_err _ _ he)]
     ·split
      ·unfold app;simp
      ·rename_i h;unfold app;rw[if_neg h]
theorem app_err(acc:List PTok)(p:Nat)(c:Int)(hc:c≠0):app acc ([],p,c)=([],p,c):=by
 unfold app;rw[if_neg hc]
theorem app_cons(acc:List PTok)(q:PTok)(r:List PTok×Nat×Int):app acc (if r.2.2=0 then(q :: r.1,0,0)else([],r.2.1,r.2.2))=app (acc++[q]) r:=by
 unfold app;by_cases h:r.2.2=0
 ·rw[if_pos h,if_pos h];simp
 ·rw[if_neg h,if_neg h,if_neg h]
theorem flat_app(l:List PTok)(q:PTok):flatT (l++[q])=flatT l++cells5 q:=by
 unfold flatT;simp
end Lx
namespace Lx
end Lx
namespace Lx
def Row(w:World)(v:Value)(l:List PTok):Prop:=
 (v= .slice none 0 0∧l=[])∨∃g cap,v= .slice (some ⟨g,0,none⟩) l.length cap∧∀j u,(flatT l)[j]?=some u→w.cell? ⟨g,j,none⟩=some u
theorem flat_at:∀(l:List PTok) (k:Nat) (h:k<l.length) (i:Nat),i<5→(flatT l)[k*5+i]?=(cells5 l[k])[i]?:=by
 intro l
 induction l with
 |nil=>intro k h;exact absurd h (by simp)
 |cons a l ih=>
  intro k h i hi;have e:flatT (a :: l)=cells5 a++flatT l:=rfl;rw[e];have h5:(cells5 a).length=5:=rfl
  cases k with
  |zero=>rw[List.getElem?_append_left (by omega)];simp
  |succ k=>
   rw[List.getElem?_append_right (by omega),h5,show(k+1)*5+i - 5=k*5+i by omega];simpa using ih k (by simpa using h) i hi
theorem Row.five{w:World}{g:Nat}{l:List PTok}(hc:∀j u,(flatT l)[j]?=some u→w.cell? ⟨g,j,none⟩=some u)(k:Nat)(h:k<l.length):
  w.cell? ⟨g,k*5,none⟩=some (.int .i64 l[k].t.k)∧w.cell? ⟨g,k*5+1,none⟩=some (.int .i64 (l[k].at_:Int))∧w.cell? ⟨g,k*5+2,none⟩=some (.int .i64 (l[k].to:Int))∧w.cell? ⟨g,k*5+3,none⟩=some (.int .i64 l[k].t.n)∧w.cell? ⟨g,k*5+4,none⟩=some (.string ⟨l[k].t.s.toArray⟩):=
 ⟨hc _ _ (flat_at l k h 0 (by omega)),hc _ _ (flat_at l k h 1 (by omega)),hc _ _ (flat_at l k h 2 (by omega)),hc _ _ (flat_at l k h 3 (by omega)),hc _ _ (flat_at l k h 4 (by omega))⟩
end Lx
end Go.Proofs.YtfjmlfbohenmfaaGreat
namespace Go.Proofs.YtfjmlfbohenmfaaGreat
open Go.RowKit Go.Sort Go.Shelf
attribute [local go_sem] Oper.semAt_some
namespace Lx
end Lx
end Go.Proofs.YtfjmlfbohenmfaaGreat
namespace Go.Proofs.YtfjmlfbohenmfaaGreat
open Go.RowKit Go.Sort
namespace Lx
end Lx
end Go.Proofs.YtfjmlfbohenmfaaGreat
namespace Go.Proofs.YtfjmlfbohenmfaaGreat.Lx
open Go.RowKit Go.Sort
end Go.Proofs.YtfjmlfbohenmfaaGreat.Lx
namespace Go.Proofs.YtfjmlfbohenmfaaGreat.Lx
open Go.RowKit Go.Sort
end Go.Proofs.YtfjmlfbohenmfaaGreat.Lx
namespace Go.Proofs.YtfjmlfbohenmfaaGreat.Lx
open Go.RowKit Go.Sort
theorem dw_suf(f:UInt8→Bool)(t:List UInt8):t.dropWhile f<:+t:=List.dropWhile_suffix f
theorem com_suf:∀(m:Nat) (l:List UInt8) (o:Nat) (r:List UInt8),l.length≤m→com l o=some r→r<:+l:=by
 intro m
 induction m with
 |zero=>
  intro l o r hm h;have:l=[]:=List.eq_nil_of_length_eq_zero (by omega);subst this;rw[com]at h;simp at h
 |succ m ih=>
  intro l o r hm h
  cases l with
  |nil=>rw[com]at h;simp at h
  |cons c t=>
   simp only[List.length_cons]at hm;have ht:t.tail<:+c :: t:=(List.tail_suffix t).trans (List.suffix_cons c t);have hl:t.tail.length≤m:=by simp;omega
   rw[com]at h;split at h
   ·exact(ih _ _ _ hl h).trans ht
   ·split at h
    ·split at h
     ·simp at h;rw[←h];exact ht
     ·exact(ih _ _ _ hl h).trans ht
    ·exact(ih _ _ _ (by omega) h).trans (List.suffix_cons c t)
theorem gap_suf:∀(f:Nat) (t:List UInt8),(gap f t).1<:+t:=by
 intro f
 induction f with
 |zero=>intro t;exact List.suffix_refl t
 |succ f ih=>
  intro t
  cases t with
  |nil=>exact List.suffix_refl _
  |cons c r=>
   unfold gap;split
   ·exact(ih r).trans (List.suffix_cons c r)
   ·split
    ·exact((ih _).trans (dw_suf _ r)).trans (List.suffix_cons c r)
    ·split
     ·split
      ·exact List.suffix_refl _
      ·rename_i r' hr;exact(ih r').trans (com_suf _ _ _ _ (Nat.le_refl _) hr)
     ·exact List.suffix_refl _
theorem suf_drop(s r:List UInt8)(h:r<:+s):r=s.drop (s.length - r.length):=(List.suffix_iff_eq_drop.1 h)
end Go.Proofs.YtfjmlfbohenmfaaGreat.Lx
