/-
 Data as trees: the plain model, and how a datum lies in memory.
-/
import Derived.Test.YtfjmlfbohenmfaaGreatTbSymq
import Derived.Test.YtfjmlfbohenmfaaGreatTbKeepq
import Derived.Test.YtfjmlfbohenmfaaGreatMinq
namespace Go.Proofs.YtfjmlfbohenmfaaGreat
open Go.RowKit
namespace Dt
inductive D where
 |mk (k n:Int) (s:ByteArray) (m:List Int) (l t:List D)
def D.k:D→Int
 | .mk k _ _ _ _ _=>k
def D.n:D→Int
 | .mk _ n _ _ _ _=>n
def D.s:D→ByteArray
 | .mk _ _ s _ _ _=>s
def D.m:D→List Int
 | .mk _ _ _ m _ _=>m
def D.l:D→List D
 | .mk _ _ _ _ l _=>l
def D.t:D→List D
 | .mk _ _ _ _ _ t=>t
def isFix(n:Int):Bool:=decide (-1152921504606846976≤n)&&decide (n≤1152921504606846975)
def mayMark(x:Int):Bool:=decide (1≤x)&&decide (x≤1048576)
def ascii(s:ByteArray):Bool:=decide (s.data.toList.length≤256)&&s.data.toList.all (fun c=>decide (c.toNat<128))
def single:D→Bool
 | .mk k n s m l t=>
  if k=1 then isFix n&&s.data.toList.isEmpty&&m.isEmpty&&l.isEmpty&&t.isEmpty
  else if k=2 then decide (0≤n∧n<2)&&s.data.toList.isEmpty&&m.isEmpty&&l.isEmpty&&t.isEmpty
  else if k=3 then decide (0≤n∧n<128)&&s.data.toList.isEmpty&&m.isEmpty&&l.isEmpty&&t.isEmpty
  else if k=4 then ascii s&&decide (n=0)&&m.isEmpty&&l.isEmpty&&t.isEmpty
  else if k=5 then Lx.symbol s.data.toList&&decide (m.length≤16)&&m.all mayMark&&decide (n=0)&&l.isEmpty&&t.isEmpty
  else if k=6∨k=8 then decide (n=0)&&s.data.toList.isEmpty&&m.isEmpty&&t.isEmpty
  else if k=7 then decide (n=0)&&s.data.toList.isEmpty&&m.isEmpty&& !l.isEmpty&&(match t with
   |[x]=>decide (x.k≠6∧x.k≠7)
   |_=>false)
  else false
mutual
def chk:D→Nat→Nat→Int×Nat
 | .mk k n s m l t,deep,p=>
  if 64<deep then(4,p)
  else if 4096≤p then(3,p)
  else if single (.mk k n s m l t)then
   (if(chks l (deep+1) (p+1)).1=0 then chks t (deep+1) (chks l (deep+1) (p+1)).2 else chks l (deep+1) (p+1))
  else(20,p)
def chks:List D→Nat→Nat→Int×Nat
 |[],_,p=>(0,p)
 |d :: r,deep,p=>if(chk d deep p).1=0 then chks r deep (chk d deep p).2 else chk d deep p
end
mutual
def Wf:D→Prop
 | .mk _k n s m l t=>(-9223372036854775808≤n∧n≤9223372036854775807)∧s.size≤140737488355328∧m.length≤140737488355328∧l.length≤140737488355328∧t.length≤140737488355328∧Wfs l∧Wfs t
def Wfs:List D→Prop
 |[]=>True
 |d :: r=>Wf d∧Wfs r
end
theorem Wfs.at:∀ {l:List D},Wfs l→∀j,(h:j<l.length)→Wf l[j]
 |[],_,j,h=>absurd h (by simp)
 |d :: r,hw,0,_=>by rw[Wfs]at hw;exact hw.1
 |d :: r,hw,j+1,h=>by
  rw[Wfs]at hw;exact Wfs.at hw.2 j (by simpa using h)
def check(d:D):Int:=(chk d 1 0).1
def IRow(F:Nat→Prop)(w:World)(v:Value)(m:List Int):Prop:=
 ∃(a:Option Addr) (c:Nat),v= .slice a m.length c∧m.length≤c∧(m≠[]→∃b o,a=some ⟨b,o,none⟩∧F b∧b<w.heap.size∧∀j,(h:j<m.length)→w.cell? ⟨b,o+j,none⟩=some (.int .i64 m[j]))
structure Six(w:World)(b o:Nat)(d:D)(vm vl vt:Value):Prop where
 c0:w.cell? ⟨b,o,none⟩=some (.int .i64 d.k)
 c1:w.cell? ⟨b,o+1,none⟩=some (.int .i64 d.n)
 c2:w.cell? ⟨b,o+2,none⟩=some (.string d.s)
 c3:w.cell? ⟨b,o+3,none⟩=some vm
 c4:w.cell? ⟨b,o+4,none⟩=some vl
 c5:w.cell? ⟨b,o+5,none⟩=some vt
mutual
def Rep(F:Nat→Prop)(w:World):D→Value→Value→Value→Prop
 | .mk _ _ _ m l t, vm, vl, vt => IRow F w vm m ∧
   (∃(a:Option Addr) (c:Nat),vl= .slice a l.length c∧l.length≤c∧(l≠[]→∃b o,a=some ⟨b,o,none⟩∧F b∧b<w.heap.size∧Reps F w l b o))∧
   (∃(a:Option Addr) (c:Nat),vt= .slice a t.length c∧t.length≤c∧(t≠[]→∃b o,a=some ⟨b,o,none⟩∧F b∧b<w.heap.size∧Reps F w t b o))
def Reps(F:Nat→Prop)(w:World):List D→Nat→Nat→Prop
 |[],_,_=>True
 |d :: r,b,o=>(∃vm vl vt,Six w b o d vm vl vt∧Rep F w d vm vl vt)∧Reps F w r b (o+6)
end
def Row(F:Nat→Prop)(w:World)(v:Value)(l:List D):Prop:=
 ∃(a:Option Addr) (c:Nat),v= .slice a l.length c∧l.length≤c∧(l≠[]→∃b o,a=some ⟨b,o,none⟩∧F b∧b<w.heap.size∧Reps F w l b o)
theorem rep_iff(F:Nat→Prop)(w:World)(d:D)(vm vl vt:Value):Rep F w d vm vl vt↔IRow F w vm d.m∧Row F w vl d.l∧Row F w vt d.t:=by
 cases d;rw[Rep];exact Iff.rfl
theorem Reps.at{F:Nat→Prop}{w:World}:∀ {l:List D} {b o:Nat},Reps F w l b o→∀j,(h:j<l.length)→∃vm vl vt,Six w b (o+j*6) l[j] vm vl vt∧Rep F w l[j] vm vl vt
 |[],_,_,_,j,h=>absurd h (by simp)
 |d :: r,b,o,hr,0,_=>by
  rw[Reps]at hr;simpa using hr.1
 |d :: r,b,o,hr,j+1,h=>by
  rw[Reps]at hr;have h2:=Reps.at hr.2 j (by simpa using h);rw[show o+(j+1)*6=o+6+j*6 by omega];simpa using h2
theorem Reps.of{F:Nat→Prop}{w:World}:∀ {l:List D} {b o:Nat},(∀j,(h:j<l.length)→∃vm vl vt,Six w b (o+j*6) l[j] vm vl vt∧Rep F w l[j] vm vl vt)→Reps F w l b o
 |[],_,_,_=>by rw[Reps];trivial
 |d :: r,b,o,h=>by
  rw[Reps];have h0:=h 0 (by simp);rw[Nat.zero_mul,Nat.add_zero]at h0;refine⟨h0,Reps.of fun j hj=> ?_⟩;have:=h (j+1) (by simpa using hj);rw[show o+(j+1)*6=o+6+j*6 by omega]at this;simpa using this
theorem IRow.keep{F S:Nat→Prop}{w w':World}{v:Value}{m:List Int}(h:IRow F w v m)(hk:Keep S w w')(hS:∀b,F b→b<w.heap.size→¬S b):IRow F w' v m:=by
 obtain⟨a,c,h1,h2,h3⟩:=h;refine⟨a,c,h1,h2,fun hn=> ?_⟩;obtain⟨b,o,h4,h5,h6,h7⟩:=h3 hn;exact⟨b,o,h4,h5,Nat.lt_of_lt_of_le h6 hk.size,fun j hj=>(hk.cell _ h6 (hS b h5 h6)).trans (h7 j hj)⟩
theorem Six.keep{S:Nat→Prop}{w w':World}{b o:Nat}{d:D}{vm vl vt:Value}(h:Six w b o d vm vl vt)(hk:Keep S w w')(hb:b<w.heap.size)(hS:¬S b):Six w' b o d vm vl vt:=
 ⟨(hk.cell _ hb hS).trans h.c0,(hk.cell _ hb hS).trans h.c1,(hk.cell _ hb hS).trans h.c2,(hk.cell _ hb hS).trans h.c3,(hk.cell _ hb hS).trans h.c4,(hk.cell _ hb hS).trans h.c5⟩
mutual
theorem Rep.keep{F S:Nat→Prop}{w w':World}(hk:Keep S w w')(hS:∀b,F b→b<w.heap.size→¬S b):∀(d:D) {vm vl vt:Value},Rep F w d vm vl vt→Rep F w' d vm vl vt
 | .mk k n s m l t,vm,vl,vt,h=>by
  rw[Rep]at h ⊢;obtain⟨h1,⟨a,c,e1,e2,e3⟩,⟨a',c',f1,f2,f3⟩⟩:=h;refine⟨h1.keep hk hS,⟨a,c,e1,e2,fun hn=> ?_⟩,⟨a',c',f1,f2,fun hn=> ?_⟩⟩
  ·obtain⟨b,o,g1,g2,g3,g4⟩:=e3 hn;exact⟨b,o,g1,g2,Nat.lt_of_lt_of_le g3 hk.size,Reps.keep hk hS l g2 g3 g4⟩
  ·obtain⟨b,o,g1,g2,g3,g4⟩:=f3 hn;exact⟨b,o,g1,g2,Nat.lt_of_lt_of_le g3 hk.size,Reps.keep hk hS t g2 g3 g4⟩
theorem Reps.keep{F S:Nat→Prop}{w w':World}(hk:Keep S w w')(hS:∀b,F b→b<w.heap.size→¬S b):∀(l:List D) {b o:Nat},F b→b<w.heap.size→Reps F w l b o→Reps F w' l b o
 |[],_,_,_,_,_=>by rw[Reps];trivial
 |d :: r,b,o,hF,hb,h=>by
  rw[Reps]at h ⊢;obtain⟨⟨vm,vl,vt,h1,h2⟩,h3⟩:=h;exact⟨⟨vm,vl,vt,h1.keep hk hb (hS b hF hb),Rep.keep hk hS d h2⟩,Reps.keep hk hS r hF hb h3⟩
end
mutual
theorem Rep.mono{F G:Nat→Prop}{w:World}(hFG:∀b,F b→b<w.heap.size→G b):∀(d:D) {vm vl vt:Value},Rep F w d vm vl vt→Rep G w d vm vl vt
 | .mk k n s m l t,vm,vl,vt,h=>by
  rw[Rep]at h ⊢;obtain⟨⟨a0,c0,i1,i2,i3⟩,⟨a,c,e1,e2,e3⟩,⟨a',c',f1,f2,f3⟩⟩:=h;refine⟨⟨a0,c0,i1,i2,fun hn=> ?_⟩,⟨a,c,e1,e2,fun hn=> ?_⟩,⟨a',c',f1,f2,fun hn=> ?_⟩⟩
  ·obtain⟨b,o,g1,g2,g3,g4⟩:=i3 hn;exact⟨b,o,g1,hFG b g2 g3,g3,g4⟩
  ·obtain⟨b,o,g1,g2,g3,g4⟩:=e3 hn;exact⟨b,o,g1,hFG b g2 g3,g3,Reps.mono hFG l g4⟩
  ·obtain⟨b,o,g1,g2,g3,g4⟩:=f3 hn;exact⟨b,o,g1,hFG b g2 g3,g3,Reps.mono hFG t g4⟩
theorem Reps.mono{F G:Nat→Prop}{w:World}(hFG:∀b,F b→b<w.heap.size→G b):∀(l:List D) {b o:Nat},Reps F w l b o→Reps G w l b o
 |[],_,_,_=>by rw[Reps];trivial
 |d :: r,b,o,h=>by
  rw[Reps]at h ⊢;obtain⟨⟨vm,vl,vt,h1,h2⟩,h3⟩:=h;exact⟨⟨vm,vl,vt,h1,Rep.mono hFG d h2⟩,Reps.mono hFG r h3⟩
end
theorem Rep.below{F:Nat→Prop}{w w':World}(hb:Below w.heap.size w w'){d:D}{vm vl vt:Value}(h:Rep F w d vm vl vt):Rep F w' d vm vl vt:=
 Rep.keep (S:=fun _=>False) ((Keep.refl _ w).below hb) (fun _ _ _ h=>h) d h
theorem Row.keep{F S:Nat→Prop}{w w':World}{v:Value}{l:List D}(h:Row F w v l)(hk:Keep S w w')(hS:∀b,F b→b<w.heap.size→¬S b):Row F w' v l:=by
 obtain⟨a,c,e1,e2,e3⟩:=h;refine⟨a,c,e1,e2,fun hn=> ?_⟩;obtain⟨b,o,g1,g2,g3,g4⟩:=e3 hn;exact⟨b,o,g1,g2,Nat.lt_of_lt_of_le g3 hk.size,Reps.keep hk hS l g2 g3 g4⟩
theorem Row.below{F:Nat→Prop}{w w':World}{v:Value}{l:List D}(h:Row F w v l)(hb:Below w.heap.size w w'):Row F w' v l:=
 h.keep (S:=fun _=>False) ((Keep.refl _ w).below hb) (fun _ _ _ h=>h)
theorem IRow.below{F:Nat→Prop}{w w':World}{v:Value}{m:List Int}(h:IRow F w v m)(hb:Below w.heap.size w w'):IRow F w' v m:=
 h.keep (S:=fun _=>False) ((Keep.refl _ w).below hb) (fun _ _ _ h=>h)
end Dt
end Go.Proofs.YtfjmlfbohenmfaaGreat
