/-
 Cores as trees: the plain model, and how a core lies in memory.
-/
import Derived.Test.YtfjmlfbohenmfaaGreatDtGoesPq
import Derived.Test.YtfjmlfbohenmfaaGreatMinq
namespace Go.Proofs.YtfjmlfbohenmfaaGreat
open Go.RowKit
namespace Co
open Dt (D IRow)
inductive C where
 |mk (k n:Int) (s:ByteArray) (d:D) (p:List Int) (l:List C)
def C.k:C→Int
 | .mk k _ _ _ _ _=>k
def C.n:C→Int
 | .mk _ n _ _ _ _=>n
def C.s:C→ByteArray
 | .mk _ _ s _ _ _=>s
def C.d:C→D
 | .mk _ _ _ d _ _=>d
def C.p:C→List Int
 | .mk _ _ _ _ p _=>p
def C.l:C→List C
 | .mk _ _ _ _ _ l=>l
mutual
def Wf:C→Prop
 | .mk _k n s d p l=>(-9223372036854775808≤n∧n≤9223372036854775807)∧s.size≤140737488355328∧Dt.Wf d∧p.length≤140737488355328∧(∀x∈p,-9223372036854775808≤x∧x≤9223372036854775807)∧l.length≤140737488355328∧Wfs l
def Wfs:List C→Prop
 |[]=>True
 |c :: r=>Wf c∧Wfs r
end
theorem Wfs.at:∀ {l:List C},Wfs l→∀j,(h:j<l.length)→Wf l[j]
 |[],_,j,h=>absurd h (by simp)
 |d :: r,hw,0,_=>by rw[Wfs]at hw;exact hw.1
 |d :: r,hw,j+1,h=>by
  rw[Wfs]at hw;exact Wfs.at hw.2 j (by simpa using h)
structure El(w:World)(b o:Nat)(c:C)(vm vl vt vp vk:Value):Prop where
 c0:w.cell? ⟨b,o,none⟩=some (.int .i64 c.k)
 c1:w.cell? ⟨b,o+1,none⟩=some (.int .i64 c.n)
 c2:w.cell? ⟨b,o+2,none⟩=some (.string c.s)
 c3:w.cell? ⟨b,o+3,none⟩=some (.int .i64 c.d.k)
 c4:w.cell? ⟨b,o+4,none⟩=some (.int .i64 c.d.n)
 c5:w.cell? ⟨b,o+5,none⟩=some (.string c.d.s)
 c6:w.cell? ⟨b,o+6,none⟩=some vm
 c7:w.cell? ⟨b,o+7,none⟩=some vl
 c8:w.cell? ⟨b,o+8,none⟩=some vt
 c9:w.cell? ⟨b,o+9,none⟩=some vp
 c10:w.cell? ⟨b,o+10,none⟩=some vk
mutual
def Rep(F:Nat→Prop)(w:World):C→Value→Value→Value→Value→Value→Prop
 | .mk _ _ _ d p l, vm, vl, vt, vp, vk => Dt.Rep F w d vm vl vt ∧ IRow F w vp p ∧
   (∃(a:Option Addr) (c:Nat),vk= .slice a l.length c∧l.length≤c∧(l≠[]→∃b o,a=some ⟨b,o,none⟩∧F b∧b<w.heap.size∧Reps F w l b o))
def Reps(F:Nat→Prop)(w:World):List C→Nat→Nat→Prop
 |[],_,_=>True
 |c :: r,b,o=>(∃vm vl vt vp vk,El w b o c vm vl vt vp vk∧Rep F w c vm vl vt vp vk)∧Reps F w r b (o+11)
end
def Row(F:Nat→Prop)(w:World)(v:Value)(l:List C):Prop:=
 ∃(a:Option Addr) (c:Nat),v= .slice a l.length c∧l.length≤c∧(l≠[]→∃b o,a=some ⟨b,o,none⟩∧F b∧b<w.heap.size∧Reps F w l b o)
theorem rep_iff(F:Nat→Prop)(w:World)(c:C)(vm vl vt vp vk:Value):Rep F w c vm vl vt vp vk↔Dt.Rep F w c.d vm vl vt∧IRow F w vp c.p∧Row F w vk c.l:=by
 cases c;rw[Rep];exact Iff.rfl
def V(c:C)(vm vl vt vp vk:Value):Value:= .agg #[.int .i64 c.k,.int .i64 c.n,.string c.s,.int .i64 c.d.k,.int .i64 c.d.n,.string c.d.s,vm,vl,vt,vp,vk]
theorem Reps.at{F:Nat→Prop}{w:World}:∀ {l:List C} {b o:Nat},Reps F w l b o→∀j,(h:j<l.length)→∃vm vl vt vp vk,El w b (o+j*11) l[j] vm vl vt vp vk∧Rep F w l[j] vm vl vt vp vk
 |[],_,_,_,j,h=>absurd h (by simp)
 |d :: r,b,o,hr,0,_=>by
  rw[Reps]at hr;simpa using hr.1
 |d :: r,b,o,hr,j+1,h=>by
  rw[Reps]at hr;have h2:=Reps.at hr.2 j (by simpa using h);rw[show o+(j+1)*11=o+11+j*11 by omega];simpa using h2
theorem Reps.of{F:Nat→Prop}{w:World}:∀ {l:List C} {b o:Nat},(∀j,(h:j<l.length)→∃vm vl vt vp vk,El w b (o+j*11) l[j] vm vl vt vp vk∧Rep F w l[j] vm vl vt vp vk)→Reps F w l b o
 |[],_,_,_=>by rw[Reps];trivial
 |d :: r,b,o,h=>by
  rw[Reps];have h0:=h 0 (by simp);rw[Nat.zero_mul,Nat.add_zero]at h0;refine⟨h0,Reps.of fun j hj=> ?_⟩;have:=h (j+1) (by simpa using hj);rw[show o+(j+1)*11=o+11+j*11 by omega]at this;simpa using this
theorem El.keep{S:Nat→Prop}{w w':World}{b o:Nat}{c:C}{vm vl vt vp vk:Value}(h:El w b o c vm vl vt vp vk)(hk:Keep S w w')(hb:b<w.heap.size)(hS:¬S b):El w' b o c vm vl vt vp vk:=
 ⟨(hk.cell _ hb hS).trans h.c0,(hk.cell _ hb hS).trans h.c1,(hk.cell _ hb hS).trans h.c2,(hk.cell _ hb hS).trans h.c3,(hk.cell _ hb hS).trans h.c4,(hk.cell _ hb hS).trans h.c5,(hk.cell _ hb hS).trans h.c6,(hk.cell _ hb hS).trans h.c7,(hk.cell _ hb hS).trans h.c8,(hk.cell _ hb hS).trans h.c9,(hk.cell _ hb hS).trans h.c10⟩
mutual
theorem Rep.keep{F S:Nat→Prop}{w w':World}(hk:Keep S w w')(hS:∀b,F b→b<w.heap.size→¬S b):∀(c:C) {vm vl vt vp vk:Value},Rep F w c vm vl vt vp vk→Rep F w' c vm vl vt vp vk
 | .mk k n s d p l,vm,vl,vt,vp,vk,h=>by
  rw[Rep]at h ⊢;obtain⟨h1,h2,⟨a,c,e1,e2,e3⟩⟩:=h;refine⟨Dt.Rep.keep hk hS d h1,h2.keep hk hS,⟨a,c,e1,e2,fun hn=> ?_⟩⟩;obtain⟨b,o,g1,g2,g3,g4⟩:=e3 hn;exact⟨b,o,g1,g2,Nat.lt_of_lt_of_le g3 hk.size,Reps.keep hk hS l g2 g3 g4⟩
theorem Reps.keep{F S:Nat→Prop}{w w':World}(hk:Keep S w w')(hS:∀b,F b→b<w.heap.size→¬S b):∀(l:List C) {b o:Nat},F b→b<w.heap.size→Reps F w l b o→Reps F w' l b o
 |[],_,_,_,_,_=>by rw[Reps];trivial
 |d :: r,b,o,hF,hb,h=>by
  rw[Reps]at h ⊢;obtain⟨⟨vm,vl,vt,vp,vk,h1,h2⟩,h3⟩:=h;exact⟨⟨vm,vl,vt,vp,vk,h1.keep hk hb (hS b hF hb),Rep.keep hk hS d h2⟩,Reps.keep hk hS r hF hb h3⟩
end
theorem irow_mono{F G:Nat→Prop}{w:World}{v:Value}{m:List Int}(hFG:∀b,F b→b<w.heap.size→G b)(h:IRow F w v m):IRow G w v m:=by
 obtain⟨a0,c0,i1,i2,i3⟩:=h;refine⟨a0,c0,i1,i2,fun hn=> ?_⟩;obtain⟨b,o,g1,g2,g3,g4⟩:=i3 hn;exact⟨b,o,g1,hFG b g2 g3,g3,g4⟩
mutual
theorem Rep.mono{F G:Nat→Prop}{w:World}(hFG:∀b,F b→b<w.heap.size→G b):∀(c:C) {vm vl vt vp vk:Value},Rep F w c vm vl vt vp vk→Rep G w c vm vl vt vp vk
 | .mk k n s d p l,vm,vl,vt,vp,vk,h=>by
  rw[Rep]at h ⊢;obtain⟨h1,h2,⟨a,c,e1,e2,e3⟩⟩:=h;refine⟨Dt.Rep.mono hFG d h1,irow_mono hFG h2,⟨a,c,e1,e2,fun hn=> ?_⟩⟩;obtain⟨b,o,g1,g2,g3,g4⟩:=e3 hn;exact⟨b,o,g1,hFG b g2 g3,g3,Reps.mono hFG l g4⟩
theorem Reps.mono{F G:Nat→Prop}{w:World}(hFG:∀b,F b→b<w.heap.size→G b):∀(l:List C) {b o:Nat},Reps F w l b o→Reps G w l b o
 |[],_,_,_=>by rw[Reps];trivial
 |d :: r,b,o,h=>by
  rw[Reps]at h ⊢;obtain⟨⟨vm,vl,vt,vp,vk,h1,h2⟩,h3⟩:=h;exact⟨⟨vm,vl,vt,vp,vk,h1,Rep.mono hFG d h2⟩,Reps.mono hFG r h3⟩
end
theorem Rep.below{F:Nat→Prop}{w w':World}(hb:Below w.heap.size w w'){c:C}{vm vl vt vp vk:Value}(h:Rep F w c vm vl vt vp vk):Rep F w' c vm vl vt vp vk:=
 Rep.keep (S:=fun _=>False) ((Keep.refl _ w).below hb) (fun _ _ _ h=>h) c h
theorem Row.keep{F S:Nat→Prop}{w w':World}{v:Value}{l:List C}(h:Row F w v l)(hk:Keep S w w')(hS:∀b,F b→b<w.heap.size→¬S b):Row F w' v l:=by
 obtain⟨a,c,e1,e2,e3⟩:=h;refine⟨a,c,e1,e2,fun hn=> ?_⟩;obtain⟨b,o,g1,g2,g3,g4⟩:=e3 hn;exact⟨b,o,g1,g2,Nat.lt_of_lt_of_le g3 hk.size,Reps.keep hk hS l g2 g3 g4⟩
theorem Row.below{F:Nat→Prop}{w w':World}{v:Value}{l:List C}(h:Row F w v l)(hb:Below w.heap.size w w'):Row F w' v l:=
 h.keep (S:=fun _=>False) ((Keep.refl _ w).below hb) (fun _ _ _ h=>h)
def none_(d:D):Bool:=decide (d.k=0)&&decide (d.n=0)&&d.s.data.toList.isEmpty&&d.m.isEmpty&&d.l.isEmpty&&d.t.isEmpty
def var(n:Int):Bool:=decide (1≤n)&&decide (n≤1048576)
def once:List Int→Bool
 |[]=>true
 |x :: r=> !r.contains x&&once r
def const(d:D):Bool:=decide (Dt.check d=0)&&(Dt.pre d).all fun x=>x.m.isEmpty
end Co
end Go.Proofs.YtfjmlfbohenmfaaGreat
