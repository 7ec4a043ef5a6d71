/-
  Several texts of this proof in one: VMapq, CoWkq, CoGoesLq, CoGoesq, CoRowq, CoOwnq, CoTellAq, CoSeeq, RgOq, CoFreshq, CoChkq, CoKeysTq, CoKeysq, CoOutq, CoAllq, CoCellsq, Liftq, CoSetq.
-/
import Derived.Test.YtfjmlfbohenmfaaGreatMemq
import Derived.Maps.Own
import Derived.Maps.OwnOps
import Derived.Maps.OwnSet
import Derived.Maps.Views
import Derived.Maps.Keyed
import Derived.WideKeyEntry
import Derived.Test.YtfjmlfbohenmfaaGreatMinq
import Derived.Test.YtfjmlfbohenmfaaGreatCoreWithinLawZM1
import Derived.Deep.CutBlock
import Derived.Deep.QuietTactic
import Derived.BigQuiet
import Derived.Deep.RegionHeld3
import Derived.WalkSpells
import Derived.Test.YtfjmlfbohenmfaaGreatCoModelq
import Derived.Test.YtfjmlfbohenmfaaGreatDtOwnPq
import Derived.Test.YtfjmlfbohenmfaaGreatRdRowq
import Derived.Test.YtfjmlfbohenmfaaGreatAppq
import Derived.Test.YtfjmlfbohenmfaaGreatDtOwnq
import Derived.Test.YtfjmlfbohenmfaaGreatTbKeepq
import Derived.Test.YtfjmlfbohenmfaaGreatPutq
import Derived.Shelf.SlIter.Nil
import Derived.Shelf.SlIterI.Nil
import Derived.Shelf.SortM.Plain
import Derived.Shelf.SortM.SortNone
import Derived.Shelf.SlGeneric
import Derived.Test.YtfjmlfbohenmfaaGreatProg
import Derived.RangeFuncBox
import Derived.Sort.QuietTacIn
import Derived.Test.YtfjmlfbohenmfaaGreatPostq
set_option maxRecDepth 100000
set_option maxHeartbeats 32000000
namespace Go.Proofs.YtfjmlfbohenmfaaGreat
open Go.RowKit Go.Maps Go.WideMaps Go.WideElems
namespace Vm
section
variable {H:Type} {P:Program} {w:World} {t k e:TypeId} {R:Value→Option (DataW H×List MemPlace)} {b:Nat} {es:Array MapEntry} {clock:Nat}
theorem entry_store(K:Keyed P k)(ht:P.underlying t=some (.map k e)){z:Value}(hz:∀u:World,(zeroValue e).run P u= .ok z u)(hb:w.heap[b]?=some (.map es clock))(F:Fit P k R es clock)
  {key:Value} {kl:Lit} (hkey:keyOf P k key=some kl):
  ∃(v0:Value) (st:Nat) (es1:Array MapEntry) (clock1:Nat),(Instr.mapEntry t (.map (some b)) key).run P w= .ok (.tuple #[v0,goInt st]) (ChangeMaps.setBlock w b (.map es1 clock1))∧
   ∀(w2:World) (val:Value),w2.heap[b]?=some (.map es1 clock1)→∃es' clock',(Instr.entryStore t (.map (some b)) (goInt st) val).run P w2= .ok () (ChangeMaps.setBlock w2 b (.map es' clock'))∧
    (Instr.mapUpdate t (.map (some b)) key val).run P w= .ok () (ChangeMaps.setBlock w b (.map es' clock')):=by
 obtain⟨s1,s2,_⟩:=F.stamped;rcases K.find w hkey es.toList F.keys with⟨h1,h2⟩|⟨j,e0,h1,h2,h3⟩
 ·refine⟨z,clock,es.push ⟨key,z,clock⟩,clock+1,?_,fun w2 val hw2=>⟨es.push ⟨key,val,clock⟩,clock+1,?_,?_⟩⟩
  ·simp[Instr.mapEntry,run_underlying ht,MapKept.run_getObj_map hb,K.check w false hkey,h1,hz,MapKept.run_setObj_map _ hb,Result.andThen,ChangeMaps.setBlock]
  ·have hidx:(es.push ⟨key,z,clock⟩).findIdx? (fun e=>((e.born:Nat):Int)==((clock:Nat):Int))=some es.size:=by
    rw[findIdx_arr];have:=findIdx_born (l:=(es.push ⟨key,z,clock⟩).toList) (j:=es.size) (e0:=⟨key,z,clock⟩) (by
     simp only[Array.toList_push,List.map_append,List.map_cons,List.map_nil];refine List.nodup_append.2 ⟨s2,by simp,fun a ha c hc e1=> ?_⟩;simp only[List.mem_singleton]at hc;obtain⟨x,hx,rfl⟩:=List.mem_map.1 ha;have:=s1 x hx;omega) (by simp)
    exact this
   have hmod:(es.push ⟨key,z,clock⟩).modify es.size (fun e=> {e with val:=val})=es.push ⟨key,val,clock⟩:=by
    apply Array.ext'
    rw[Array.toList_modify,Array.toList_push,Array.toList_push,←Array.length_toList,modify_last]
   simp[Instr.entryStore,MapKept.run_getObj_map hw2,asInt,asIntOf,goInt,hidx,hmod,MapKept.run_setObj_map _ hw2,Result.andThen,ChangeMaps.setBlock]
  ·simp[Instr.mapUpdate,run_underlying ht,MapKept.run_getObj_map hb,K.check w false hkey,h1,MapKept.run_setObj_map _ hb,Result.andThen,ChangeMaps.setBlock]
 ·have hj:es[j]?=some e0:=by simpa using h2
  have hsame:es.modify j (fun e=> {e with key:=key})=es:=by
   apply Array.ext'
   rw[Array.toList_modify,ChangeMaps.modify_eq_set _ _ _ _ h2];have:({e0 with key:=key}:MapEntry)=e0:=by rw[←h3]
   rw[this];exact set_self _ _ _ h2
  refine⟨e0.val,e0.born,es,clock,?_,fun w2 val hw2=>⟨es.modify j (fun e'=> {e' with key:=key,val:=val}),clock,?_,?_⟩⟩
  ·simp[Instr.mapEntry,run_underlying ht,MapKept.run_getObj_map hb,K.check w false hkey,h1,hj,h3,K.stays w hkey,hsame,MapKept.run_setObj_map _ hb,Result.andThen,ChangeMaps.setBlock]
  ·have hidx:es.findIdx? (fun e=>((e.born:Nat):Int)==((e0.born:Nat):Int))=some j:=by
    rw[findIdx_arr];exact findIdx_born s2 h2
   have hmod:es.modify j (fun e=> {e with val:=val})=es.modify j (fun e'=> {e' with key:=key,val:=val}):=by
    apply Array.ext'
    rw[Array.toList_modify,Array.toList_modify,ChangeMaps.modify_eq_set _ _ _ _ h2,ChangeMaps.modify_eq_set _ _ _ _ h2,←h3]
   simp[Instr.entryStore,MapKept.run_getObj_map hw2,asInt,asIntOf,goInt,hidx,hmod,MapKept.run_setObj_map _ hw2,Result.andThen,ChangeMaps.setBlock]
  ·simp[Instr.mapUpdate,run_underlying ht,MapKept.run_getObj_map hb,K.check w false hkey,h1,hj,h3,K.stays w hkey,MapKept.run_setObj_map _ hb,Result.andThen,ChangeMaps.setBlock]
end
structure MK(P:Program)(κ β:Type) where
 mt:TypeId
 kt:TypeId
 et:TypeId
 under:P.underlying mt=some (.map kt et)
 keyed:Keyed P kt
 kv:κ→Value
 kl:κ→Lit
 okK:κ→Prop
 keyOf_:∀k,okK k→keyOf P kt (kv k)=some (kl k)
 kl_inj:∀a b,kl a=kl b→a=b
 isKey:∀k,WideAt.IsKeyLit (kl k)
 ev:β→Value
 ed:β→DataW Unit
 ed_inj:∀a b,ed a=ed b→a=b
 z:β
 zero:∀w:World,(zeroValue et).run P w= .ok (ev z) w
 rd:Value→Option (DataW Unit×List MemPlace)
 rd_ev:∀v,rd (ev v)=some (ed v,[])
 rd_inv:∀x q,rd x=some q→∃v,x=ev v∧q=(ed v,[])
variable {P:Program} {κ β:Type}
def Mp(M:MK P κ β)(w:World)(b n:Nat)(g:κ→Option β):Prop:=
 ∃D:DataW Unit,w.ownsMap P M.kt M.rd b n D∧∀s,has D (M.kl s)=(g s).isSome∧∀v,g s=some v→∀z,D.atKey (M.kl s) z=M.ed v
variable {M:MK P κ β} {w w':World} {b n:Nat} {g:κ→Option β}
theorem Mp.made(M:MK P κ β)(w:World):Mp M (w.alloc (.map #[] 0)) w.heap.size 0 fun _=>none:=
 ⟨_,World.ownsMap_made _ _ _ _,fun _=>⟨rfl,fun _ h=>by cases h⟩⟩
theorem Mp.lt(h:Mp M w b n g):b<w.heap.size:=let ⟨_,ho,_⟩:=h;ho.lt
theorem Mp.mono(h:Mp M w b n g){m:Nat}(hm:n≤m):Mp M w b m g:=let ⟨D,ho,h2⟩:=h;⟨D,ho.mono hm,h2⟩
theorem Mp.heap(h:Mp M w b n g)(he:w'.heap[b]?=w.heap[b]?):Mp M w' b n g:=by
 obtain⟨D,⟨es,clock,h1,h2⟩,h3⟩:=h;exact⟨D,⟨es,clock,by rw[he];exact h1,h2⟩,h3⟩
theorem Mp.keep{S:Nat→Prop}(h:Mp M w b n g)(hk:Keep S w w')(hn:¬S b):Mp M w' b n g:=h.heap (hk.block b h.lt hn)
theorem Mp.below(h:Mp M w b n g)(hb:Below w.heap.size w w'):Mp M w' b n g:=h.heap (hb.block b h.lt)
theorem keep_turned(h:w.mapTurned w' b):Keep (fun k=>k=b) w w':=by
 have hg:=h.grown;exact⟨hg.os,hg.tape,hg.output,hg.size,fun k hk hn=>hg.block k hk (fun e=>hn (by cases e;rfl))⟩
theorem Mp.look(h:Mp M w b n g){s:κ}(hs:M.okK s):(Instr.lookup M.mt (.map (some b)) (M.kv s) true).run P w= .ok (.tuple #[M.ev ((g s).getD M.z),.bool (g s).isSome]) w:=by
 obtain⟨D,ho,hg⟩:=h;obtain⟨v,ps,hrun,hv⟩:=ho.look_ok M.keyed M.under (M.zero w) (M.rd_ev M.z) (M.keyOf_ s hs);rw[hrun,(hg _).1];obtain⟨y,rfl,hy⟩:=M.rd_inv _ _ hv;have hd:=congrArg Prod.fst hy;simp only at hd
 cases hgs:g s with
 |none=>
  have hh:=(hg s).1;rw[hgs]at hh;rw[atKey_of_not_has hh]at hd;rw[←M.ed_inj _ _ hd]
  rfl
 |some x=>
  rw[(hg s).2 x hgs]at hd;rw[←M.ed_inj _ _ hd]
  rfl
theorem Mp.look1(h:Mp M w b n g){s:κ}(hs:M.okK s):(Instr.lookup M.mt (.map (some b)) (M.kv s) false).run P w= .ok (M.ev ((g s).getD M.z)) w:=by
 obtain⟨D,ho,hg⟩:=h;obtain⟨v,ps,hrun,hv⟩:=ho.lookup M.keyed M.under (M.zero w) (M.rd_ev M.z) (M.keyOf_ s hs);rw[hrun];obtain⟨y,rfl,hy⟩:=M.rd_inv _ _ hv;have hd:=congrArg Prod.fst hy;simp only at hd
 cases hgs:g s with
 |none=>
  have hh:=(hg s).1;rw[hgs]at hh;rw[atKey_of_not_has hh]at hd;rw[←M.ed_inj _ _ hd]
  rfl
 |some x=>
  rw[(hg s).2 x hgs]at hd;rw[←M.ed_inj _ _ hd]
  rfl
variable [DecidableEq κ]
def upd(g:κ→Option β)(s:κ)(v:β):κ→Option β:=fun z=>if z=s then some v else g z
def cut(g:κ→Option β)(s:κ):κ→Option β:=fun z=>if z=s then none else g z
theorem put_says{D:DataW Unit}(hm:IsMap D)(hg:∀s,has D (M.kl s)=(g s).isSome∧∀v,g s=some v→∀z,D.atKey (M.kl s) z=M.ed v)(s:κ)(v:β):
  ∀x,has (D.put (M.kl s) (M.ed v)) (M.kl x)=(upd g s v x).isSome∧∀y,upd g s v x=some y→∀z,(D.put (M.kl s) (M.ed v)).atKey (M.kl x) z=M.ed y:=by
 intro x;unfold upd;by_cases e:x=s
 ·subst e;rw[if_pos rfl];exact⟨has_put_same hm (M.isKey _) _,fun y hy z=>by cases hy;exact atKey_put_same hm (M.isKey _) _ z⟩
 ·rw[if_neg e];have hne:M.kl x≠M.kl s:=fun h=>e (M.kl_inj _ _ h)
  exact⟨by rw[has_put_other hne];exact(hg x).1,fun y hy d=>by rw[atKey_put_other hne];exact(hg x).2 y hy d⟩
theorem Mp.set(h:Mp M w b n g)(hn:n<maxLen){s:κ}(hs:M.okK s)(v:β):
  ∃w',(Instr.mapUpdate M.mt (.map (some b)) (M.kv s) (M.ev v)).run P w= .ok () w'∧Mp M w' b (n+1) (upd g s v)∧Keep (fun k=>k=b) w w':=by
 obtain⟨D,ho,hg⟩:=h;obtain⟨w',hrun,ho',ht⟩:=ho.store M.keyed M.under hn (M.keyOf_ s hs) (M.rd_ev v);exact⟨w',hrun,⟨_,ho',put_says ho.isMap hg s v⟩,keep_turned ht⟩
def Waits(M:MK P κ β)(w1:World)(b n:Nat)(g:κ→Option β)(s:κ)(st:Value):Prop:=
 ∀(w2:World) (v:β),w2.heap[b]?=w1.heap[b]?→∃w3,(Instr.entryStore M.mt (.map (some b)) st (M.ev v)).run P w2= .ok () w3∧Mp M w3 b (n+1) (upd g s v)∧Keep (fun k=>k=b) w2 w3
theorem Mp.entry(h:Mp M w b n g)(hn:n<maxLen){s:κ}(hs:M.okK s):
  ∃(v0 st:Value) (w1:World),(Instr.mapEntry M.mt (.map (some b)) (M.kv s)).run P w= .ok (.tuple #[v0,st]) w1∧Keep (fun k=>k=b) w w1∧Waits M w1 b n g s st:=by
 obtain⟨D,ho,hg⟩:=h;have hob:=ho;obtain⟨es,clock,hb,F,hsz,hD⟩:=hob;obtain⟨v0,st,es1,clock1,hrun,hst⟩:=entry_store M.keyed M.under (fun u=>M.zero u) hb F (M.keyOf_ s hs);refine⟨v0,goInt st,_,hrun,keep_turned ⟨es,clock,es1,clock1,hb,rfl⟩,fun w2 v h2=> ?_⟩;have hlt:b<w.heap.size:=(Array.getElem?_eq_some_iff.1 hb).1;have h2':w2.heap[b]?=some (.map es1 clock1):=h2.trans (ChangeMaps.heap_setBlock_same hb _);obtain⟨es',clock',hr1,hr2⟩:=hst w2 (M.ev v) h2';obtain⟨w',hrun',ho',ht⟩:=ho.store M.keyed M.under hn (M.keyOf_ s hs) (M.rd_ev v);rw[hr2]at hrun';cases hrun';refine⟨_,hr1,Mp.heap (w:=ChangeMaps.setBlock w b (.map es' clock')) ⟨_,ho',put_says ho.isMap hg s v⟩ ?_,keep_turned ⟨es1,clock1,es',clock',h2',rfl⟩⟩;rw[ChangeMaps.heap_setBlock_same h2',ChangeMaps.heap_setBlock_same hb]
theorem Mp.del(h:Mp M w b n g){s:κ}(hs:M.okK s)(ty:TypeId):
  ∃w',(Builtin.delete_ #[M.mt,M.kt] ty #[.map (some b),M.kv s]).run P w= .ok (.tuple #[]) w'∧Mp M w' b n (cut g s)∧Keep (fun k=>k=b) w w':=by
 obtain⟨D,ho,hg⟩:=h;obtain⟨w',hrun,ho',ht⟩:=ho.drop M.keyed M.under (M.keyOf_ s hs) ty;refine⟨w',hrun,⟨_,ho',fun x=> ?_⟩,keep_turned ht⟩;unfold cut;by_cases e:x=s
 ·subst e;rw[if_pos rfl];exact⟨has_del_same,fun y hy=>by cases hy⟩
 ·rw[if_neg e];have hne:M.kl x≠M.kl s:=fun h=>e (M.kl_inj _ _ h)
  exact⟨by rw[has_del_other hne];exact(hg x).1,fun y hy d=>by rw[atKey_del_other hne];exact(hg x).2 y hy d⟩
end Vm
end Go.Proofs.YtfjmlfbohenmfaaGreat
namespace Go.Proofs.YtfjmlfbohenmfaaGreat
open Go.RowKit Go.Maps Go.WideMaps
attribute [local go_sem] Oper.semAt_some
namespace Co
theorem zeroB(w:World):(zeroValue 4).run Tryz.prog w= .ok (.bool false) w:=by kernel_rfl
def rdB:Value→Option (DataW Unit×List MemPlace)
 | .bool b=>some (.lit (.bool b),[])
 |_=>none
def mIB:Vm.MK Tryz.prog Int Bool where
 mt:=79
 kt:=3
 et:=4
 under:=Tryz.underlying79
 keyed:=int_keyed Tryz.underlying3
 kv:=fun x=> .int .i64 x
 kl:=fun x=> .int .i64 x
 okK:=fun x=> -9223372036854775808≤x∧x≤9223372036854775807
 keyOf_:=fun k h=>keyOf_int_mk Tryz.underlying3 (by show(decide (IntKind.i64.min≤k)&&decide (k≤IntKind.i64.max))=true;rw[show IntKind.i64.min= -9223372036854775808 by decide,show IntKind.i64.max=9223372036854775807 by decide,decide_eq_true h.1,decide_eq_true h.2];rfl)
 kl_inj:=fun a b h=>by cases h;rfl
 isKey:=fun _=>trivial
 ev:=fun b=> .bool b
 ed:=fun b=> .lit (.bool b)
 ed_inj:=fun a b h=>by cases h;rfl
 z:=false
 zero:=zeroB
 rd:=rdB
 rd_ev:=fun _=>rfl
 rd_inv:=fun x q h=>by
  unfold rdB at h;split at h
  ·rename_i b;cases h;exact⟨b,rfl,rfl⟩
  ·cases h
def on(q:Int→Bool):Int→Option Bool:=fun x=>if q x then some true else none
theorem on_upd(q:Int→Bool)(s:Int):Vm.upd (on q) s true=on fun x=>q x||decide (x=s):=by
 funext x
 unfold Vm.upd on;dsimp only;by_cases h:x=s
 ·rw[if_pos h,if_pos (by simp[h])]
 ·rw[if_neg h];by_cases hq:q x=true <;> simp[h,hq]
theorem on_cut(q:Int→Bool)(s:Int):Vm.cut (on q) s=on fun x=>q x&& !decide (x=s):=by
 funext x
 unfold Vm.cut on;dsimp only;by_cases h:x=s
 ·rw[if_pos h,if_neg (by simp[h])]
 ·rw[if_neg h];by_cases hq:q x=true <;> simp[h,hq]
theorem on_get(q:Int→Bool)(s:Int):(on q s).getD false=q s:=by
 unfold on;cases q s <;> rfl
def Set_(w:World)(b n:Nat)(q:Int→Bool):Prop:=Vm.Mp mIB w b n (on q)
theorem Set_.keep{S:Nat→Prop}{w w':World}{b n:Nat}{q:Int→Bool}(h:Set_ w b n q)(hk:Keep S w w')(hn:¬S b):Set_ w' b n q:=Vm.Mp.keep h hk hn
theorem Set_.below{w w':World}{b n:Nat}{q:Int→Bool}(h:Set_ w b n q)(hb:Below w.heap.size w w'):Set_ w' b n q:=Vm.Mp.below h hb
theorem Set_.lt{w:World}{b n:Nat}{q:Int→Bool}(h:Set_ w b n q):b<w.heap.size:=Vm.Mp.lt h
theorem Set_.mono{w:World}{b n m:Nat}{q:Int→Bool}(h:Set_ w b n q)(hm:n≤m):Set_ w b m q:=Vm.Mp.mono h hm
theorem Set_.ext{w:World}{b n:Nat}{q q':Int→Bool}(h:Set_ w b n q)(e:∀x,q x=q' x):Set_ w b n q':=by rw[show q'=q from funext fun x=>(e x).symm];exact h
theorem Set_.made(w:World):Set_ (w.alloc (.map #[] 0)) w.heap.size 0 fun _=>false:=Vm.Mp.made mIB w
theorem Set_.has{w:World}{b n:Nat}{q:Int→Bool}(h:Set_ w b n q){s:Int}(h0: -9223372036854775808≤s)(h1:s≤9223372036854775807):
  (Instr.lookup 79 (.map (some b)) (.int .i64 s) false).run Tryz.prog w= .ok (.bool (q s)) w:=by
 have:=Vm.Mp.look1 h (s:=s) ⟨h0,h1⟩;rw[show((on q s).getD mIB.z)=q s from on_get q s]at this;exact this
theorem Set_.put{w:World}{b n:Nat}{q:Int→Bool}(h:Set_ w b n q)(hn:n<maxLen){s:Int}(h0: -9223372036854775808≤s)(h1:s≤9223372036854775807):
  ∃w',(Instr.mapUpdate 79 (.map (some b)) (.int .i64 s) (.bool true)).run Tryz.prog w= .ok () w'∧Set_ w' b (n+1) (fun x=>q x||decide (x=s))∧Keep (fun k=>k=b) w w':=by
 obtain⟨w',h2,h3,h4⟩:=Vm.Mp.set h hn (s:=s) ⟨h0,h1⟩ true;rw[on_upd]at h3;exact⟨w',h2,h3,h4⟩
def Waits(w1:World)(b n:Nat)(q:Int→Bool)(s:Int)(st:Value):Prop:=
 ∀w2:World,w2.heap[b]?=w1.heap[b]?→∃w3,(Instr.entryStore 79 (.map (some b)) st (.bool true)).run Tryz.prog w2= .ok () w3∧Set_ w3 b (n+1) (fun x=>q x||decide (x=s))∧Keep (fun k=>k=b) w2 w3
theorem Set_.entry{w:World}{b n:Nat}{q:Int→Bool}(h:Set_ w b n q)(hn:n<maxLen){s:Int}(h0: -9223372036854775808≤s)(h1:s≤9223372036854775807):
  ∃v0 st w1,(Instr.mapEntry 79 (.map (some b)) (.int .i64 s)).run Tryz.prog w= .ok (.tuple #[v0,st]) w1∧Keep (fun k=>k=b) w w1∧Waits w1 b n q s st:=by
 obtain⟨v0,st,w1,h2,h3,h4⟩:=Vm.Mp.entry h hn (s:=s) ⟨h0,h1⟩;refine⟨v0,st,w1,h2,h3,fun w2 he=> ?_⟩;obtain⟨w3,h5,h6,h7⟩:=h4 w2 true he;rw[on_upd]at h6;exact⟨w3,h5,h6,h7⟩
theorem Set_.del{w:World}{b n:Nat}{q:Int→Bool}(h:Set_ w b n q){s:Int}(h0: -9223372036854775808≤s)(h1:s≤9223372036854775807)(ty:TypeId):
  ∃w',(Builtin.delete_ #[79,3] ty #[.map (some b),.int .i64 s]).run Tryz.prog w= .ok (.tuple #[]) w'∧Set_ w' b n (fun x=>q x&& !decide (x=s))∧Keep (fun k=>k=b) w w':=by
 obtain⟨w',h2,h3,h4⟩:=Vm.Mp.del h (s:=s) ⟨h0,h1⟩ ty;rw[on_cut]at h3;exact⟨w',h2,h3,h4⟩
structure WE where
 X:Nat
 ms:Nat
 mb:Nat
 mf:Option Nat
 see:Value
 lb:Nat→Prop
 J:List C→World→Prop
 Jx:List C→World→Prop
 tot:List C
 lim:Nat
 dy:World→Nat→Prop
def WE.own(E:WE)(k:Nat):Prop:=k=E.X∨k=E.ms∨k=E.mb∨E.mf=some k
def WE.ch(E:WE)(k:Nat):Prop:=E.own k∨E.lb k
structure KD(E:WE)(w w':World):Prop where
 sz:w.heap.size≤w'.heap.size
 bl:∀k,k<w.heap.size→¬E.own k→¬E.dy w k→w'.heap[k]?=w.heap[k]?
 dn:∀k,E.dy w' k→E.dy w k∨w.heap.size≤k
theorem KD.trans{E:WE}{a b c:World}(h:KD E a b)(k:KD E b c):KD E a c:=
 ⟨Nat.le_trans h.sz k.sz,fun i hi ho hd=>(k.bl i (Nat.lt_of_lt_of_le hi h.sz) ho (fun e=>(h.dn i e).elim hd (fun e=>by omega))).trans (h.bl i hi ho hd),fun i hi=>(k.dn i hi).elim (h.dn i) (fun e=> .inr (Nat.le_trans h.sz e))⟩
structure Wk(E:WE)(w:World)(cnt:Nat)(dn:Bool)(sc bd fr:Int→Bool)(n:Nat):Prop where
 hp:Hp w E.X #[.int .i64 (cnt:Int),.map (some E.ms),.map (some E.mb),.map E.mf,E.see,.bool dn] 81
 hs:Set_ w E.ms n sc
 hb:Set_ w E.mb n bd
 hf:∀b,E.mf=some b→Set_ w b n fr
 hl:E.lim≤w.heap.size
theorem Wk.keep{E:WE}{S:Nat→Prop}{w w':World}{cnt n:Nat}{dn:Bool}{sc bd fr:Int→Bool}(h:Wk E w cnt dn sc bd fr n)(hk:Keep S w w')(hS:∀k,E.own k→¬S k):Wk E w' cnt dn sc bd fr n:=
 ⟨h.hp.keep hk (hS _ (.inl rfl)),h.hs.keep hk (hS _ (.inr (.inl rfl))),h.hb.keep hk (hS _ (.inr (.inr (.inl rfl)))),fun b hb=>(h.hf b hb).keep hk (hS _ (.inr (.inr (.inr hb)))),Nat.le_trans h.hl hk.size⟩
theorem Wk.below{E:WE}{w w':World}{cnt n:Nat}{dn:Bool}{sc bd fr:Int→Bool}(h:Wk E w cnt dn sc bd fr n)(hb:Below w.heap.size w w'):Wk E w' cnt dn sc bd fr n:=
 h.keep (S:=fun _=>False) (keep_of_below hb) (fun _ _ h=>h)
theorem Wk.own_lt{E:WE}{w:World}{cnt n:Nat}{dn:Bool}{sc bd fr:Int→Bool}(h:Wk E w cnt dn sc bd fr n){k:Nat}(hk:E.own k):k<w.heap.size:=by
 rcases hk with rfl|rfl|rfl|hk
 ·exact h.hp.lt
 ·exact h.hs.lt
 ·exact h.hb.lt
 ·exact(h.hf k hk).lt
def Told(E:WE)(pre:List C)(x:C)(W:World)(e:Ending)(W':World):Prop:=
 (e= .returned (.bool true)∧E.J (pre++[x]) W'∧Keep E.lb W W'∧KD E W W')∨(e= .returned (.bool false)∧E.Jx (pre++[x]) W'∧Keep E.lb W W'∧KD E W W')
structure WE.Ok(E:WE):Prop where
 sb:E.ms≠E.mb
 sf:E.mf≠some E.ms
 bf:E.mf≠some E.mb
 xs:E.X≠E.ms
 xb:E.X≠E.mb
 xf:E.mf≠some E.X
 lo:∀k,E.own k→¬E.lb k
 dyl:∀s W k,E.J s W→E.lim≤W.heap.size→E.dy W k→k<W.heap.size
 dst:∀A B k,E.lim≤A.heap.size→Keep E.own A B→E.dy B k→E.dy A k
 jst:∀s A B,E.J s A→Keep E.own A B→E.J s B
 jxst:∀s A B,E.Jx s A→Keep E.own A B→E.Jx s B
 told:(E.see= .nilFunc∧∀pre x W,E.J pre W→E.J (pre++[x]) W)∨(∃f cap,E.see= .func (.func f) #[] cap∧(∀args w,(callFunc f args).run Tryz.prog w= .ok (.enter f args) w)∧∀(G:Nat→Prop) (pre:List C) (x:C) (vm vl vt vp vk:Value) (W:World),E.J pre W→pre++[x]<+:E.tot→Wf x→Rep G W x vm vl vt vp vk→(∀k,G k→¬E.ch k)→Calls Tryz.prog f (#[V x vm vl vt vp vk]++cap) W (Told E pre x W))
theorem KD.own{E:WE}(hE:E.Ok){a b:World}(hl:E.lim≤a.heap.size)(h:Keep E.own a b):KD E a b:=⟨h.size,fun k hk ho _=>h.block k hk ho,fun k hk=> .inl (hE.dst a b k hl h hk)⟩
structure KE(E:WE)(w w':World):Prop where
 kp:Keep E.ch w w'
 kd:KD E w w'
theorem KE.trans{E:WE}{a b c:World}(h:KE E a b)(k:KE E b c):KE E a c:=⟨h.kp.trans k.kp,h.kd.trans k.kd⟩
theorem KE.own{E:WE}(hE:E.Ok){a b:World}(hl:E.lim≤a.heap.size)(h:Keep E.own a b):KE E a b:=⟨h.le fun _ e=> .inl e,KD.own hE hl h⟩
theorem KE.of_below{E:WE}(hE:E.Ok){a b:World}(hl:E.lim≤a.heap.size)(h:Below a.heap.size a b):KE E a b:=KE.own hE hl (keep_of_below h)
def GPost(E:WE)(c:C)(deep:Nat)(win:List Int)(top:Bool)(cnt:Nat)(bdl:List Int)(sc fr:Int→Bool)(seen:List C)(w:World)(e:Ending)(w':World):Prop:=
 ∃(r:Int) (cnt':Nat) (dn':Bool) (sc' bd' fr':Int→Bool) (n':Nat),e= .returned (.int .i64 r)∧Wk E w' cnt' dn' sc' bd' fr' n'∧KE E w w'∧(r=0→n'≤1048576+64*cnt')∧cnt'≤8192∧
  ((dn' = false ∧ r = (goes E.mf.isSome c deep win top cnt bdl).1 ∧ (r = 0 → cnt' = (goes E.mf.isSome c deep win top cnt bdl).2.1 ∧ (∀ x, bd' x = (goes E.mf.isSome c deep win top cnt bdl).2.2.contains x) ∧ (∀ x, sc' x = sc x) ∧ (∀ x, fr' x = (fr x || (frees c win).contains x)) ∧ E.J (seen ++ parts c) w')) ∨
   (dn'=true∧r=0∧∃pre,pre<+:seen++parts c∧E.Jx pre w'))
def GoesIs(E:WE)(c:C):Prop:=
 ∀(G:Nat→Prop) (vm vl vt vp vk:Value) (w:World) (deep:Nat) (win:List Int) (top:Bool) (cnt:Nat) (bdl:List Int) (sc bd fr:Int→Bool) (n:Nat) (seen:List C),
  Wf c→Rep G w c vm vl vt vp vk→(∀k,G k→¬E.ch k)→deep≤4611686018427387904→Wk E w cnt false sc bd fr n→n≤1048576+64*cnt→cnt≤8192→(∀x,sc x=win.contains x)→(∀x,bd x=bdl.contains x)→(∀x∈win,x∈bdl)→E.J seen w→seen++parts c<+:E.tot→
  Calls Tryz.prog 36 #[.pointer (some ⟨E.X,0,none⟩),V c vm vl vt vp vk,.int .i64 (deep:Int),.bool top] w (GPost E c deep win top cnt bdl sc fr seen w)
def Bc(w:World)(B:Nat)(c:C)(vm vl vt vp vk:Value):Prop:=Hp w B #[.int .i64 c.k,.int .i64 c.n,.string c.s,.int .i64 c.d.k,.int .i64 c.d.n,.string c.d.s,vm,vl,vt,vp,vk] 28
theorem Bc.keep{S:Nat→Prop}{w w':World}{B:Nat}{c:C}{vm vl vt vp vk:Value}(h:Bc w B c vm vl vt vp vk)(hk:Keep S w w')(hn:¬S B):Bc w' B c vm vl vt vp vk:=Hp.keep h hk hn
structure BcE(E:WE)(w:World)(B:Nat)(c:C)(vm vl vt vp vk:Value):Prop where
 bc:Bc w B c vm vl vt vp vk
 no:¬E.own B
 nd:¬E.dy w B
theorem BcE.new{E:WE}(hE:E.Ok){w w1:World}{cnt n:Nat}{dn:Bool}{sc bd fr:Int→Bool}{seen:List C}{c:C}{vm vl vt vp vk:Value}(h:w.alloc (.cells #[.int .i64 c.k,.int .i64 c.n,.string c.s,.int .i64 c.d.k,.int .i64 c.d.n,.string c.d.s,vm,vl,vt,vp,vk] 28)=w1)(hw:Wk E w cnt dn sc bd fr n)(hJ:E.J seen w):BcE E w1 w.heap.size c vm vl vt vp vk:=
 ⟨Hp.new h,fun e=>Nat.lt_irrefl _ (hw.own_lt e),fun e=>Nat.lt_irrefl _ (hE.dyl _ _ _ hJ hw.hl (hE.dst _ _ _ hw.hl (keep_of_below (new_below h).1) e))⟩
theorem BcE.kd{E:WE}{w w':World}{B:Nat}{c:C}{vm vl vt vp vk:Value}(h:BcE E w B c vm vl vt vp vk)(hk:KD E w w'):BcE E w' B c vm vl vt vp vk:=
 ⟨(hk.bl B h.bc.lt h.no h.nd).trans h.bc,h.no,fun e=>(hk.dn B e).elim h.nd (fun e=>by have:=Hp.lt h.bc;omega)⟩
theorem BcE.ke{E:WE}{w w':World}{B:Nat}{c:C}{vm vl vt vp vk:Value}(h:BcE E w B c vm vl vt vp vk)(hk:KE E w w'):BcE E w' B c vm vl vt vp vk:=h.kd hk.kd
theorem BcE.own{E:WE}(hE:E.Ok){w w':World}{B:Nat}{c:C}{vm vl vt vp vk:Value}(h:BcE E w B c vm vl vt vp vk)(hl:E.lim≤w.heap.size)(hk:Keep E.own w w'):BcE E w' B c vm vl vt vp vk:=h.kd (KD.own hE hl hk)
theorem BcE.below{E:WE}(hE:E.Ok){w w':World}{B:Nat}{c:C}{vm vl vt vp vk:Value}(h:BcE E w B c vm vl vt vp vk)(hl:E.lim≤w.heap.size)(hb:Below w.heap.size w w'):BcE E w' B c vm vl vt vp vk:=h.own hE hl (keep_of_below hb)
theorem BcE.cell{E:WE}{w:World}{B:Nat}{c:C}{vm vl vt vp vk:Value}(h:BcE E w B c vm vl vt vp vk)(i:Nat){v:Value}(hv:(#[.int .i64 c.k,.int .i64 c.n,.string c.s,.int .i64 c.d.k,.int .i64 c.d.n,.string c.d.s,vm,vl,vt,vp,vk]:Array Value)[i]?=some v):w.cell? ⟨B,i,none⟩=some v:=Hp.cell h.bc i hv
theorem here_deep{opn:Bool}{c:C}{deep:Nat}{win:List Int}{top:Bool}{cnt:Nat}{bd:List Int}(h:128<deep):here opn c deep win top cnt bd=4:=by unfold here;rw[if_pos h]
theorem here_long{opn:Bool}{c:C}{deep:Nat}{win:List Int}{top:Bool}{cnt:Nat}{bd:List Int}(h:¬128<deep)(h2:8192≤cnt):here opn c deep win top cnt bd=3:=by unfold here;rw[if_neg h,if_pos h2]
theorem here_alone{opn:Bool}{c:C}{deep:Nat}{win:List Int}{top:Bool}{cnt:Nat}{bd:List Int}(h:¬128<deep)(h2:¬8192≤cnt)(h3:alone c=false∨(c.k=6∧top=false)):here opn c deep win top cnt bd=70:=by unfold here;rw[if_neg h,if_neg h2,if_pos h3]
theorem here_free{opn:Bool}{c:C}{deep:Nat}{win:List Int}{top:Bool}{cnt:Nat}{bd:List Int}(h:¬128<deep)(h2:¬8192≤cnt)(h3:¬ (alone c=false∨(c.k=6∧top=false)))(h4:(c.k=2∨c.k=4)∧opn=false∧win.contains c.n=false):here opn c deep win top cnt bd=70:=by unfold here;rw[if_neg h,if_neg h2,if_neg h3,if_pos h4]
theorem here_last{opn:Bool}{c:C}{deep:Nat}{win:List Int}{top:Bool}{cnt:Nat}{bd:List Int}(h:¬128<deep)(h2:¬8192≤cnt)(h3:¬ (alone c=false∨(c.k=6∧top=false)))(h4:¬ ((c.k=2∨c.k=4)∧opn=false∧win.contains c.n=false)):here opn c deep win top cnt bd=if c.p.any bd.contains then 70 else 0:=by unfold here;rw[if_neg h,if_neg h2,if_neg h3,if_neg h4]
theorem goes_fault{opn:Bool}{c:C}{deep:Nat}{win:List Int}{top:Bool}{cnt:Nat}{bd:List Int}(h:here opn c deep win top cnt bd≠0):(goes opn c deep win top cnt bd).1=here opn c deep win top cnt bd:=by
 cases c with
 |mk k n s d p l=>rw[goes,if_pos h]
theorem goes_fine{opn:Bool}{c:C}{deep:Nat}{win:List Int}{top:Bool}{cnt:Nat}{bd:List Int}(h:here opn c deep win top cnt bd=0):goes opn c deep win top cnt bd=goesL opn c.l (deep+1) (inner c.k c.p win) (top&&decide (c.k=9)) (cnt+1) (bd++c.p):=by
 cases c with
 |mk k n s d p l=>rw[goes,if_neg (by rw[h];simp)];rfl
theorem alone_p32{c:C}(h:alone c=true):c.p.length≤32:=by
 rcases alone_p h with e|⟨e,-⟩
 ·rw[e];simp
 ·cases c with
  |mk k n s d p l=>
   have e':k=8:=e;subst e';unfold alone at h;dsimp only at h;rw[if_neg (by decide)]at h;split at h
   ·cases h
   rw[if_pos rfl,Bool.and_eq_true]at h;have h2:=h.2;unfold params at h2;rw[Bool.and_eq_true,Bool.and_eq_true,Bool.and_eq_true]at h2;exact of_decide_eq_true h2.1.1.1
end Co
theorem coGoes_done(E:Co.WE)(c:Co.C)(vm vl vt vp vk:Value)(w:World)(deep:Nat)(top:Bool)(cnt n:Nat)(sc bd fr:Int→Bool)(hw:Co.Wk E w cnt true sc bd fr n):
  Calls Tryz.prog 36 #[.pointer (some ⟨E.X,0,none⟩),Co.V c vm vl vt vp vk,.int .i64 (deep:Int),.bool top] w fun e w'=>e= .returned (.int .i64 0)∧Below w.heap.size w w':=by
 unfold Co.V;obtain⟨w1,hw1⟩:∃w1,w.alloc (.cells #[.int .i64 c.k,.int .i64 c.n,.string c.s,.int .i64 c.d.k,.int .i64 c.d.n,.string c.d.s,vm,vl,vt,vp,vk] 28)=w1:=⟨_,rfl⟩
 obtain⟨hb1,-⟩:=new_below hw1;have x5:=(hw.hp.below hb1).cell 5 rfl;have HB:=hd hb1;clear hb1 hw;go_enter Tryz.func36,Tryz.ntmps36;go_wp2;go_ret;exact⟨rfl,HB.out⟩
namespace Co
def Mid1(E:WE)(c:C)(vm vl vt vp vk:Value)(G:Nat→Prop)(C0:Nat)(w:World)(cnt:Nat)(win:List Int)(sc bd fr:Int→Bool)(seen:List C)(wx:World):Prop:=
 ∃fr' n',Wk E wx cnt false sc bd fr' n'∧BcE E wx C0 c vm vl vt vp vk∧Rep G wx c vm vl vt vp vk∧KE E w wx∧n'≤1048576+64*cnt+1∧(∀x,fr' x=(fr x||(if(c.k=2∨c.k=4)∧win.contains c.n=false then [c.n]else []).contains x))∧¬ ((c.k=2∨c.k=4)∧E.mf.isSome=false∧win.contains c.n=false)∧E.J seen wx
theorem eqlIn_see(d:Nat)(f:Fn)(ts lb:Array Value)(w:World):(Op.equalIn (d+1) 75 (.func f ts lb) .nilFunc).run Tryz.prog w= .ok false w:=by
 simp[Op.equalIn,run_underlying Tryz.underlying75]
theorem eqlIn_see0(d:Nat)(w:World):(Op.equalIn (d+1) 75 .nilFunc .nilFunc).run Tryz.prog w= .ok true w:=by
 simp[Op.equalIn,run_underlying Tryz.underlying75]
theorem neq_see(f:Fn)(ts lb:Array Value)(w:World):(binOp .neq 75 (.func f ts lb) .nilFunc).run Tryz.prog w= .ok (.bool true) w:=by
 simp only[binOp];simp[Op.equal,Op.maxDepth,eqlIn_see 9999 f ts lb w]
theorem neq_see0(w:World):(binOp .neq 75 .nilFunc .nilFunc).run Tryz.prog w= .ok (.bool false) w:=by
 simp only[binOp];simp[Op.equal,Op.maxDepth,eqlIn_see0 9999 w]
theorem Told.b{E:WE}{pre:List C}{x:C}{W W':World}{e:Ending}(h:Told E pre x W e W'):∃b:Bool,e= .returned (.bool b)∧(b=true→E.J (pre++[x]) W')∧(b=false→E.Jx (pre++[x]) W')∧Keep E.lb W W'∧KD E W W':=by
 rcases h with⟨h1,h2,h3⟩|⟨h1,h2,h3⟩
 ·exact⟨true,h1,fun _=>h2,fun e=>(by cases e),h3⟩
 ·exact⟨false,h1,fun e=>(by cases e),fun _=>h2,h3⟩
def Mid3(E:WE)(c:C)(vm vl vt vp vk:Value)(G:Nat→Prop)(C0:Nat)(w:World)(cnt:Nat)(sc bd fr1:Int→Bool)(n1:Nat)(seen:List C)(wx:World):Prop:=
 ∃n' dn,Wk E wx (cnt+1) dn (fun x=>sc x||c.p.contains x) (fun x=>bd x||c.p.contains x) fr1 n'∧BcE E wx C0 c vm vl vt vp vk∧Rep G wx c vm vl vt vp vk∧KE E w wx∧n'≤n1+32∧((dn=false∧E.J (seen++[c]) wx)∨(dn=true∧E.Jx (seen++[c]) wx))
def L1(E:WE)(c:C)(vm vl vt vp vk:Value)(G:Nat→Prop)(C0:Nat)(w:World)(cnt:Nat)(bdl:List Int)(sc bd fr1:Int→Bool)(n1:Nat)(seen:List C)(j:Nat)(wx:World):Prop:=
 ∃n',Wk E wx cnt false (fun x=>sc x||(c.p.take j).contains x) (fun x=>bd x||(c.p.take j).contains x) fr1 n'∧BcE E wx C0 c vm vl vt vp vk∧Rep G wx c vm vl vt vp vk∧KE E w wx∧n'≤n1+j∧E.J seen wx∧(c.p.take j).any bdl.contains=false
theorem contains_take{l:List Int}{j:Nat}(hj:j<l.length)(x:Int):(l.take (j+1)).contains x=((l.take j).contains x||decide (x=l[j])):=by
 rw[List.take_succ_eq_append_getElem hj,Bool.eq_iff_iff,Bool.or_eq_true,List.contains_iff_mem,List.contains_iff_mem,List.mem_append,List.mem_singleton,decide_eq_true_eq]
theorem not_before{l:List Int}(h:l.Nodup){j:Nat}(hj:j<l.length):(l.take j).contains l[j]=false:=by
 rw[Bool.eq_false_iff];intro h2;have h3:=List.contains_iff_mem.1 h2;obtain⟨i,hi,e⟩:=List.mem_take_iff_getElem.1 h3;exact List.pairwise_iff_getElem.1 h i j (by omega) hj (by omega) e
theorem GPost.fault{E:WE}{c:C}{deep:Nat}{win:List Int}{top:Bool}{cnt:Nat}{bdl:List Int}{sc fr:Int→Bool}{seen:List C}{w wx:World}{cnt':Nat}{sc' bd' fr':Int→Bool}{n':Nat}{r:Int}
  (hr:(goes E.mf.isSome c deep win top cnt bdl).1=r) (h0:r≠0) (hw:Wk E wx cnt' false sc' bd' fr' n') (hk:KE E w wx) (hc:cnt'≤8192):GPost E c deep win top cnt bdl sc fr seen w (.returned (.int .i64 r)) wx:=
 ⟨r,cnt',false,sc',bd',fr',n',rfl,hw,hk,fun h=>absurd h h0,hc,.inl ⟨rfl,hr.symm,fun h=>absurd h h0⟩⟩
theorem drew_below(w:World):Below w.heap.size w w.drew:=⟨rfl,rfl,rfl,Nat.le_refl _,fun _ _=>rfl⟩
theorem lows{E:WE}(hE:E.Ok){w wx:World}(hl:E.lim≤w.heap.size)(h:Below w.heap.size w wx):KE E w wx:=KE.of_below hE hl h
theorem wf_parts{c:C}(h:Wf c):(-9223372036854775808≤c.n∧c.n≤9223372036854775807)∧c.s.size≤140737488355328∧Dt.Wf c.d∧c.p.length≤140737488355328∧(∀x∈c.p,-9223372036854775808≤x∧x≤9223372036854775807)∧c.l.length≤140737488355328∧Wfs c.l:=by
 cases c;rw[Wf]at h;exact h
theorem partsL_app:∀(a b:List C),partsL (a++b)=partsL a++partsL b
 |[],b=>by rw[partsL];rfl
 |x :: a,b=>by rw[List.cons_append,partsL,partsL,partsL_app a b,List.append_assoc]
theorem freesL_app(win:List Int):∀(a b:List C),freesL (a++b) win=freesL a win++freesL b win
 |[],b=>by rw[freesL];rfl
 |x :: a,b=>by rw[List.cons_append,freesL,freesL,freesL_app win a b,List.append_assoc]
theorem partsL_snoc{l:List C}{j:Nat}(h:j<l.length):partsL (l.take (j+1))=partsL (l.take j)++parts l[j]:=by
 rw[List.take_succ_eq_append_getElem h,partsL_app,partsL,partsL,List.append_nil]
theorem freesL_snoc(win:List Int){l:List C}{j:Nat}(h:j<l.length):freesL (l.take (j+1)) win=freesL (l.take j) win++frees l[j] win:=by
 rw[List.take_succ_eq_append_getElem h,freesL_app,freesL,freesL,List.append_nil]
theorem partsL_pre(l:List C)(j:Nat):partsL (l.take j)<+:partsL l:=by
 conv=>rhs;rw[←List.take_append_drop j l,partsL_app]
 exact List.prefix_append _ _
theorem parts_cons(c:C):parts c=c :: partsL c.l:=by cases c;rw[parts];rfl
def L2(E:WE)(c:C)(vm vl vt vp vk:Value)(G:Nat→Prop)(C0:Nat)(w:World)(deep:Nat)(win':List Int)(T:Bool)(RL:Int×Nat×List Int)(fr1:Int→Bool)(seen:List C)(j:Nat)(wx:World):Prop:=
 ∃cnt' dn sc' bd' fr' n',Wk E wx cnt' dn sc' bd' fr' n'∧BcE E wx C0 c vm vl vt vp vk∧Rep G wx c vm vl vt vp vk∧KE E w wx∧n'≤1048576+64*cnt'∧cnt'≤8192∧
  ((dn = false ∧ ∃ bdl', goesL E.mf.isSome (c.l.drop j) (deep + 1) win' T cnt' bdl' = RL ∧ (∀ x, bd' x = bdl'.contains x) ∧ (∀ x, sc' x = win'.contains x) ∧ (∀ x ∈ win', x ∈ bdl') ∧ (∀ x, fr' x = (fr1 x || (freesL (c.l.take j) win').contains x)) ∧ E.J (seen ++ c :: partsL (c.l.take j)) wx) ∨
   (dn=true∧∃pre,pre<+:seen++parts c∧E.Jx pre wx))
def CP(E:WE)(c:C)(vm vl vt vp vk:Value)(G:Nat→Prop)(C0:Nat)(w:World)(deep:Nat)(win':List Int)(T:Bool)(RL:Int×Nat×List Int)(fr1:Int→Bool)(seen:List C)(j:Nat)(e:Ending)(w':World):Prop:=
 ∃r:Int,e= .returned (.int .i64 r)∧((r≠0∧RL.1=r∧∃cnt' sc' bd' fr' n',Wk E w' cnt' false sc' bd' fr' n'∧KE E w w'∧cnt'≤8192)∨(r=0∧L2 E c vm vl vt vp vk G C0 w deep win' T RL fr1 seen (j+1) w'))
theorem goes_mono{opn:Bool}:∀(c:C) {deep:Nat} {win:List Int} {top:Bool} {cnt:Nat} {bd:List Int},∀x∈bd,x∈(goes opn c deep win top cnt bd).2.2
 | .mk k n s d p l,deep,win,top,cnt,bd,x,hx=>by
  rw[goes];split
  ·exact hx
  ·exact goesL_mono l x (List.mem_append_left _ hx)
where goesL_mono {opn:Bool}:∀(l:List C) {deep:Nat} {win:List Int} {top:Bool} {cnt:Nat} {bd:List Int},∀x∈bd,x∈(goesL opn l deep win top cnt bd).2.2
 |[],deep,win,top,cnt,bd,x,hx=>by rw[goesL];exact hx
 |c :: r,deep,win,top,cnt,bd,x,hx=>by
  rw[goesL];split
  ·exact goes_mono c x hx
  ·exact goesL_mono r x (goes_mono c x hx)
theorem L2.call{E:WE}(hE:E.Ok){c:C}(hch:∀y∈c.l,GoesIs E y){vm vl vt vp vk:Value}{G:Nat→Prop}{C0:Nat}{w:World}{deep:Nat}{win':List Int}{T:Bool}{RL:Int×Nat×List Int}{fr1:Int→Bool}{seen:List C}{j:Nat}{wx W1:World}
  (h:L2 E c vm vl vt vp vk G C0 w deep win' T RL fr1 seen j wx) (hj:j<c.l.length) (hd:deep≤128) (hWf:Wf c) (hG:∀k,G k→¬E.ch k) (htot:seen++parts c<+:E.tot) (hb:Below wx.heap.size wx W1) {um ul ut up uk:Value} (hR:Rep G W1 c.l[j] um ul ut up uk):
  Calls Tryz.prog 36 #[.pointer (some ⟨E.X,0,none⟩),V c.l[j] um ul ut up uk,.int .i64 ((deep+1:Nat):Int),.bool T] W1 (CP E c vm vl vt vp vk G C0 w deep win' T RL fr1 seen j):=by
 obtain⟨cnt',dn,sc',bd',fr',n',hwk,hbc,hrep,hkp,hn,hc,hcase⟩:=h;have hkp1:KE E w W1:=hkp.trans (lows hE hwk.hl hb);have hbc1:BcE E W1 C0 c vm vl vt vp vk:=hbc.below hE hwk.hl hb;have hrep1:=hrep.below hb;have hpp:seen++c :: partsL (c.l.take (j+1))<+:seen++parts c:=by
  rw[parts_cons];exact(List.prefix_append_right_inj seen).2 ((List.cons_prefix_cons).2 ⟨rfl,partsL_pre c.l (j+1)⟩)
 have hap:(seen++c :: partsL (c.l.take j))++parts c.l[j]=seen++c :: partsL (c.l.take (j+1)):=by
  rw[partsL_snoc hj,List.append_assoc,List.cons_append]
 rcases hcase with⟨rfl,bdl',hgl,hbd,hsc,hwin,hfr,hJ⟩|⟨rfl,pre,hpre,hx⟩
 ·have hy:Wf c.l[j]:=(wf_parts hWf).2.2.2.2.2.2.at j hj;refine(hch c.l[j] (List.getElem_mem hj) G um ul ut up uk W1 (deep+1) win' T cnt' bdl' sc' bd' fr' n' (seen++c :: partsL (c.l.take j)) hy hR hG (by omega) (hwk.below hb) hn hc hsc hbd hwin (hE.jst _ _ _ hJ (keep_of_below hb)) (by rw[hap];exact hpp.trans htot)).mono ?_;rintro e w' ⟨r,c2,dn2,sc2,bd2,fr2,n2,rfl,hwk2,hk2,hn2,hc2,hcase⟩;rw[List.drop_eq_getElem_cons hj,goesL]at hgl;have hkw:KE E w w':=hkp1.trans hk2;refine⟨r,rfl,?_⟩;by_cases hr:r=0
  ·refine .inr ⟨hr,c2,dn2,sc2,bd2,fr2,n2,hwk2,hbc1.ke hk2,Rep.keep hk2.kp (fun b hb _=>hG b hb) c hrep1,hkw,hn2 hr,hc2,?_⟩;rcases hcase with⟨rfl,e,h0⟩|⟨rfl,-,pre,hp,hx⟩
   ·obtain⟨rfl,f2,f3,f4,f5⟩:=h0 hr;rw[if_neg (by rw[←e,hr];simp)]at hgl;refine .inl ⟨rfl,_,hgl,f2,fun x=>by rw[f3,hsc],fun x hx=>goes_mono _ x (hwin x hx),fun x=> ?_,by rw[←hap];exact f5⟩;rw[f4,hfr,freesL_snoc win' hj,Bool.or_assoc]
    congr 1
    rw[Bool.eq_iff_iff];simp
   ·exact .inr ⟨rfl,pre,by rw[hap]at hp;exact hp.trans hpp,hx⟩
  ·rcases hcase with⟨rfl,e,-⟩|⟨rfl,e,-⟩
   ·rw[if_pos (by rw[←e];exact hr)]at hgl;exact .inl ⟨hr,by rw[←hgl,←e],c2,sc2,bd2,fr2,n2,hwk2,hkw,hc2⟩
   ·exact absurd e hr
 ·refine(coGoes_done E c.l[j] um ul ut up uk W1 (deep+1) T cnt' n' sc' bd' fr' (hwk.below hb)).mono ?_;rintro e w' ⟨rfl,hb2⟩;refine⟨0,rfl,.inr ⟨rfl,cnt',true,sc',bd',fr',n',(hwk.below hb).below hb2,hbc1.below hE (hwk.below hb).hl hb2,hrep1.below hb2,hkp1.trans (lows hE (hwk.below hb).hl hb2),hn,hc,.inr ⟨rfl,pre,hpre,hE.jxst _ _ _ (hE.jxst _ _ _ hx (keep_of_below hb)) (keep_of_below hb2)⟩⟩⟩
theorem Rep.forms5{F:Nat→Prop}{w:World}{c:C}{um ul ut up uk:Value}(h:Rep F w c um ul ut up uk):∃b1 n1 q1 b2 n2 q2 b3 n3 q3 b4 n4 q4 b5 n5 q5,um= .slice b1 n1 q1∧ul= .slice b2 n2 q2∧ut= .slice b3 n3 q3∧up= .slice b4 n4 q4∧uk= .slice b5 n5 q5:=by
 obtain⟨h1,⟨a,cp,rfl,-⟩,⟨a',ck,rfl,-⟩⟩:=(rep_iff _ _ _ _ _ _ _ _).1 h;obtain⟨b1,n1,q1,b2,n2,q2,b3,n3,q3,rfl,rfl,rfl⟩:=h1.forms;exact⟨b1,n1,q1,b2,n2,q2,b3,n3,q3,_,_,_,_,_,_,rfl,rfl,rfl,rfl,rfl⟩
def L3(E:WE)(c:C)(vm vl vt vp vk:Value)(G:Nat→Prop)(C0:Nat)(w:World)(win':List Int)(RL:Int×Nat×List Int)(fr1:Int→Bool)(seen:List C)(i:Nat)(wx:World):Prop:=
 ∃cnt' dn sc' bd' fr' n',Wk E wx cnt' dn sc' bd' fr' n'∧BcE E wx C0 c vm vl vt vp vk∧Rep G wx c vm vl vt vp vk∧KE E w wx∧n'≤1048576+64*cnt'∧cnt'≤8192∧
  ((dn = false ∧ ∃ bdl', RL = (0, cnt', bdl') ∧ (∀ x, bd' x = bdl'.contains x) ∧ (∀ x, sc' x = (win'.contains x && !(c.p.take i).contains x)) ∧ (∀ x, fr' x = (fr1 x || (freesL c.l win').contains x)) ∧ E.J (seen ++ parts c) wx) ∨
   (dn=true∧∃pre,pre<+:seen++parts c∧E.Jx pre wx))
theorem L2.to3{E:WE}{c:C}{vm vl vt vp vk:Value}{G:Nat→Prop}{C0:Nat}{w:World}{deep:Nat}{win':List Int}{T:Bool}{RL:Int×Nat×List Int}{fr1:Int→Bool}{seen:List C}{wx:World}
  (h:L2 E c vm vl vt vp vk G C0 w deep win' T RL fr1 seen c.l.length wx):L3 E c vm vl vt vp vk G C0 w win' RL fr1 seen 0 wx:=by
 obtain⟨cnt',dn,sc',bd',fr',n',hwk,hbc,hrep,hkp,hn,hc,hcase⟩:=h;refine⟨cnt',dn,sc',bd',fr',n',hwk,hbc,hrep,hkp,hn,hc,?_⟩;rcases hcase with⟨e,bdl',hgl,hbd,hsc,hwin,hfr,hJ⟩|h
 ·rw[List.drop_length,goesL]at hgl;rw[List.take_length]at hfr hJ;exact .inl ⟨e,bdl',hgl.symm,hbd,fun x=>by rw[hsc,List.take_zero];simp,hfr,by rw[parts_cons];exact hJ⟩
 ·exact .inr h
end Co
theorem coGoes_step(E:Co.WE)(hE:E.Ok)(c:Co.C)(hch:∀y∈c.l,Co.GoesIs E y):Co.GoesIs E c:=by
 intro G vm vl vt vp vk w deep win top cnt bdl sc bd fr n seen hWf hRep hG hdeep hWk hn hcnt hsc hbd hwin hJ htot;obtain⟨-,⟨ap,cp,rfl,hlcp,-⟩,⟨ak,ck,rfl,hlck,-⟩⟩:=(Co.rep_iff _ _ _ _ _ _ _ _).1 hRep;unfold Co.V;obtain⟨w1,hw1⟩:∃w1,w.alloc (.cells #[.int .i64 c.k,.int .i64 c.n,.string c.s,.int .i64 c.d.k,.int .i64 c.d.n,.string c.d.s,vm,vl,vt,.slice ap c.p.length cp,.slice ak c.l.length ck] 28)=w1:=⟨_,rfl⟩
 obtain⟨hb1,hs1⟩:=new_below hw1;obtain⟨C0,hC0⟩:∃C0,w.heap.size=C0:=⟨_,rfl⟩
 have Hc:=hd (Co.BcE.new hE hw1 hWk hJ);rw[hC0]at Hc;have HWK:=hd (hWk.below hb1);have HWK0:=hd hWk;have HRP:=hd (hRep.below hb1);have HC0:=hd hC0;have HB1:=hd hb1;have HJ1:Hid (E.J seen w1):=hE.jst _ _ _ hJ (keep_of_below hb1);have Hx:Hid (Hp w1 E.X #[.int .i64 (cnt:Int),.map (some E.ms),.map (some E.mb),.map E.mf,E.see,.bool false] 81):=HWK.out.hp;have HE:=hd hE;have HCH:=hd hch;have HWF:=hd hWf;have HG:=hd hG;have HN:=hd hn;have HSC:=hd hsc;have HBD:=hd hbd;have HWIN:=hd hwin;have HTOT:=hd htot;have x0:=Hx.out.cell 0 rfl;have x1:=Hx.out.cell 1 rfl;have x2:=Hx.out.cell 2 rfl;have x3:=Hx.out.cell 3 rfl;have x4:=Hx.out.cell 4 rfl;have x5:=Hx.out.cell 5 rfl;have c0:=Hc.out.cell 0 rfl;have c1:=Hc.out.cell 1 rfl;have c2:=Hc.out.cell 2 rfl;have c3:=Hc.out.cell 3 rfl;have c4:=Hc.out.cell 4 rfl;have c5:=Hc.out.cell 5 rfl;have c6:=Hc.out.cell 6 rfl;have c7:=Hc.out.cell 7 rfl;have c8:=Hc.out.cell 8 rfl;have c9:=Hc.out.cell 9 rfl;have c10:=Hc.out.cell 10 rfl;have hsg:=singleC_any c vm vl vt (.slice ap c.p.length cp) (.slice ak c.l.length ck) w1 hWf HRP.out;unfold Co.V at hsg;clear hb1 hs1 hE hch hWf hRep hG hWk hn hsc hbd hwin hJ htot;by_cases g1:128<deep
 ·have b1:decide ((128:Int)<(deep:Int))=true:=decide_eq_true (by omega);have HR:Hid (Co.GPost E c deep win top cnt bdl sc fr seen w (.returned (.int .i64 4)) w1):=Co.GPost.fault (by rw[Co.goes_fault (by rw[Co.here_deep g1];decide),Co.here_deep g1]) (by decide) HWK.out (Co.lows HE.out HWK0.out.hl HB1.out) hcnt;clear g1;go_enter Tryz.func36,Tryz.ntmps36;go_wp2;go_ret;exact HR.out
 have b1:decide ((128:Int)<(deep:Int))=false:=decide_eq_false (by omega);by_cases g2:8192≤cnt
 ·have b2:decide ((8192:Int)≤(cnt:Int))=true:=decide_eq_true (by omega);have HR:Hid (Co.GPost E c deep win top cnt bdl sc fr seen w (.returned (.int .i64 3)) w1):=Co.GPost.fault (by rw[Co.goes_fault (by rw[Co.here_long g1 g2];decide),Co.here_long g1 g2]) (by decide) HWK.out (Co.lows HE.out HWK0.out.hl HB1.out) hcnt;clear g1 g2;go_enter Tryz.func36,Tryz.ntmps36;go_wp2;go_ret;exact HR.out
 have b2:decide ((8192:Int)≤(cnt:Int))=false:=decide_eq_false (by omega);have HF70:Hid (∀wx,Below w1.heap.size w1 wx→Co.alone c=false∨(c.k=6∧top=false)→Co.GPost E c deep win top cnt bdl sc fr seen w (.returned (.int .i64 70)) wx):=fun wx hb ha=>
  Co.GPost.fault (by rw[Co.goes_fault (by rw[Co.here_alone g1 g2 ha];decide),Co.here_alone g1 g2 ha]) (by decide) (HWK.out.below hb) (Co.lows HE.out HWK0.out.hl ((btr HB1.out hb))) hcnt
 cases hal:Co.alone c
 ·have HAL:=hd hal;rw[hal]at hsg;clear hal g1 g2;go_enter Tryz.func36,Tryz.ntmps36;go_wp2_with fail
  refine hsg.mono ?_;rintro e w2 ⟨rfl,hb2⟩;have HR:=hd (HF70.out w2 hb2 (.inl HAL.out));clear hsg hb2 hw1;clear x0 x1 x2 x3 x4 x5 c0 c1 c2 c3 c4 c5 c6 c7 c8 c9 c10;go_wp2;go_ret;exact HR.out
 rw[hal]at hsg;have HAL:=hd hal;by_cases g3:c.k=6∧top=false
 ·have HAL:=hd g3;have b3:(c.k==6)=true:=by simpa using g3.1
  have b4:top=false:=g3.2;subst b4;clear hal g1 g2 g3;go_enter Tryz.func36,Tryz.ntmps36;go_wp2_with fail
  refine hsg.mono ?_;rintro e w2 ⟨rfl,hb2⟩;have HR:=hd (HF70.out w2 hb2 (.inr HAL.out));have Hc2:=hd (Hc.out.below HE.out HWK.out.hl hb2);clear hsg hb2 hw1;clear x0 x1 x2 x3 x4 x5 c0 c1 c2 c3 c4 c5 c6 c7 c8 c9 c10;have c0:=Hc2.out.cell 0 rfl;go_wp2;go_ret;exact HR.out
 have HNA:Hid (¬ (Co.alone c=false∨(c.k=6∧top=false))):=fun h=>h.elim (fun h=>by rw[HAL.out]at h;cases h) g3
 go_enter Tryz.func36,Tryz.ntmps36;go_upto_region 7 with fail
 clear hal
 go_cut [30] (fun v wx=>v= .bool false∧Below w1.heap.size w1 wx)
 case first=>
  clear g1 g2;go_wp2_with fail
  refine hsg.mono ?_;rintro e w2 ⟨rfl,hb2⟩;have Hc2:=hd (Hc.out.below HE.out HWK.out.hl hb2);have HB2:=hd hb2;clear hsg hb2 hw1;clear x0 x1 x2 x3 x4 x5 c0 c1 c2 c3 c4 c5 c6 c7 c8 c9 c10;have c0:=Hc2.out.cell 0 rfl;by_cases g4:c.k=6
  ·have b3:(c.k==6)=true:=by simpa using g4
   cases top with
   |false=>exact absurd ⟨g4,rfl⟩ g3
   |true=>
    clear g3 g4;go_wp2;go_meet;exact⟨rfl,HB2.out⟩
  ·have b3:(c.k==6)=false:=by simpa using g4
   clear g3 g4;go_wp2;go_meet;exact⟨rfl,HB2.out⟩
 case rest=>
  obtain⟨rfl,hb2⟩:=hcut;have Hc2:=hd (Hc.out.below HE.out HWK.out.hl hb2);have HWK2:=hd (HWK.out.below hb2);have Hx2:Hid (Hp wc E.X #[.int .i64 (cnt:Int),.map (some E.ms),.map (some E.mb),.map E.mf,E.see,.bool false] 81):=HWK2.out.hp;have HB2:Hid (Below w.heap.size w wc):=btr HB1.out hb2;have HRP2:Hid (Co.Rep G wc c vm vl vt (.slice ap c.p.length cp) (.slice ak c.l.length ck)):=HRP.out.below hb2;have HJ2:Hid (E.J seen wc):=HE.out.jst _ _ _ HJ1.out (keep_of_below hb2);have HG1:=hd g1;have HG2:=hd g2;clear hsg hb2 hw1 g1 g2 g3 Hc HWK Hx HJ1 HRP HF70 HB1;clear x0 x1 x2 x3 x4 x5 c0 c1 c2 c3 c4 c5 c6 c7 c8 c9 c10;have x0:=Hx2.out.cell 0 rfl;have x1:=Hx2.out.cell 1 rfl;have x2:=Hx2.out.cell 2 rfl;have x3:=Hx2.out.cell 3 rfl;have x4:=Hx2.out.cell 4 rfl;have x5:=Hx2.out.cell 5 rfl;have c0:=Hc2.out.cell 0 rfl;have c1:=Hc2.out.cell 1 rfl;have c2:=Hc2.out.cell 2 rfl;have c3:=Hc2.out.cell 3 rfl;have c4:=Hc2.out.cell 4 rfl;have c5:=Hc2.out.cell 5 rfl;have c6:=Hc2.out.cell 6 rfl;have c7:=Hc2.out.cell 7 rfl;have c8:=Hc2.out.cell 8 rfl;have c9:=Hc2.out.cell 9 rfl;have c10:=Hc2.out.cell 10 rfl;obtain⟨⟨hn1,hn2⟩,-,-,-,-,-,-⟩:=Co.wf_parts HWF.out;have hlk:=fun m=>((HWK2.out.hs.below (Co.drewN_below wc m)).has hn1 hn2)
  rw[HSC.out]at hlk;obtain⟨w2,rfl⟩:∃w2,w2=wc:=⟨_,rfl⟩
  obtain⟨B,hB⟩:∃B,B=decide ((c.k=2∨c.k=4)∧win.contains c.n=false):=⟨_,rfl⟩
  have HB:=hd hB;clear hB;go_upto_region 9 with fail
  go_cut [60] (fun v wx=>v= .bool B∧Below w2.heap.size w2 wx)
  case first=>
   by_cases h2:c.k=2∨c.k=4
   case neg=>
    have b3:(c.k==2)=false:=by simpa using fun e=>h2 (.inl e)
    have b4:(c.k==4)=false:=by simpa using fun e=>h2 (.inr e)
    have hB:B=false:=by rw[HB.out];exact decide_eq_false fun h=>h2 h.1
    subst hB;clear h2 hlk
    go_quiet (fail)
    go_wp2;go_meet;exact⟨rfl,⟨rfl,rfl,rfl,Nat.le_refl _,fun _ _=>rfl⟩⟩
   cases hct:win.contains c.n
   ·have hB:B=true:=by rw[HB.out];exact decide_eq_true ⟨h2,hct⟩
    subst hB;rw[hct]at hlk;clear hct;by_cases h3:c.k=2
    ·have b3:(c.k==2)=true:=by simpa using h3
     clear h2 h3
     go_quiet (fail)
     go_wp2;go_meet;exact⟨rfl,⟨rfl,rfl,rfl,Nat.le_refl _,fun _ _=>rfl⟩⟩
    ·have b3:(c.k==2)=false:=by simpa using h3
     have b4:(c.k==4)=true:=by simpa using h2.resolve_left h3
     clear h2 h3
     go_quiet (fail)
     go_wp2;go_meet;exact⟨rfl,⟨rfl,rfl,rfl,Nat.le_refl _,fun _ _=>rfl⟩⟩
   ·have hB:B=false:=by rw[HB.out];exact decide_eq_false fun h=>by rw[hct]at h;cases h.2
    subst hB;rw[hct]at hlk;clear hct;by_cases h3:c.k=2
    ·have b3:(c.k==2)=true:=by simpa using h3
     clear h2 h3
     go_quiet (fail)
     go_wp2;go_meet;exact⟨rfl,⟨rfl,rfl,rfl,Nat.le_refl _,fun _ _=>rfl⟩⟩
    ·have b3:(c.k==2)=false:=by simpa using h3
     have b4:(c.k==4)=true:=by simpa using h2.resolve_left h3
     clear h2 h3
     go_quiet (fail)
     go_wp2;go_meet;exact⟨rfl,⟨rfl,rfl,rfl,Nat.le_refl _,fun _ _=>rfl⟩⟩
  case rest=>
   obtain⟨rfl,hb3⟩:=hcut;obtain⟨w3,rfl⟩:∃w3,w3=wc:=⟨_,rfl⟩
   have Hc3:=hd (Hc2.out.below HE.out HWK2.out.hl hb3);have HWK3:=hd (HWK2.out.below hb3);have Hx3:Hid (Hp w3 E.X #[.int .i64 (cnt:Int),.map (some E.ms),.map (some E.mb),.map E.mf,E.see,.bool false] 81):=HWK3.out.hp;have HB3:Hid (Below w.heap.size w w3):=btr HB2.out hb3;have HRP3:Hid (Co.Rep G w3 c vm vl vt (.slice ap c.p.length cp) (.slice ak c.l.length ck)):=HRP2.out.below hb3;have HJ3:Hid (E.J seen w3):=HE.out.jst _ _ _ HJ2.out (keep_of_below hb3);clear hb3 Hc2 HWK2 Hx2 HB2 HRP2 HJ2 hlk;clear x0 x1 x2 x3 x4 x5 c0 c1 c2 c3 c4 c5 c6 c7 c8 c9 c10;have x0:=Hx3.out.cell 0 rfl;have x1:=Hx3.out.cell 1 rfl;have x2:=Hx3.out.cell 2 rfl;have x3:=Hx3.out.cell 3 rfl;have x4:=Hx3.out.cell 4 rfl;have x5:=Hx3.out.cell 5 rfl;have c0:=Hc3.out.cell 0 rfl;have c1:=Hc3.out.cell 1 rfl;have c2:=Hc3.out.cell 2 rfl;have c3:=Hc3.out.cell 3 rfl;have c4:=Hc3.out.cell 4 rfl;have c5:=Hc3.out.cell 5 rfl;have c6:=Hc3.out.cell 6 rfl;have c7:=Hc3.out.cell 7 rfl;have c8:=Hc3.out.cell 8 rfl;have c9:=Hc3.out.cell 9 rfl;have c10:=Hc3.out.cell 10 rfl
   go_upto_if 60 with fail
   go_cut [] (fun wx=>Co.Mid1 E c vm vl vt (.slice ap c.p.length cp) (.slice ak c.l.length ck) G C0 w cnt win sc bd fr seen wx)
   case first=>
    cases B with
    |false=>
     have HM:Hid (Co.Mid1 E c vm vl vt (.slice ap c.p.length cp) (.slice ak c.l.length ck) G C0 w cnt win sc bd fr seen w3):=by
      have hno:¬ ((c.k=2∨c.k=4)∧win.contains c.n=false):=of_decide_eq_false HB.out.symm;refine⟨fr,n,HWK3.out,Hc3.out,HRP3.out,Co.lows HE.out HWK0.out.hl HB3.out,by have:=HN.out;omega,fun x=> ?_,fun h=>hno ⟨h.1,h.2.2⟩,HJ3.out⟩;rw[if_neg hno];simp
     go_wp2;go_meet;exact HM.out
    |true=>
     have hyes:(c.k=2∨c.k=4)∧win.contains c.n=false:=of_decide_eq_true HB.out.symm
     cases hmf:E.mf with
     |none=>
      have HR:Hid (Co.GPost E c deep win top cnt bdl sc fr seen w (.returned (.int .i64 70)) w3):=by
       have h4:(c.k=2∨c.k=4)∧E.mf.isSome=false∧win.contains c.n=false:=⟨hyes.1,by rw[hmf];rfl,hyes.2⟩
       have e:=Co.here_free (opn:=E.mf.isSome) (bd:=bdl) HG1.out HG2.out HNA.out h4;exact Co.GPost.fault (by rw[Co.goes_fault (by rw[e];decide),e]) (by decide) HWK3.out (Co.lows HE.out HWK0.out.hl HB3.out) hcnt
      rw[hmf]at x3;have heq:(binOp .eql 79 (.map none) (.map none)).run Tryz.prog w3= .ok (.bool true) w3:=run_eql_map_nil w3 _ _ _ none Tryz.underlying79;clear hyes hmf;go_wp2;go_ret;exact HR.out
     |some fb=>
      obtain⟨w4,hw4,hs4,hk4⟩:=((HWK3.out.hf fb hmf).below (Co.drew_below w3)).put (by have:=HN.out;unfold maxLen;omega) hn1 hn2;have hkw:Keep (fun k=>k=fb) w3 w4:=(keep_of_below (Co.drew_below w3)).trans hk4;have HM:Hid (Co.Mid1 E c vm vl vt (.slice ap c.p.length cp) (.slice ak c.l.length ck) G C0 w cnt win sc bd fr seen w4):=by
       have hfo:E.own fb:= .inr (.inr (.inr hmf));have hno:∀k,E.own k→k≠fb→True:=fun _ _ _=>trivial
       refine⟨(fun x=>fr x||decide (x=c.n)),n+1,⟨HWK3.out.hp.keep hkw (fun e=>HE.out.xf (by rw[e];exact hmf)),(HWK3.out.hs.keep hkw (fun e=>HE.out.sf (by rw[e];exact hmf))).mono (Nat.le_succ n),(HWK3.out.hb.keep hkw (fun e=>HE.out.bf (by rw[e];exact hmf))).mono (Nat.le_succ n),fun b hb=>by rw[hmf]at hb;cases hb;exact hs4,Nat.le_trans HWK3.out.hl hkw.size⟩,Hc3.out.own HE.out HWK3.out.hl (hkw.le (fun k e=>by rw[e];exact hfo)),Co.Rep.keep hkw (fun b hb _ e=>HG.out b hb (by rw[e];exact .inl hfo)) c HRP3.out,(Co.lows HE.out HWK0.out.hl HB3.out).trans (Co.KE.own HE.out HWK3.out.hl (hkw.le (fun k e=>by rw[e];exact hfo))),by have:=HN.out;omega,fun x=> ?_,fun h=>(by rw[hmf]at h;cases h.2.1),HE.out.jst _ _ _ HJ3.out (hkw.le (fun k e=>by rw[e];exact hfo))⟩;rw[if_pos hyes];simp[eq_comm]
      rw[hmf]at x3;have heq:(binOp .eql 79 (.map (some fb)) (.map none)).run Tryz.prog w3= .ok (.bool false) w3:=run_eql_map_nil w3 _ _ _ (some fb) Tryz.underlying79;clear hyes hmf hs4 hk4 hkw;go_wp2
      go_region
      go_wp2;go_meet;exact HM.out
   case rest=>
    obtain⟨fr1,n1,hwk,hbc,hrep,hkp,hn1',hfr1,hnofree,hj⟩:=hcut;obtain⟨w4,rfl⟩:∃w4,w4=wc:=⟨_,rfl⟩
    have HL0:Hid (Co.L1 E c vm vl vt (.slice ap c.p.length cp) (.slice ak c.l.length ck) G C0 w cnt bdl sc bd fr1 n1 seen 0 w4):=
     ⟨n1,⟨hwk.hp,hwk.hs.ext (fun x=>by simp),hwk.hb.ext (fun x=>by simp),hwk.hf,hwk.hl⟩,hbc,hrep,hkp,Nat.le_refl _,hj,rfl⟩
    have HN1:=hd hn1';have HFR1:=hd hfr1;have HNF:=hd hnofree;clear HWK3 Hx3 HB3 HRP3 HJ3 HB Hc3;clear x0 x1 x2 x3 x4 x5 c0 c1 c2 c3 c4 c5 c6 c7 c8 c9 c10;have c9:=hbc.cell 9 rfl;clear hwk hbc hrep hkp hn1' hfr1 hnofree hj;have hpl:c.p.length≤32:=Co.alone_p32 HAL.out;go_upto_block 1 with fail
    clear c9
    go_cut [] (fun wx=>Co.L1 E c vm vl vt (.slice ap c.p.length cp) (.slice ak c.l.length ck) G C0 w cnt bdl sc bd fr1 n1 seen c.p.length wx)
    case first=>
     go_wp2
     go_loopw [75] (fun v wr=>∃j:Nat,v= .int .i64 j∧j≤c.p.length∧Hid (Co.L1 E c vm vl vt (.slice ap c.p.length cp) (.slice ak c.l.length ck) G C0 w cnt bdl sc bd fr1 n1 seen j wr)) (fun v _=>c.p.length - (intOf v).toNat)
     case atStart=>exact⟨0,rfl,by omega,HL0⟩
     case round=>
      clear HL0;obtain⟨j,rfl,hj,HL⟩:=hrel;by_cases hlt:j<c.p.length
      case neg=>
       have hge:(c.p.length:Int)≤(j:Int):=by omega
       have HE1:Hid (Co.L1 E c vm vl vt (.slice ap c.p.length cp) (.slice ak c.l.length ck) G C0 w cnt bdl sc bd fr1 n1 seen c.p.length wr):=by
        have:=HL.out;rw[show j=c.p.length by omega]at this;exact this
       go_wp2;go_meet;exact HE1.out
      have hlti:(j:Int)<(c.p.length:Int):=by omega
      obtain⟨n',hwk,hbc,hrep,hkp,hn',hjs,hany⟩:=HL.out;obtain⟨-,⟨_,_,he,_,hrow⟩,-⟩:=(Co.rep_iff _ _ _ _ _ _ _ _).1 hrep;injection he with he1 he2 he3
      subst he1;clear he2 he3;obtain⟨b,o',rfl,hGb,hbl,hcell⟩:=hrow (by intro h0;rw[h0]at hlt;simp at hlt);have p0:=hcell j hlt;obtain⟨x,hx⟩:∃x,c.p[j]=x:=⟨_,rfl⟩
      rw[hx]at p0;obtain⟨-,-,-,-,hpr,-,-⟩:=Co.wf_parts HWF.out;obtain⟨hx1,hx2⟩:=hpr x (by rw[←hx];exact List.getElem_mem hlt);have hnd:c.p.Nodup:=by
       rcases Co.alone_p HAL.out with e|e
       ·rw[e]at hlt;simp at hlt
       ·exact e.2
      have hlk:=hwk.hb.has hx1 hx2;have hnb:=Co.not_before hnd hlt;rw[hx]at hnb;rw[hnb,Bool.or_false,HBD.out]at hlk;have x2:=hwk.hp.cell 2 rfl;have HWKR:=hd hwk;have HBCR:=hd hbc;have HREPR:=hd hrep;have HKPR:=hd hkp;have HNR:=hd hn';have HJR:=hd hjs;have HANY:=hd hany;have HX:=hd hx;clear hwk hbc hrep hkp hn' hjs hany hx hcell hrow hpr hnb hnd;cases hbx:bdl.contains x
      case true=>
       have HR:Hid (Co.GPost E c deep win top cnt bdl sc fr seen w (.returned (.int .i64 70)) wr):=by
        have e:=Co.here_last (opn:=E.mf.isSome) (bd:=bdl) (win:=win) HG1.out HG2.out HNA.out HNF.out;rw[if_pos (by rw[List.any_eq_true];exact⟨x,by rw[←HX.out];exact List.getElem_mem hlt,hbx⟩)]at e;exact Co.GPost.fault (by rw[Co.goes_fault (by rw[e];decide),e]) (by decide) HWKR.out HKPR.out hcnt
       rw[hbx]at hlk;clear hbx;go_wp2;go_ret;exact HR.out
      case false=>
       rw[hbx]at hlk;have hm1:n'<maxLen:=by have h1:=HNR.out;have h2:=HN1.out;unfold maxLen;omega
       have hd:=Co.drew_below wr;obtain⟨v0,st0,W1,e1,k1,q1⟩:=(HWKR.out.hb.below hd).entry hm1 hx1 hx2;obtain⟨W2,e2,s2,k2⟩:=q1 W1 rfl;have k02:Keep (fun k=>k=E.mb) wr W2:=(keep_of_below hd).trans (k1.trans k2);obtain⟨v1,st1,W3,e3,k3,q3⟩:=(HWKR.out.hs.keep k02 HE.out.sb).entry hm1 hx1 hx2;obtain⟨W4,e4,s4,k4⟩:=q3 W3 rfl;have k24:Keep (fun k=>k=E.ms) W2 W4:=k3.trans k4;have k04:Keep (fun k=>k=E.mb∨k=E.ms) wr W4:=(k02.le fun k e=> .inl e).trans (k24.le fun k e=> .inr e);have hown:∀k,k=E.mb∨k=E.ms→E.own k:=fun k e=>e.elim (fun e=> .inr (.inr (.inl e))) (fun e=> .inr (.inl e))
       have HL4:Hid (Co.L1 E c vm vl vt (.slice (some ⟨b,o',none⟩) c.p.length cp) (.slice ak c.l.length ck) G C0 w cnt bdl sc bd fr1 n1 seen (j+1) W4):=by
        refine⟨n'+1,⟨HWKR.out.hp.keep k04 (fun e=>e.elim HE.out.xb HE.out.xs),s4.ext fun y=> ?_,(s2.keep k24 (fun e=>HE.out.sb e.symm)).ext fun y=> ?_,fun b hb=>((HWKR.out.hf b hb).keep k04 (fun e=>e.elim (fun e=>HE.out.bf (by rw[hb,e])) (fun e=>HE.out.sf (by rw[hb,e])))).mono (Nat.le_succ _),Nat.le_trans HWKR.out.hl k04.size⟩,HBCR.out.own HE.out HWKR.out.hl (k04.le hown),Co.Rep.keep k04 (fun b hb _ e=>HG.out b hb (.inl (hown b e))) c HREPR.out,HKPR.out.trans (Co.KE.own HE.out HWKR.out.hl (k04.le hown)),by have:=HNR.out;omega,HE.out.jst _ _ _ HJR.out (k04.le hown),?_⟩
        ·rw[Co.contains_take hlt,HX.out,Bool.or_assoc]
        ·rw[Co.contains_take hlt,HX.out,Bool.or_assoc]
        ·rw[List.take_succ_eq_append_getElem hlt,List.any_append,HANY.out,HX.out];simp only[List.any_cons,List.any_nil,Bool.or_false,Bool.false_or];exact hbx
       have x1:=HWKR.out.hp.cell 1 rfl;clear hm1 hd k1 q1 s2 k2 k02 k3 q3 s4 k4 k24 k04 hown hbx;go_wp2
       go_region
       go_wp2;go_roundw
       case rel=>exact⟨j+1,by simp,by omega,HL4⟩
       case measure=>simp[intOf];omega
    case rest=>
     obtain⟨w5,rfl⟩:∃w5,w5=wc:=⟨_,rfl⟩
     obtain⟨n',hwk,hbc,hrep,hkp,hn',hjs,hany⟩:=hcut;rw[List.take_length]at hwk hany;clear HL0;have hx5:=hwk.hp;have x0:=hx5.cell 0 rfl;have xf0:=hx5.frz 0;obtain⟨w6,hw6⟩:∃w6,w5.setCell ⟨E.X,0,none⟩ (.int .i64 ((cnt:Int)+1))=w6:=⟨_,rfl⟩
     have k56:Keep (fun k=>k=E.X) w5 w6:=by rw[←hw6];exact set_keep _ _ _ _
     have hx6:Hp w6 E.X #[.int .i64 ((cnt:Int)+1),.map (some E.ms),.map (some E.mb),.map E.mf,E.see,.bool false] 81:=by rw[←hw6];exact hx5.set 0 _
     have hxo:∀k,k=E.X→E.own k:=fun k e=> .inl e
     have hbc6:=hbc.own HE.out hwk.hl (k56.le hxo);have HBC6:=hd hbc6;have HREP6:Hid (Co.Rep G w6 c vm vl vt (.slice ap c.p.length cp) (.slice ak c.l.length ck)):=Co.Rep.keep k56 (fun b hb _ e=>HG.out b hb (.inl (hxo b e))) c hrep;have HKP6:Hid (Co.KE E w w6):=hkp.trans (Co.KE.own HE.out hwk.hl (k56.le hxo));have HWK6:Hid (Co.Wk E w6 (cnt+1) false (fun x=>sc x||c.p.contains x) (fun x=>bd x||c.p.contains x) fr1 n'):=
      ⟨hx6,hwk.hs.keep k56 (fun e=>HE.out.xs e.symm),hwk.hb.keep k56 (fun e=>HE.out.xb e.symm),fun b hb=>(hwk.hf b hb).keep k56 (fun e=>HE.out.xf (by rw[hb,e])),Nat.le_trans hwk.hl k56.size⟩
     have HJ6:Hid (E.J seen w6):=HE.out.jst _ _ _ hjs (k56.le hxo);have HN6:Hid (n'≤n1+32):=by show n'≤n1+32;omega
     have HANY:=hd hany;clear hwk hbc hrep hkp hn' hjs hany hx5 k56 hxo hbc6;go_upto_region 21 with fail
     clear x0 xf0;have HX6:=hd hx6;obtain⟨B2,hB2,hgd,hnil,htl⟩:∃B2:Bool,(binOp .neq 75 E.see .nilFunc).run Tryz.prog w6= .ok (.bool B2) w6∧(∀x y,(eqGuard .neq 75 x y E.see .nilFunc).run Tryz.prog w6= .ok () w6)∧(B2=false→∀pre x W,E.J pre W→E.J (pre++[x]) W)∧(B2=true→∃f cap,E.see= .func (.func f) #[] cap∧(∀args w,(callFunc f args).run Tryz.prog w= .ok (.enter f args) w)∧∀(G:Nat→Prop) (pre:List Co.C) (x:Co.C) (vm vl vt vp vk:Value) (W:World),E.J pre W→pre++[x]<+:E.tot→Co.Wf x→Co.Rep G W x vm vl vt vp vk→(∀k,G k→¬E.ch k)→Calls Tryz.prog f (#[Co.V x vm vl vt vp vk]++cap) W (Co.Told E pre x W)):=by
      rcases HE.out.told with⟨e,h⟩|⟨f,cap,e,h0,h⟩
      ·exact⟨false,by rw[e];exact Co.neq_see0 w6,fun x y=>(by rw[e];rfl),fun _=>h,fun e=>(by cases e)⟩
      ·exact⟨true,by rw[e];exact Co.neq_see _ _ _ w6,fun x y=>(by rw[e];rfl),fun e=>(by cases e),fun _=>⟨f,cap,e,h0,h⟩⟩
     have HNIL:=hd hnil;have HTL:=hd htl;have x4:=hx6.cell 4 rfl;clear hnil htl hx6
     go_upto_if 111 with fail
     clear hgd hB2 x4 hw6
     go_cut [] (fun wx=>Co.Mid3 E c vm vl vt (.slice ap c.p.length cp) (.slice ak c.l.length ck) G C0 w cnt sc bd fr1 n1 seen wx)
     case first=>
      cases B2 with
      |false=>
       have HM:Hid (Co.Mid3 E c vm vl vt (.slice ap c.p.length cp) (.slice ak c.l.length ck) G C0 w cnt sc bd fr1 n1 seen w6):=
        ⟨n',false,HWK6.out,HBC6.out,HREP6.out,HKP6.out,HN6.out,.inl ⟨rfl,HNIL.out rfl _ _ _ HJ6.out⟩⟩
       go_wp2;go_meet;exact HM.out
      |true=>
       obtain⟨f,cap,hse,hent,hcall⟩:=HTL.out rfl;have HX0:Hid (Hp w6.drew E.X #[.int .i64 ((cnt:Int)+1),.map (some E.ms),.map (some E.mb),.map E.mf,.func (.func f) #[] cap,.bool false] 81):=by
        have h:=HX6.out;rw[hse]at h;exact h.below (Co.drew_below w6)
       have HS0:Hid ((∃d,Hp w6.drew E.X #[.int .i64 ((cnt:Int)+1),.map (some E.ms),.map (some E.mb),.map E.mf,.func (.func f) #[] cap,.bool d] 81)∧Co.Bc w6.drew C0 c vm vl vt (.slice ap c.p.length cp) (.slice ak c.l.length ck)):=
        ⟨⟨false,HX0.out⟩,HBC6.out.bc.keep (S:=fun _=>False) (keep_of_below (Co.drew_below w6)) id⟩
       have HCALL:=hd hcall;have HPRE:Hid (seen++[c]<+:E.tot):=by
        refine List.IsPrefix.trans ?_ HTOT.out;obtain⟨ck',cn',cs',cd',cp',cl'⟩:=c;rw[Co.parts];exact⟨Co.partsL cl',by simp⟩
       have HSE:=hd hse;clear hcall hse;go_wp2;refine wp_region_noPanic ?_;refine wp_region_held_drew (S:=fun W=>(∃d,Hp W E.X #[.int .i64 ((cnt:Int)+1),.map (some E.ms),.map (some E.mb),.map E.mf,.func (.func f) #[] cap,.bool d] 81)∧Co.Bc W C0 c vm vl vt (.slice ap c.p.length cp) (.slice ak c.l.length ck)) (by kernel_rfl) HS0.out (fun hHeld=> ?_);refine Zm.u 0 ?_ rfl ?_ ?_;rotate_left
       ·intro w hSw;clear hSw;go_simp
        try with_reducible rfl
       simp only[Act.put,Zm.a,Zm.b,Zm.c];refine Zm.u 1 ?_ rfl ?_ ?_;rotate_left
       ·intro w hSw;clear hSw;go_simp
        try with_reducible rfl
       simp only[Act.put,Zm.a,Zm.b,Zm.c];refine Zm.u 2 ?_ rfl ?_ ?_;rotate_left
       ·intro w hSw;clear hSw;go_simp
        try with_reducible rfl
       simp only[Act.put,Zm.a,Zm.b,Zm.c];refine Zm.u 3 ?_ rfl ?_ ?_;rotate_left
       ·intro w hSw;clear hSw;go_simp
        try with_reducible rfl
       simp only[Act.put,Zm.a,Zm.b,Zm.c];refine Zm.u 4 ?_ rfl ?_ ?_;rotate_left
       ·intro w hSw;obtain⟨⟨_,hX⟩,-⟩:=hSw;have q4:=hX.cell 4 rfl;clear hX;go_simp
        try with_reducible rfl
       simp only[Act.put,Zm.a,Zm.b,Zm.c];refine Zm.u 5 ?_ rfl ?_ ?_;rotate_left
       ·intro w hSw;obtain⟨-,hC⟩:=hSw;have hC:Hp w C0 _ _:=hC;have q0:=hC.cell 0 rfl;have q1:=hC.cell 1 rfl;have q2:=hC.cell 2 rfl;have q3:=hC.cell 3 rfl;have q4:=hC.cell 4 rfl;have q5:=hC.cell 5 rfl;have q6:=hC.cell 6 rfl;have q7:=hC.cell 7 rfl;have q8:=hC.cell 8 rfl;have q9:=hC.cell 9 rfl;have q10:=hC.cell 10 rfl;clear hC;go_simp
        try with_reducible rfl
       simp only[Act.put,Zm.a,Zm.b,Zm.c];refine Zm.r 6 rfl (fun K hK=> ?_);go_simp;refine(HCALL.out G seen c vm vl vt (.slice ap c.p.length cp) (.slice ak c.l.length ck) w6.drew (HE.out.jst _ _ _ HJ6.out (keep_of_below (Co.drew_below w6))) HPRE.out HWF.out (HREP6.out.below (Co.drew_below w6)) HG.out).mono ?_;intro e w7 htold;obtain⟨b,rfl,hbj,hbx,hk7,hkd7⟩:=htold.b;dsimp only;have hx7:=HX0.out.keep hk7 (HE.out.lo _ (.inl rfl));have HKD7:Hid (Co.KD E w6 w7):=(Co.KD.own HE.out HWK6.out.hl (keep_of_below (Co.drew_below w6))).trans hkd7;have HBE7:=hd (HBC6.out.kd HKD7.out);clear hkd7;have hS7:(∃d,Hp w7 E.X #[.int .i64 ((cnt:Int)+1),.map (some E.ms),.map (some E.mb),.map E.mf,.func (.func f) #[] cap,.bool d] 81)∧Co.Bc w7 C0 c vm vl vt (.slice ap c.p.length cp) (.slice ak c.l.length ck):=
        ⟨⟨false,hx7⟩,HBE7.out.bc⟩
       have HS7:=hd hS7;have HX7:=hd hx7;have HBJ:=hd hbj;have HBX:=hd hbx;have HK7:Hid (Keep E.lb w6 w7):=(keep_of_below (Co.drew_below w6)).trans hk7;clear htold hx7 hS7 hbj hbx hk7;refine hK.out _ _ HS7.out (fun hHeld=> ?_);clear hK K
       try simp only[Act.put,Zm.a,Zm.b,Zm.c]
       refine Zm.u 7 ?_ rfl ?_ ?_;rotate_left
       ·intro w hSw;clear hSw;go_simp
        try with_reducible rfl
       simp only[Act.put,Zm.a,Zm.b,Zm.c];refine Zm.u 8 ?_ rfl ?_ ?_;rotate_left
       ·intro w hSw;clear hSw;go_simp
        try with_reducible rfl
       simp only[Act.put,Zm.a,Zm.b,Zm.c];refine Zm.u 9 ?_ rfl ?_ ?_;rotate_left
       ·intro w hSw;clear hSw;go_simp
        try with_reducible rfl
       simp only[Act.put,Zm.a,Zm.b,Zm.c];have xf5:=HX7.out.frz 5;have x5:=HX7.out.cell 5 rfl;refine Zm.r 10 rfl (fun K hK=> ?_);go_simp;refine hK.out _ _ ⟨⟨!b,HX7.out.set 5 _⟩,HS7.out.2.keep (set_keep w7 E.X 5 _) (fun e=>HBE7.out.no (.inl e))⟩ (fun hHeld=> ?_);clear hK K
       try simp only[Act.put,Zm.a,Zm.b,Zm.c]
       refine wpAnyH_done (by kernel_rfl) ?_ _;refine NoPanic.normal ?_;have HM:Hid (Co.Mid3 E c vm vl vt (.slice ap c.p.length cp) (.slice ak c.l.length ck) G C0 w cnt sc bd fr1 n1 seen (w7.setCell ⟨E.X,5,none⟩ (.bool !b))):=by
        have k78:=set_keep w7 E.X 5 (.bool !b);have hxo:∀k,k=E.X→E.own k:=fun k e=> .inl e
        have hw7:Co.Wk E w7 (cnt+1) false (fun x=>sc x||c.p.contains x) (fun x=>bd x||c.p.contains x) fr1 n':=HWK6.out.keep HK7.out HE.out.lo;refine⟨n',!b,⟨?_,hw7.hs.keep k78 (fun e=>HE.out.xs e.symm),hw7.hb.keep k78 (fun e=>HE.out.xb e.symm),fun b' hb=>(hw7.hf b' hb).keep k78 (fun e=>HE.out.xf (by rw[hb,e])),Nat.le_trans hw7.hl k78.size⟩,HBE7.out.own HE.out hw7.hl (k78.le hxo),?_,(HKP6.out.trans ⟨HK7.out.le fun k e=> .inr e,HKD7.out⟩).trans (Co.KE.own HE.out hw7.hl (k78.le hxo)),HN6.out,?_⟩
        ·have h:=HX7.out.set 5 (.bool !b);rw[←HSE.out]at h;exact h
        ·exact Co.Rep.keep k78 (fun b' hb' _ e=>HG.out b' hb' (.inl (hxo b' e))) c (Co.Rep.keep HK7.out (fun b' hb' _ e=>HG.out b' hb' (.inr e)) c HREP6.out)
        ·cases b with
         |true=>exact .inl ⟨rfl,HE.out.jst _ _ _ (HBJ.out rfl) (k78.le hxo)⟩
         |false=>exact .inr ⟨rfl,HE.out.jxst _ _ _ (HBX.out rfl) (k78.le hxo)⟩
       go_wp2;go_meet;exact HM.out
     case rest=>
      obtain⟨w9,rfl⟩:∃w9,w9=wc:=⟨_,rfl⟩
      clear HX6 HNIL HTL HWK6 HBC6 HREP6 HKP6 HJ6 HN6;obtain⟨n9,dn9,hwk,hbc,hrep,hkp,hn9,hcase⟩:=hcut;obtain⟨win',hwin'⟩:∃win',win'=Co.inner c.k c.p win:=⟨_,rfl⟩
      obtain⟨T,hT⟩:∃T,T=(top&&decide (c.k=9)):=⟨_,rfl⟩
      obtain⟨RL,hRL⟩:∃RL,RL=Co.goesL E.mf.isSome c.l (deep+1) win' T (cnt+1) (bdl++c.p):=⟨_,rfl⟩
      have HRG:Hid (Co.goes E.mf.isSome c deep win top cnt bdl=RL):=by
       have e:=Co.here_last (opn:=E.mf.isSome) (bd:=bdl) (win:=win) HG1.out HG2.out HNA.out HNF.out;rw[if_neg (by rw[HANY.out];simp)]at e;show _=RL;rw[Co.goes_fine e,hRL,hT,hwin']
      have HSC9:Hid (∀x,(sc x||c.p.contains x)=win'.contains x):=by
       intro x;rw[HSC.out,hwin'];unfold Co.inner;rcases Co.alone_p HAL.out with e|⟨e,-⟩
       ·rw[e];split <;> simp
       ·rw[if_pos e,Bool.eq_iff_iff];simp
      have HL20:Hid (Co.L2 E c vm vl vt (.slice ap c.p.length cp) (.slice ak c.l.length ck) G C0 w deep win' T RL fr1 seen 0 w9):=by
       refine⟨cnt+1,dn9,_,_,fr1,n9,hwk,hbc,hrep,hkp,by have:=HN1.out;omega,by have:=HG2.out;omega,?_⟩;rcases hcase with⟨rfl,hj⟩|⟨rfl,hx⟩
       ·refine .inl ⟨rfl,bdl++c.p,by rw[List.drop_zero];exact hRL.symm,fun x=> ?_,HSC9.out,fun x hx=> ?_,fun x=> ?_,?_⟩
        ·rw[HBD.out,Bool.eq_iff_iff];simp
        ·rw[hwin']at hx;exact Co.inner_sub HWIN.out x hx
        ·rw[List.take_zero,Co.freesL];simp
        ·rw[List.take_zero,Co.partsL];exact hj
       ·refine .inr ⟨rfl,seen++[c],?_,hx⟩;rw[Co.parts_cons];exact(List.prefix_append_right_inj seen).2 ((List.cons_prefix_cons).2 ⟨rfl,List.nil_prefix⟩)
      have HT:=hd hT;have HWI:=hd hwin';have hll:c.l.length≤140737488355328:=(Co.wf_parts HWF.out).2.2.2.2.2.1;have c10:=hbc.cell 10 rfl;clear hwk hbc hrep hkp hn9 hcase hwin' hT hRL;go_upto_block 3 with fail
      clear c10
      go_cut [] (fun wx=>Co.L2 E c vm vl vt (.slice ap c.p.length cp) (.slice ak c.l.length ck) G C0 w deep win' T RL fr1 seen c.l.length wx)
      case first=>
       go_wp2
       go_loopw [125] (fun v wr=>∃j:Nat,v= .int .i64 j∧j≤c.l.length∧Hid (Co.L2 E c vm vl vt (.slice ap c.p.length cp) (.slice ak c.l.length ck) G C0 w deep win' T RL fr1 seen j wr)) (fun v _=>c.l.length - (intOf v).toNat)
       case atStart=>exact⟨0,rfl,by omega,HL20⟩
       case round=>
        clear HL20;obtain⟨j,rfl,hj,HL⟩:=hrel;by_cases hlt:j<c.l.length
        case neg=>
         have hge:(c.l.length:Int)≤(j:Int):=by omega
         have HE1:Hid (Co.L2 E c vm vl vt (.slice ap c.p.length cp) (.slice ak c.l.length ck) G C0 w deep win' T RL fr1 seen c.l.length wr):=by
          have:=HL.out;rw[show j=c.l.length by omega]at this;exact this
         go_wp2;go_meet;exact HE1.out
        have hlti:(j:Int)<(c.l.length:Int):=by omega
        have hl2:=HL.out;obtain⟨cnt',dn,sc',bd',fr',n',hwk,hbc,hrep,-⟩:=hl2;obtain⟨-,-,⟨_,_,he,_,hrow⟩⟩:=(Co.rep_iff _ _ _ _ _ _ _ _).1 hrep;injection he with he1 he2 he3
        subst he1;clear he2 he3;obtain⟨b,o',rfl,hGb,hbl,hreps⟩:=hrow (by intro h0;rw[h0]at hlt;simp at hlt);obtain⟨um,ul,ut,up,uk,hel,hry⟩:=hreps.at j hlt;obtain⟨y,hy⟩:∃y,c.l[j]=y:=⟨_,rfl⟩
        rw[hy]at hel hry;obtain⟨e0,e1,e2,e3,e4,e5,e6,e7,e8,e9,e10⟩:=hel;have HBC:=hd hbc;have hcall:∀W1,Below wr.heap.size wr W1→Calls Tryz.prog 36 #[.pointer (some ⟨E.X,0,none⟩),.agg #[.int .i64 y.k,.int .i64 y.n,.string y.s,.int .i64 y.d.k,.int .i64 y.d.n,.string y.d.s,um,ul,ut,up,uk],.int .i64 ((deep:Int)+1),.bool T] W1 (Co.CP E c vm vl vt (.slice ap c.p.length cp) (.slice (some ⟨b,o',none⟩) c.l.length ck) G C0 w deep win' T RL fr1 seen j):=fun W1 hb1=>by
         have h:=HL.out.call HE.out HCH.out hlt (by have:=HG1.out;omega) HWF.out HG.out HTOT.out hb1 (by rw[hy];exact hry.below hb1);rw[hy]at h;unfold Co.V at h;exact h
        have HCALL:=hd hcall;obtain⟨b1,n1',q1,b2,n2',q2,b3,n3',q3,b4,n4',q4,b5,n5',q5,rfl,rfl,rfl,rfl,rfl⟩:=hry.forms5;have hW10:wr.alloc (.cells #[.int .i64 y.k,.int .i64 y.n,.string y.s,.int .i64 y.d.k,.int .i64 y.d.n,.string y.d.s,.slice b1 n1' q1,.slice b2 n2' q2,.slice b3 n3' q3,.slice b4 n4' q4,.slice b5 n5' q5] 28)=wr.alloc (.cells #[.int .i64 y.k,.int .i64 y.n,.string y.s,.int .i64 y.d.k,.int .i64 y.d.n,.string y.d.s,.slice b1 n1' q1,.slice b2 n2' q2,.slice b3 n3' q3,.slice b4 n4' q4,.slice b5 n5' q5] 28):=rfl;obtain⟨hb10,-⟩:=new_below hW10;have HB10:=hd hb10;have k0:=(HBC.out.bc.keep (S:=fun _=>False) (keep_of_below hb10) id:Hp _ _ _ _).cell 0 rfl;clear hwk hbc hrep hrow hreps hry hy hcall hW10 hb10
        cases top with
        |false=>
         obtain rfl:T=false:=by rw[HT.out];rfl
         go_wp2_with fail
         refine(HCALL.out _ HB10.out).mono ?_;rintro e w11 ⟨r,rfl,⟨hr0,hr1,c2,sc2,bd2,fr2,n2,hwk2,hk2,hc2⟩|⟨rfl,hl2⟩⟩
         ·have HR:Hid (Co.GPost E c deep win false cnt bdl sc fr seen w (.returned (.int .i64 r)) w11):=Co.GPost.fault (by rw[HRG.out];exact hr1) hr0 hwk2 hk2 hc2;have hrb:(r !=0)=true:=by simpa using hr0
          clear hr0 hr1 hwk2 hk2 hc2 k0 e0 e1 e2 e3 e4 e5 e6 e7 e8 e9 e10;go_wp2;go_ret;exact HR.out
         ·have HL2:=hd hl2;clear hl2 k0 e0 e1 e2 e3 e4 e5 e6 e7 e8 e9 e10;go_wp2;go_roundw
          case rel=>exact⟨j+1,by simp,by omega,HL2⟩
          case measure=>simp[intOf];omega
        |true=>
         have b9:(c.k==9)=T:=by rw[HT.out,Bool.true_and,Bool.eq_iff_iff];simp
         go_wp2_with fail
         refine(HCALL.out _ HB10.out).mono ?_;rintro e w11 ⟨r,rfl,⟨hr0,hr1,c2,sc2,bd2,fr2,n2,hwk2,hk2,hc2⟩|⟨rfl,hl2⟩⟩
         ·have HR:Hid (Co.GPost E c deep win true cnt bdl sc fr seen w (.returned (.int .i64 r)) w11):=Co.GPost.fault (by rw[HRG.out];exact hr1) hr0 hwk2 hk2 hc2;have hrb:(r !=0)=true:=by simpa using hr0
          clear hr0 hr1 hwk2 hk2 hc2 k0 b9 e0 e1 e2 e3 e4 e5 e6 e7 e8 e9 e10;go_wp2;go_ret;exact HR.out
         ·have HL2:=hd hl2;clear hl2 k0 b9 e0 e1 e2 e3 e4 e5 e6 e7 e8 e9 e10;go_wp2;go_roundw
          case rel=>exact⟨j+1,by simp,by omega,HL2⟩
          case measure=>simp[intOf];omega
      case rest=>
       obtain⟨w12,rfl⟩:∃w12,w12=wc:=⟨_,rfl⟩
       have hl3:=hcut.to3;have HL30:Hid (Co.L3 E c vm vl vt (.slice ap c.p.length cp) (.slice ak c.l.length ck) G C0 w win' RL fr1 seen 0 w12):=hl3;clear HL20;obtain⟨_,_,_,_,_,_,-,hbc,-⟩:=hl3;have c9:=hbc.cell 9 rfl;clear hcut hbc;go_wp2;clear c9
       go_loopw [147] (fun v wr=>∃j:Nat,v= .int .i64 j∧j≤c.p.length∧Hid (Co.L3 E c vm vl vt (.slice ap c.p.length cp) (.slice ak c.l.length ck) G C0 w win' RL fr1 seen j wr)) (fun v _=>c.p.length - (intOf v).toNat)
       case atStart=>exact⟨0,rfl,by omega,HL30⟩
       case round=>
        clear HL30;obtain⟨j,rfl,hj,HL⟩:=hrel;by_cases hlt:j<c.p.length
        case neg=>
         have hge:(c.p.length:Int)≤(j:Int):=by omega
         have HE1:Hid (Co.GPost E c deep win top cnt bdl sc fr seen w (.returned (.int .i64 0)) wr):=by
          have h:=HL.out;rw[show j=c.p.length by omega]at h;obtain⟨cnt',dn,sc',bd',fr',n',hwk,hbc,hrep,hkp,hn,hc,hcase⟩:=h;refine⟨0,cnt',dn,sc',bd',fr',n',rfl,hwk,hkp,fun _=>hn,hc,?_⟩;rcases hcase with⟨rfl,bdl',hrl,hbd,hsc',hfr,hJ⟩|⟨e,h⟩
          ·rw[HRG.out,hrl];refine .inl ⟨rfl,rfl,fun _=>⟨rfl,hbd,fun x=> ?_,fun x=> ?_,hJ⟩⟩
           ·rw[hsc',List.take_length,←HSC9.out,HSC.out];cases hpx:c.p.contains x
            ·simp
            ·have hx:=List.contains_iff_mem.1 hpx;have hnw:win.contains x=false:=by
              rw[Bool.eq_false_iff];intro h2;have h3:=HWIN.out x (List.contains_iff_mem.1 h2);have h4:=HANY.out;rw[List.any_eq_false]at h4;exact h4 x hx (List.contains_iff_mem.2 h3)
             rw[hnw];simp
           ·rw[hfr,HFR1.out,Bool.or_assoc]
            congr 1
            obtain⟨k0,kn,ks,kd,kp',kl⟩:=c;rw[HWI.out,Co.frees,Bool.eq_iff_iff];simp only[Bool.or_eq_true,List.contains_iff_mem,List.mem_append];exact Iff.rfl
          ·exact .inr ⟨e,rfl,h⟩
         go_wp2;go_ret;exact HE1.out
        have hlti:(j:Int)<(c.p.length:Int):=by omega
        obtain⟨cnt',dn,sc',bd',fr',n',hwk,hbc,hrep,hkp,hn,hc,hcase⟩:=HL.out;have hrep0:=hrep;obtain⟨-,⟨_,_,he,_,hrow⟩,-⟩:=(Co.rep_iff _ _ _ _ _ _ _ _).1 hrep0;injection he with he1 he2 he3
        subst he1;clear he2 he3;obtain⟨b,o',rfl,hGb,hbl,hcell⟩:=hrow (by intro h0;rw[h0]at hlt;simp at hlt);have p0:=hcell j hlt;obtain⟨x,hx⟩:∃x,c.p[j]=x:=⟨_,rfl⟩
        rw[hx]at p0;obtain⟨-,-,-,-,hpr,-,-⟩:=Co.wf_parts HWF.out;obtain⟨hx1,hx2⟩:=hpr x (by rw[←hx];exact List.getElem_mem hlt);obtain⟨w13,hdel,hs13,hk13⟩:=hwk.hs.del hx1 hx2 0;have x1:=hwk.hp.cell 1 rfl;have hown:∀k,k=E.ms→E.own k:=fun k e=> .inr (.inl e)
        have HL4:Hid (Co.L3 E c vm vl vt (.slice (some ⟨b,o',none⟩) c.p.length cp) (.slice ak c.l.length ck) G C0 w win' RL fr1 seen (j+1) w13):=by
         refine⟨cnt',dn,_,bd',fr',n',⟨hwk.hp.keep hk13 (fun e=>HE.out.xs e),hs13,hwk.hb.keep hk13 (fun e=>HE.out.sb e.symm),fun b' hb'=>(hwk.hf b' hb').keep hk13 (fun e=>HE.out.sf (by rw[hb',e])),Nat.le_trans hwk.hl hk13.size⟩,hbc.own HE.out hwk.hl (hk13.le hown),Co.Rep.keep hk13 (fun b' hb' _ e=>HG.out b' hb' (.inl (hown b' e))) c hrep,hkp.trans (Co.KE.own HE.out hwk.hl (hk13.le hown)),hn,hc,?_⟩;rcases hcase with⟨e,bdl',hrl,hbd,hsc',hfr,hJ⟩|⟨e,pre,hpre,hxx⟩
         ·refine .inl ⟨e,bdl',hrl,hbd,fun y=> ?_,hfr,HE.out.jst _ _ _ hJ (hk13.le hown)⟩;rw[hsc',Co.contains_take hlt,hx,Bool.not_or,Bool.and_assoc]
         ·exact .inr ⟨e,pre,hpre,HE.out.jxst _ _ _ hxx (hk13.le hown)⟩
        clear hwk hbc hrep hrep0 hkp hn hc hcase hrow hcell hx hpr hs13 hk13 hown;go_wp2;go_roundw
        case rel=>exact⟨j+1,by simp,by omega,HL4⟩
        case measure=>simp[intOf];omega
mutual
theorem coGoes_any(E:Co.WE)(hE:E.Ok):∀c:Co.C,Co.GoesIs E c
 | .mk k n s d p l=>coGoes_step E hE (.mk k n s d p l) (coGoesL_any E hE l)
theorem coGoesL_any(E:Co.WE)(hE:E.Ok):∀(l:List Co.C),∀y∈l,Co.GoesIs E y
 |[],_,h=>absurd h (by simp)
 |c :: r,y,h=>(List.mem_cons.1 h).elim (fun e=>by rw[e];exact coGoes_any E hE c) (fun h'=>coGoesL_any E hE r y h')
end
end Go.Proofs.YtfjmlfbohenmfaaGreat
namespace Go.Proofs.YtfjmlfbohenmfaaGreat
open Go.RowKit
namespace Co
open Dt (own_keep own_lt row_form)
structure PC where
 c:C
 vm:Value
 vl:Value
 vt:Value
 vp:Value
 vk:Value
def PC.cells(p:PC):List Value:=[.int .i64 p.c.k,.int .i64 p.c.n,.string p.c.s,.int .i64 p.c.d.k,.int .i64 p.c.d.n,.string p.c.d.s,p.vm,p.vl,p.vt,p.vp,p.vk]
def PC.rep(p:PC)(F:Nat→Prop)(w:World):Prop:=Rep F w p.c p.vm p.vl p.vt p.vp p.vk
def flatC(ls:List PC):List Value:=ls.flatMap PC.cells
theorem flatC_app(ls:List PC)(p:PC):flatC (ls++[p])=flatC ls++p.cells:=by unfold flatC;simp
theorem flatC_length(ls:List PC):(flatC ls).length=ls.length*11:=by
 induction ls with
 |nil=>rfl
 |cons a l ih=>
  have e:flatC (a :: l)=a.cells++flatC l:=rfl;rw[e,List.length_append,ih];have:a.cells.length=11:=rfl;simp;omega
theorem flatC_get{ls:List PC}{j:Nat}(hj:j<ls.length){c:Nat}(hc:c<11):(flatC ls)[j*11+c]?=ls[j].cells[c]?:=by
 have hsplit:ls=ls.take j++ls[j] :: ls.drop (j+1):=by rw[←List.drop_eq_getElem_cons hj,List.take_append_drop]
 have hlen:(flatC (ls.take j)).length=j*11:=by rw[flatC_length,List.length_take,Nat.min_eq_left (by omega)]
 have e:flatC ls=flatC (ls.take j)++(ls[j].cells++flatC (ls.drop (j+1))):=by
  conv=>lhs;rw[hsplit]
  unfold flatC;rw[List.flatMap_append,List.flatMap_cons]
 rw[e,List.getElem?_append_right (by omega),hlen,Nat.add_sub_cancel_left,List.getElem?_append_left (by show c<11;exact hc)]
theorem part_at{w:World}{base:Nat}{v:Value}{ls:List PC}(h:w.ownsRow base 28 11 v ls.length (flatC ls))(j:Nat)(hj:j<ls.length):
  ∃g c,v= .slice (some ⟨g,0,none⟩) ls.length c∧g<w.heap.size∧El w g (j*11) ls[j].c ls[j].vm ls[j].vl ls[j].vt ls[j].vp ls[j].vk:=by
 rcases h.2 with⟨_,h0⟩|⟨g,cap,cur,rfl,e2,e3,e4⟩
 ·omega
 ·refine⟨g,cap,rfl,(h.lt g rfl).2,?_⟩;have hadd:∀k,(⟨g,0,none⟩:Addr).add k=⟨g,k,none⟩:=fun k=>by unfold Addr.add;split <;> simp_all
  have hc:∀c u,c<11→ls[j].cells[c]?=some u→w.cell? ⟨g,j*11+c,none⟩=some u:=fun c u hc hu=>by
   have:=h.cells (g:=g) rfl (j*11+c) u ((flatC_get hj hc).trans hu);rw[hadd]at this;exact this
  exact⟨hc 0 _ (by omega) rfl,hc 1 _ (by omega) rfl,hc 2 _ (by omega) rfl,hc 3 _ (by omega) rfl,hc 4 _ (by omega) rfl,hc 5 _ (by omega) rfl,hc 6 _ (by omega) rfl,hc 7 _ (by omega) rfl,hc 8 _ (by omega) rfl,hc 9 _ (by omega) rfl,hc 10 _ (by omega) rfl⟩
structure Rowing(w:World)(base:Nat)(v:Value)(ls:List PC):Prop where
 row:w.ownsRow base 28 11 v ls.length (flatC ls)
 rep:∀p∈ls,p.rep (fun k=>base≤k∧v.ownBlock≠some k) w
theorem Rowing.nil(w:World)(base:Nat):Rowing w base (.slice none 0 0) []:=⟨World.ownsRow_nil _ _ _ _,by simp⟩
theorem Rowing.keep{S:Nat→Prop}{w w':World}{base:Nat}{v:Value}{ls:List PC}(h:Rowing w base v ls)(hk:Keep S w w')(hS:∀k,base≤k→k<w.heap.size→¬S k):Rowing w' base v ls:=
 ⟨own_keep h.row hk (fun k hk=>hS k (own_lt h.row k hk).1 (own_lt h.row k hk).2),fun p hp=>Rep.keep hk (fun b hb hb'=>hS b hb.1 hb') p.c (h.rep p hp)⟩
theorem Rowing.below{w w':World}{base:Nat}{v:Value}{ls:List PC}(h:Rowing w base v ls)(hb:Below w.heap.size w w'):Rowing w' base v ls:=
 h.keep (S:=fun _=>False) ((Keep.refl _ w).below hb) (fun _ _ _ h=>h)
theorem pushK{S:Nat→Prop}{w w1 wA w5:World}{base:Nat}{v v':Value}{ls:List PC}{p:PC}(h:Rowing w base v ls)(hbase:base≤w.heap.size)(h1:Keep S w w1)(hS:∀k,base≤k→¬S k)(hp:p.rep (fun k=>w.heap.size≤k) w1)(hA:Below w1.heap.size w1 wA)
  (hown:w5.ownsRow base 28 11 v' (ls.length+1) (flatC ls++p.cells)) (hg:wA.grownBy w5 v.ownBlock) (hat:v'.ownBlock=v.ownBlock∨v'.ownBlock=some wA.heap.size):
  Rowing w5 base v' (ls++[p])∧Keep (fun k=>S k∨v.ownBlock=some k) w w5:=by
 have hwA:Keep S w wA:=h1.trans (keep_of_below hA);have hK:Keep (fun k=>S k∨v.ownBlock=some k) w w5:=⟨hg.os.trans hwA.os,hg.tape.trans hwA.tape,hg.output.trans hwA.output,Nat.le_trans hwA.size hg.size,fun k hk hn=>(hg.block k (by have:=hwA.size;omega) (fun e=>hn (.inr e.symm))).trans (hwA.block k hk (fun e=>hn (.inl e)))⟩
 have hK1:Keep (fun k=>v.ownBlock=some k) w1 w5:=⟨hg.os.trans hA.os,hg.tape.trans hA.tape,hg.output.trans hA.output,Nat.le_trans hA.size hg.size,fun k hk hn=>(hg.block k (by have:=hA.size;omega) (fun e=>hn e.symm)).trans (hA.block k hk)⟩
 have hvl:∀k,v.ownBlock=some k→base≤k∧k<w.heap.size:=own_lt h.row;refine⟨⟨by rw[List.length_append,flatC_app];exact hown,fun q hq=> ?_⟩,hK⟩;rcases List.mem_append.1 hq with hq|hq
 ·have hr0:q.rep (fun k=>k<w.heap.size∧base≤k∧v.ownBlock≠some k) w:=Rep.mono (fun b hb hl=>⟨hl,hb⟩) q.c (h.rep q hq);refine Rep.mono (fun b hb _=>⟨hb.2.1,fun e=> ?_⟩) q.c (Rep.keep hK (fun b hb _ e=>e.elim (hS b hb.2.1) (fun e=>hb.2.2 e)) q.c hr0);rcases hat with e'|e'
  ·rw[e']at e;exact hb.2.2 e
  ·rw[e']at e;cases e;have:=hwA.size;omega
 ·obtain rfl:q=p:=by simpa using hq
  have hr0:q.rep (fun k=>k<w1.heap.size∧w.heap.size≤k) w1:=Rep.mono (fun b hb hl=>⟨hl,hb⟩) q.c hp;refine Rep.mono (fun b hb _=>⟨Nat.le_trans hbase hb.2,fun e=> ?_⟩) q.c (Rep.keep hK1 (fun b hb _ e=>by have:=(hvl b e).2;omega) q.c hr0);rcases hat with e'|e'
  ·rw[e']at e;have:=(hvl b e).2;omega
  ·rw[e']at e;cases e;have:=hA.size;omega
theorem Rowing.to_row{w:World}{base:Nat}{v:Value}{ls:List PC}(h:Rowing w base v ls):Row (fun k=>base≤k) w v (ls.map PC.c):=by
 have hreps:∀g,v.ownBlock=some g→Reps (fun k=>base≤k) w (ls.map PC.c) g 0:=by
  intro g hg;refine Reps.of fun j hj=> ?_
  have hj':j<ls.length:=by simpa using hj
  obtain⟨g',c,rfl,_,hs⟩:=part_at h.row j hj';cases hg;refine⟨ls[j].vm,ls[j].vl,ls[j].vt,ls[j].vp,ls[j].vk,by rw[Nat.zero_add];simpa using hs,?_⟩;have:=Rep.mono (fun b hb _=>hb.1) _ (h.rep ls[j] (List.getElem_mem hj'));simpa using this
 rcases h.row.2 with⟨h1,h0⟩|⟨g,cap,cur,rfl,e2,e3,e4,_⟩
 ·have:ls=[]:=List.length_eq_zero_iff.1 h0;subst this;exact⟨none,0,by rw[h1];rfl,Nat.le_refl _,fun hn=>absurd rfl hn⟩
 ·refine⟨some ⟨g,0,none⟩,cap,by simp,by simpa using e4,fun _=>⟨g,0,rfl,e2,(Array.getElem?_eq_some_iff.1 e3).1,hreps g rfl⟩⟩
theorem srcNew{w wD:World}{a b c d e f g h i j k:Value}{t:TypeId}(hw:w.alloc (.cells #[a,b,c,d,e,f,g,h,i,j,k] t)=wD):Ap.Src wD (.slice (some ⟨w.heap.size,0,none⟩) 1 1) 1 [a,b,c,d,e,f,g,h,i,j,k]:=
 .inr ⟨_,_,rfl,fun z u hu=>by
  rw[Addr.add_mid,Nat.zero_add];have h2:#[a,b,c,d,e,f,g,h,i,j,k][z]?=some u:=by rw[←hu];simp
  exact(Hp.new hw).cell z h2⟩
theorem infoC:(Tryz.prog.info? 28).map (fun i=>(i.zero,i.size,i.bytes))=some (some (.agg #[.int .i64 0,.int .i64 0,.string ⟨#[]⟩,.int .i64 0,.int .i64 0,.string ⟨#[]⟩,.slice none 0 0,.slice none 0 0,.slice none 0 0,.slice none 0 0,.slice none 0 0]),11,184):=by kernel_rfl
end Co
end Go.Proofs.YtfjmlfbohenmfaaGreat
namespace Go.Proofs.YtfjmlfbohenmfaaGreat
open Go.RowKit
attribute [local go_sem] Oper.semAt_some
theorem cloneInts2_any{F:Nat→Prop}(v:Value)(m:List Int)(w:World)(h:Dt.IRow F w v m)(hl:m.length≤1048576):
  Calls Tryz.prog 23 #[v] w fun e w'=>∃v',e= .returned v'∧Dt.IRow (fun k=>w.heap.size≤k) w' v' m∧Below w.heap.size w w':=by
 have h0:=h;obtain⟨a,c,rfl,hc,_⟩:=h;have hsrc:=fun ha=>h0.src (a:=a) ha
 have hnil:a=none→m=[]:=fun ha=>by
  obtain⟨a',c',h1,h2,h3⟩:=h0;cases h1
  cases hm:m with
  |nil=>rfl
  |cons x r=>obtain⟨b,o,e,_⟩:=h3 (by rw[hm];simp);rw[ha]at e;cases e
 clear h0;have hn:=Lib.run_eql_slice_nil (P:=Tryz.prog) w 22 3 a m.length c 0 0 Tryz.underlying22
 cases a with
 |none=>
  obtain rfl:=hnil rfl;have hn':(binOp .eql 22 (.slice none 0 c) (.slice none 0 0)).run Tryz.prog w= .ok (.bool true) w:=hn;clear hsrc hnil hn;go_enter Tryz.func23,Tryz.ntmps23;go_wp2;go_ret;exact⟨_,rfl,⟨none,0,rfl,Nat.le_refl _,fun hn=>absurd rfl hn⟩,Below.refl _ _⟩
 |some ad=>
  have hs:=hsrc (by simp);clear hsrc hnil;obtain⟨i1,hi1,hy0,hy1,hy2⟩:=info_parts Dt.infoI;have hm1:0+m.length≤maxLen:=by unfold maxLen;omega
  have hm2:(0+m.length)*8≤140737488355328:=by omega
  obtain⟨wA,hwA⟩:∃wA,w.alloc (.cells #[] 3)=wA:=⟨_,rfl⟩
  have hb:Below w.heap.size w wA:=by rw[←hwA];exact(Below.refl _ _).alloc (Nat.le_refl _) _
  have hown:wA.ownsRow w.heap.size 3 1 (.slice (some ⟨w.heap.size,0,none⟩) 0 0) 0 []:=by rw[←hwA];exact World.ownsRow_made w #[] 0 (Nat.le_refl _) (by decide) (by simp)
  have hsA:Ap.Src wA (.slice (some ad) m.length c) m.length (m.map (Value.int .i64)):=by
   rcases hs with⟨h1,_⟩|⟨ad',c',h1,h2⟩
   ·cases h1
   ·refine .inr ⟨ad',c',h1,fun j u hu=> ?_⟩;have hc:=h2 j u hu;exact(hb.cell (World.block_lt_of_cell? w _ hc)).trans hc
  have HS:=hd hsA;have HO:=hd hown;have HB:=hd hb;clear hs hsA hown hb;go_enter Tryz.func23,Tryz.ntmps23;go_wp2_with(at_builtin;refine Ap.list rfl _ _ 22 rfl w.heap.size 3 i1 (.int .i64 0) 1 8 Tryz.underlying22 hi1 hy0 hy1 hy2 rfl (by decide) (.slice (some ⟨w.heap.size,0,none⟩) 0 0) 0 [] rfl HO.out (.slice (some ad) m.length c) m.length (m.map (Value.int .i64)) rfl HS.out (by simp) (by intro u hu;obtain⟨x,_,rfl⟩:=List.mem_map.1 hu;rfl) hm1 hm2 HB.out.size ?_;intro v' w5 hown hg hat;obtain⟨a5,c5,rfl⟩:=Dt.row_form hown)
  go_ret;simp only[Nat.zero_add,List.nil_append]at hown;exact⟨_,rfl,Dt.IRow.of_own hown,Dt.grown_below HB.out hg (Nat.le_refl _) (fun k hk=>by cases hk;exact Nat.le_refl _)⟩
namespace Co
mutual
def Snd:C→Prop
 | .mk k n s d p l=>alone (.mk k n s d p l)=true∧l.length≤8192∧Snds l
def Snds:List C→Prop
 |[]=>True
 |c :: r=>Snd c∧Snds r
end
theorem Snds.at:∀ {l:List C},Snds l→∀y∈l,Snd y
 |[],_,y,h=>absurd h (by simp)
 |d :: r,hw,y,h=>by
  rw[Snds]at hw;rcases List.mem_cons.1 h with rfl|h
  ·exact hw.1
  ·exact Snds.at hw.2 y h
theorem snd_parts{c:C}(h:Snd c):alone c=true∧c.l.length≤8192∧Snds c.l:=by cases c;rw[Snd]at h;exact h
mutual
theorem goes_snd{opn:Bool}:∀(c:C) {deep:Nat} {win:List Int} {top:Bool} {cnt:Nat} {bd:List Int} {r:Nat×List Int},goes opn c deep win top cnt bd=(0,r)→Snd c∧cnt<r.1∧r.1≤8192
 | .mk k n s d p l,deep,win,top,cnt,bd,r,h=>by
  obtain⟨h1,h2⟩:=goes_ok h;obtain⟨h3,-,-⟩:=here_ok h1;have h4:=here_room h1;obtain⟨g1,g2,g3⟩:=goesL_snd l (by omega) h2;rw[Snd];exact⟨⟨h3,by omega,g1⟩,by omega,g3⟩
theorem goesL_snd{opn:Bool}:∀(l:List C) {deep:Nat} {win:List Int} {top:Bool} {cnt:Nat} {bd:List Int} {r:Nat×List Int},cnt≤8192→goesL opn l deep win top cnt bd=(0,r)→Snds l∧cnt+l.length≤r.1∧r.1≤8192
 |[],_,_,_,cnt,_,r,hc,h=>by
  rw[goesL]at h;cases h;rw[Snds];exact⟨trivial,by simp,hc⟩
 |c :: l,deep,win,top,cnt,bd,r,hc,h=>by
  obtain⟨q,h1,h2⟩:=goesL_ok h;obtain⟨g1,g2,g3⟩:=goes_snd c h1;obtain⟨g4,g5,g6⟩:=goesL_snd l g3 h2;rw[Snds];exact⟨⟨g1,g4⟩,by rw[List.length_cons];omega,g6⟩
end
theorem none_of_alone{c:C}(h:alone c=true)(hk:c.k≠1):none_ c.d=true:=by
 cases c with
 |mk k n s d p l=>
  unfold alone at h;dsimp only at h;have hk':¬k=1:=hk;rw[if_neg hk']at h;split at h
  ·cases h
  ·rename_i h2;show none_ d=true;cases hn:none_ d
   ·exact absurd hn h2
   ·rfl
theorem const_of_alone{c:C}(h:alone c=true)(hk:c.k=1):Dt.check c.d=0:=by
 cases c with
 |mk k n s d p l=>
  have e:k=1:=hk;subst e;unfold alone at h;dsimp only at h;rw[if_pos rfl,Bool.and_eq_true]at h;have h2:=h.2;unfold const at h2;rw[Bool.and_eq_true]at h2;exact of_decide_eq_true h2.1
theorem rep_none{F G:Nat→Prop}{w w':World}{d:Dt.D}{vm vl vt:Value}(hd:none_ d=true)(h:Dt.Rep F w d vm vl vt):Dt.Rep G w' d vm vl vt:=by
 rw[none_eq hd]at h ⊢;obtain⟨⟨a1,c1,rfl,h1,-⟩,⟨a2,c2,rfl,h2,-⟩,⟨a3,c3,rfl,h3,-⟩⟩:=(Dt.rep_iff _ _ _ _ _ _).1 h;exact(Dt.rep_iff _ _ _ _ _ _).2 ⟨⟨a1,c1,rfl,h1,fun e=>absurd rfl e⟩,⟨a2,c2,rfl,h2,fun e=>absurd rfl e⟩,⟨a3,c3,rfl,h3,fun e=>absurd rfl e⟩⟩
def OwnIs(c:C):Prop:=∀(G:Nat→Prop) (vm vl vt vp vk:Value) (w:World),Wf c→Snd c→Rep G w c vm vl vt vp vk→
 Calls Tryz.prog 46 #[V c vm vl vt vp vk] w fun e w'=>∃um ul ut up uk,e= .returned (V c um ul ut up uk)∧Rep (fun k=>w.heap.size≤k) w' c um ul ut up uk∧Below w.heap.size w w'
def OMid(c:C)(vp vk:Value)(w:World)(R0:Nat)(wx:World):Prop:=
 ∃um ul ut,Hp wx w.heap.size #[.int .i64 c.k,.int .i64 c.n,.string c.s,.int .i64 c.d.k,.int .i64 c.d.n,.string c.d.s,um,ul,ut,vp,vk] 28∧Hp wx R0 #[.int .i64 0,.int .i64 0,.string ⟨#[]⟩,.int .i64 0,.int .i64 0,.string ⟨#[]⟩,.slice none 0 0,.slice none 0 0,.slice none 0 0,.slice none 0 0,.slice none 0 0] 28∧Dt.Rep (fun k=>R0<k∧k<wx.heap.size) wx c.d um ul ut∧Below w.heap.size w wx∧R0<wx.heap.size
def set6o(w:World)(B:Nat)(a b c d e f:Value):World:=(((((w.setCell ⟨B,3,none⟩ a).setCell ⟨B,4,none⟩ b).setCell ⟨B,5,none⟩ c).setCell ⟨B,6,none⟩ d).setCell ⟨B,7,none⟩ e).setCell ⟨B,8,none⟩ f
theorem set6o_keep(w:World)(B:Nat)(a b c d e f:Value):Keep (fun k=>k=B) w (set6o w B a b c d e f):=
 ((((((Keep.refl (fun k=>k=B) w).setCell rfl 3 a).setCell rfl 4 b).setCell rfl 5 c).setCell rfl 6 d).setCell rfl 7 e).setCell rfl 8 f
def set11(w:World)(B:Nat)(a b c d e f g h i j k:Value):World:=((((((((((w.setCell ⟨B,0,none⟩ a).setCell ⟨B,1,none⟩ b).setCell ⟨B,2,none⟩ c).setCell ⟨B,3,none⟩ d).setCell ⟨B,4,none⟩ e).setCell ⟨B,5,none⟩ f).setCell ⟨B,6,none⟩ g).setCell ⟨B,7,none⟩ h).setCell ⟨B,8,none⟩ i).setCell ⟨B,9,none⟩ j).setCell ⟨B,10,none⟩ k
theorem set11_keep(w:World)(B:Nat)(a b c d e f g h i j k:Value):Keep (fun x=>x=B) w (set11 w B a b c d e f g h i j k):=
 (((((((((((Keep.refl (fun x=>x=B) w).setCell rfl 0 a).setCell rfl 1 b).setCell rfl 2 c).setCell rfl 3 d).setCell rfl 4 e).setCell rfl 5 f).setCell rfl 6 g).setCell rfl 7 h).setCell rfl 8 i).setCell rfl 9 j).setCell rfl 10 k
structure OInv(c:C)(um ul ut up vk:Value)(w:World)(R0 Bs:Nat)(j:Nat)(v:Value)(ps:List PC)(wr:World):Prop where
 row:Rowing wr Bs v ps
 len:ps.length=j
 map:ps.map PC.c=c.l.take j
 hc:Hp wr w.heap.size #[.int .i64 c.k,.int .i64 c.n,.string c.s,.int .i64 c.d.k,.int .i64 c.d.n,.string c.d.s,um,ul,ut,up,vk] 28
 hr:Hp wr R0 #[.int .i64 0,.int .i64 0,.string ⟨#[]⟩,.int .i64 0,.int .i64 0,.string ⟨#[]⟩,.slice none 0 0,.slice none 0 0,.slice none 0 0,.slice none 0 0,.slice none 0 0] 28
 hd:Dt.Rep (fun k=>R0<k∧k<Bs) wr c.d um ul ut
 hp:Dt.IRow (fun k=>R0<k∧k<Bs) wr up c.p
 kb:Below w.heap.size w wr
 bs:Bs≤wr.heap.size
 lr:w.heap.size<R0
 rb:R0<Bs
end Co
theorem coOwn_step(c:Co.C)(hch:∀y∈c.l,Co.OwnIs y):Co.OwnIs c:=by
 intro G vm vl vt vp vk w hW hS hR;obtain⟨hal,hl8,hsl⟩:=Co.snd_parts hS;obtain⟨hrd,hrp,hrk⟩:=(Co.rep_iff _ _ _ _ _ _ _ _).1 hR;obtain⟨b1,n1,q1,b2,n2,q2,b3,n3,q3,b4,n4,q4,b5,n5,q5,rfl,rfl,rfl,rfl,rfl⟩:=hR.forms5;obtain⟨-,-,hWd,-,-,-,hWl⟩:=Co.wf_parts hW;obtain⟨_,_,he5,_,_⟩:=id hrk;injection he5 with he5a he5b he5c
 subst he5b;clear he5a he5c;have hp32:=Co.alone_p32 hal;unfold Co.V;obtain⟨w1,hw1⟩:∃w1,w.alloc (.cells #[.int .i64 c.k,.int .i64 c.n,.string c.s,.int .i64 c.d.k,.int .i64 c.d.n,.string c.d.s,.slice b1 n1 q1,.slice b2 n2 q2,.slice b3 n3 q3,.slice b4 n4 q4,.slice b5 c.l.length q5] 28)=w1:=⟨_,rfl⟩
 obtain⟨w2,hw2⟩:∃w2,w1.alloc (.cells #[.int .i64 0,.int .i64 0,.string ⟨#[]⟩,.int .i64 0,.int .i64 0,.string ⟨#[]⟩,.slice none 0 0,.slice none 0 0,.slice none 0 0,.slice none 0 0,.slice none 0 0] 28)=w2:=⟨_,rfl⟩
 obtain⟨hb1,hs1⟩:=new_below hw1;obtain⟨hb2,hs2⟩:=new_below hw2;have Hc:=hd ((Hp.new hw1).below hb2);have Hr:=hd (Hp.new hw2);have hb12:=btr hb1 hb2;obtain⟨R0,hR0⟩:∃R0,w1.heap.size=R0:=⟨_,rfl⟩
 rw[hR0]at Hr hs1 hs2;have HLR:Hid (w.heap.size<R0∧w2.heap.size=R0+1):=⟨by omega,hs2⟩
 have HB2:=hd hb12;have HRD:=hd (hrd.below hb12);have HRP:=hd hrp;have HRK:=hd hrk;have HWD:=hd hWd;have HWL:=hd hWl;have HSL:=hd hsl;have HCH:=hd hch;have HRD0:=hd hrd;have hno:=Co.none_of_alone hal;have hco:=Co.const_of_alone hal;have HNO:=hd hno;have HCO:=hd hco;obtain⟨c0,c1,c2,c3,c4,c5,c6,c7,c8,c9,c10⟩:=Hc.out.c11;have cf0:=Hc.out.frz 0;have cf1:=Hc.out.frz 1;have cf2:=Hc.out.frz 2;have cf3:=Hc.out.frz 3;have cf4:=Hc.out.frz 4;have cf5:=Hc.out.frz 5;have cf6:=Hc.out.frz 6;have cf7:=Hc.out.frz 7;have cf8:=Hc.out.frz 8;have cf9:=Hc.out.frz 9;have cf10:=Hc.out.frz 10;clear hb1 hb2 hs1 hs2 hb12 hrd hrp hrk hWd hWl hsl hch hW hS hR hal hno hco;go_enter Tryz.func46,Tryz.ntmps46
 go_upto_if 8 with fail
 clear hw1 hw2
 go_cut [] (fun wx=>Co.OMid c (.slice b4 n4 q4) (.slice b5 c.l.length q5) w R0 wx)
 case first=>
  by_cases hk:c.k=1
  ·have hkb:(c.k==1)=true:=by simpa using hk
   have hcl:=dClone_any c.d (.slice b1 n1 q1) (.slice b2 n2 q2) (.slice b3 n3 q3) w2 HWD.out HRD.out;have hck:=HCO.out hk;rw[show Dt.clone c.d=c.d from if_pos hck]at hcl;clear hk hck;go_wp2_with fail
   refine hcl.mono ?_;rintro e w3 ⟨⟨um,ul,ut,rfl,hr3⟩,hb3⟩;obtain⟨a1,m1,z1,a2,m2,z2,a3,m3,z3,rfl,rfl,rfl⟩:=hr3.forms;have Hc3:=hd (Hc.out.below hb3);have HM:Hid (Co.OMid c (.slice b4 n4 q4) (.slice b5 c.l.length q5) w R0 (Co.set6o w3 w.heap.size (.int .i64 c.d.k) (.int .i64 c.d.n) (.string c.d.s) (.slice a1 m1 z1) (.slice a2 m2 z2) (.slice a3 m3 z3))):=by
    have k34:=Co.set6o_keep w3 w.heap.size (.int .i64 c.d.k) (.int .i64 c.d.n) (.string c.d.s) (.slice a1 m1 z1) (.slice a2 m2 z2) (.slice a3 m3 z3);have hr3':Dt.Rep (fun k=>R0<k∧k<w3.heap.size) w3 c.d (.slice a1 m1 z1) (.slice a2 m2 z2) (.slice a3 m3 z3):=Dt.Rep.mono (fun b hb hl=>⟨by have:=HLR.out;omega,hl⟩) c.d hr3;refine⟨_,_,_,(((((Hc3.out.set 3 _).set 4 _).set 5 _).set 6 _).set 7 _).set 8 _,(Hr.out.below hb3).keep k34 (fun e=>by have:=HLR.out;omega),Dt.Rep.mono (fun b hb _=>⟨hb.1,by have:=k34.size;omega⟩) c.d (Dt.Rep.keep k34 (fun b hb _ e=>by have:=HLR.out;omega) c.d hr3'),((btr HB2.out hb3)).trans (k34.to_below (fun k e=>by omega) (by have:=hb3.size;have:=HB2.out.size;omega)),by have:=k34.size;have:=hb3.size;have:=HLR.out;omega⟩
   clear hcl hr3 hb3;clear c0 c1 c2 c3 c4 c5 c6 c7 c8 c9 c10;clear cf0 cf1 cf2 cf3 cf4 cf5 cf6 cf7 cf8 cf9 cf10;obtain⟨c0,c1,c2,c3,c4,c5,c6,c7,c8,c9,c10⟩:=Hc3.out.c11;have cf0:=Hc3.out.frz 0;have cf1:=Hc3.out.frz 1;have cf2:=Hc3.out.frz 2;have cf3:=Hc3.out.frz 3;have cf4:=Hc3.out.frz 4;have cf5:=Hc3.out.frz 5;have cf6:=Hc3.out.frz 6;have cf7:=Hc3.out.frz 7;have cf8:=Hc3.out.frz 8;have cf9:=Hc3.out.frz 9;have cf10:=Hc3.out.frz 10;go_wp2;go_meet;exact HM.out
  ·have hkb:(c.k==1)=false:=by simpa using hk
   have HM:Hid (Co.OMid c (.slice b4 n4 q4) (.slice b5 c.l.length q5) w R0 w2):=
    ⟨_,_,_,Hc.out,Hr.out,Co.rep_none (HNO.out hk) HRD0.out,HB2.out,by have:=HLR.out;omega⟩
   clear hk;go_wp2;go_meet;exact HM.out
 case rest=>
  obtain⟨um,ul,ut,hc3,hr3,hd3,hb3,hl3⟩:=hcut;obtain⟨w3,rfl⟩:∃w3,w3=wc:=⟨_,rfl⟩
  obtain⟨a1,m1,z1,a2,m2,z2,a3,m3,z3,rfl,rfl,rfl⟩:=hd3.forms;have hcl:=cloneInts2_any (.slice b4 n4 q4) c.p w3 (HRP.out.keep (keep_of_below (S:=fun _=>False) hb3) (fun _ _ _ h=>h)) (by omega);clear c0 c1 c2 c3 c4 c5 c6 c7 c8 c9 c10;clear cf0 cf1 cf2 cf3 cf4 cf5 cf6 cf7 cf8 cf9 cf10;have Hc3:=hd hc3;have Hr3:=hd hr3;have HD3:=hd hd3;have HB3:=hd hb3;have HL3:=hd hl3;clear hc3 hr3 hd3 hb3 hl3 Hc Hr HB2 HRD HRD0 HNO HCO HWD;obtain⟨c0,c1,c2,c3,c4,c5,c6,c7,c8,c9,c10⟩:=Hc3.out.c11;go_wp2_with fail
  refine hcl.mono ?_;rintro e w4 ⟨up,rfl,hup,hb4⟩;obtain⟨a4,z4,rfl,hz4,hup4⟩:=hup;have hup:Dt.IRow (fun k=>w3.heap.size≤k) w4 (.slice a4 c.p.length z4) c.p:=⟨a4,z4,rfl,hz4,hup4⟩
  have Hc4:=hd (Hc3.out.below hb4);obtain⟨w5,hw5⟩:∃w5,w4.setCell ⟨w.heap.size,9,none⟩ (.slice a4 c.p.length z4)=w5:=⟨_,rfl⟩
  have k45:Keep (fun k=>k=w.heap.size) w4 w5:=by rw[←hw5];exact set_keep _ _ _ _
  obtain⟨Bs,hBs⟩:∃Bs,w5.heap.size=Bs:=⟨_,rfl⟩
  have hlr:=HLR.out.1;have hz34:=hb4.size;have hz45:=k45.size;have hl3:=HL3.out;have HIN:Hid (Co.OInv c (.slice a1 m1 z1) (.slice a2 m2 z2) (.slice a3 m3 z3) (.slice a4 c.p.length z4) (.slice b5 c.l.length q5) w R0 Bs 0 (.slice none 0 0) [] w5):=by
   refine⟨Co.Rowing.nil _ _,rfl,rfl,by rw[←hw5];exact Hc4.out.set 9 _,(Hr3.out.below hb4).keep k45 (fun e=>by omega),Dt.Rep.mono (fun b hb _=>⟨hb.1,by omega⟩) c.d (Dt.Rep.keep k45 (fun b hb _ e=>by omega) c.d (HD3.out.below hb4)),?_,((btr HB3.out hb4)).trans (k45.to_below (fun k e=>by omega) (by have:=HB3.out.size;omega)),by omega,hlr,by omega⟩;have h1:=hup.keep k45 (fun b hb _ e=>by omega);exact Co.irow_mono (fun b hb hl=>⟨by omega,by omega⟩) h1
  have HRKW:=hd (hlr);have x9:=Hc4.out.cell 9 rfl;have xf9:=Hc4.out.frz 9;have x10:=HIN.out.hc.cell 10 rfl;clear hcl hup hup4 hb4 k45 hz34 hz45 hl3 hlr Hc4;clear c0 c1 c2 c3 c4 c5 c6 c7 c8 c9 c10;go_wp2;clear x9 xf9 x10 hw5;obtain⟨i0,hi,hz0,hz1,hz2⟩:=info_parts Co.infoC;have HI:=hd hi;have HZ0:=hd hz0;have HZ1:=hd hz1;have HZ2:=hd hz2;clear hi hz0 hz1 hz2
  go_loopw [3,20] (fun v3 v20 wr=>∃(j:Nat) (ps:List Co.PC) (al:Option Addr) (ql:Nat),v3= .slice al j ql∧v20= .int .i64 j∧j≤c.l.length∧Hid (Co.OInv c (.slice a1 m1 z1) (.slice a2 m2 z2) (.slice a3 m3 z3) (.slice a4 c.p.length z4) (.slice b5 c.l.length q5) w R0 Bs j (.slice al j ql) ps wr)) (fun _ v20 _=>c.l.length - (intOf v20).toNat)
  case atStart=>exact⟨0,[],none,0,rfl,rfl,by omega,HIN⟩
  case round=>
   clear HIN;obtain⟨j,ps,al,ql,rfl,rfl,hj,HL⟩:=hrel;by_cases hlt:j<c.l.length
   case neg=>
    have hge:(c.l.length:Int)≤(j:Int):=by omega
    obtain rfl:j=c.l.length:=by omega
    have hinv:=HL.out;obtain⟨W1,hW1⟩:∃W1,wr.setCell ⟨w.heap.size,10,none⟩ (.slice al c.l.length ql)=W1:=⟨_,rfl⟩
    have k1:Keep (fun k=>k=w.heap.size) wr W1:=by rw[←hW1];exact set_keep _ _ _ _
    have hlr:=hinv.lr;have hrb:=hinv.rb;have Hc1:Hid (Hp W1 w.heap.size #[.int .i64 c.k,.int .i64 c.n,.string c.s,.int .i64 c.d.k,.int .i64 c.d.n,.string c.d.s,.slice a1 m1 z1,.slice a2 m2 z2,.slice a3 m3 z3,.slice a4 c.p.length z4,.slice al c.l.length ql] 28):=by rw[←hW1];exact hinv.hc.set 10 _
    have Hr1:=hd (hinv.hr.keep k1 (fun e=>by omega));have k2:=Co.set11_keep W1 R0 (.int .i64 c.k) (.int .i64 c.n) (.string c.s) (.int .i64 c.d.k) (.int .i64 c.d.n) (.string c.d.s) (.slice a1 m1 z1) (.slice a2 m2 z2) (.slice a3 m3 z3) (.slice a4 c.p.length z4) (.slice al c.l.length ql);have k12:Keep (fun k=>k=w.heap.size∨k=R0) wr (Co.set11 W1 R0 (.int .i64 c.k) (.int .i64 c.n) (.string c.s) (.int .i64 c.d.k) (.int .i64 c.d.n) (.string c.d.s) (.slice a1 m1 z1) (.slice a2 m2 z2) (.slice a3 m3 z3) (.slice a4 c.p.length z4) (.slice al c.l.length ql)):=(k1.le fun k e=> .inl e).trans (k2.le fun k e=> .inr e);have HE:Hid (Co.Rep (fun k=>w.heap.size≤k) (Co.set11 W1 R0 (.int .i64 c.k) (.int .i64 c.n) (.string c.s) (.int .i64 c.d.k) (.int .i64 c.d.n) (.string c.d.s) (.slice a1 m1 z1) (.slice a2 m2 z2) (.slice a3 m3 z3) (.slice a4 c.p.length z4) (.slice al c.l.length ql)) c (.slice a1 m1 z1) (.slice a2 m2 z2) (.slice a3 m3 z3) (.slice a4 c.p.length z4) (.slice al c.l.length ql)∧Below w.heap.size w (Co.set11 W1 R0 (.int .i64 c.k) (.int .i64 c.n) (.string c.s) (.int .i64 c.d.k) (.int .i64 c.d.n) (.string c.d.s) (.slice a1 m1 z1) (.slice a2 m2 z2) (.slice a3 m3 z3) (.slice a4 c.p.length z4) (.slice al c.l.length ql))):=by
     refine⟨?_,hinv.kb.trans (k12.to_below (fun k e=>by omega) hinv.kb.size)⟩;have hrow:=hinv.row.to_row;rw[hinv.map,List.take_length]at hrow;have h1:Co.Rep (fun k=>R0<k) wr c (.slice a1 m1 z1) (.slice a2 m2 z2) (.slice a3 m3 z3) (.slice a4 c.p.length z4) (.slice al c.l.length ql):=
      (Co.rep_iff _ _ _ _ _ _ _ _).2 ⟨Dt.Rep.mono (fun b hb _ => hb.1) c.d hinv.hd, Co.irow_mono (fun b hb _ => hb.1) hinv.hp, by
       obtain⟨a',c',e1,e2,e3⟩:=hrow;exact⟨a',c',e1,e2,fun hn=>by obtain⟨b,o,f1,f2,f3,f4⟩:=e3 hn;exact⟨b,o,f1,by omega,f3,Co.Reps.mono (fun k hk _=>by omega) c.l f4⟩⟩⟩
     exact Co.Rep.mono (fun b hb _=>by omega) c (Co.Rep.keep k12 (fun b hb _ e=>by omega) c h1)
    have xf10:=hinv.hc.frz 10;have x10:=hinv.hc.cell 10 rfl;obtain⟨c0,c1,c2,c3,c4,c5,c6,c7,c8,c9,c10⟩:=Hc1.out.c11;obtain⟨r0,r1,r2,r3,r4,r5,r6,r7,r8,r9,r10⟩:=Hr1.out.c11;have rf0:=Hr1.out.frz 0;have rf1:=Hr1.out.frz 1;have rf2:=Hr1.out.frz 2;have rf3:=Hr1.out.frz 3;have rf4:=Hr1.out.frz 4;have rf5:=Hr1.out.frz 5;have rf6:=Hr1.out.frz 6;have rf7:=Hr1.out.frz 7;have rf8:=Hr1.out.frz 8;have rf9:=Hr1.out.frz 9;have rf10:=Hr1.out.frz 10;clear hinv k1 k2 k12 hlr hrb;go_wp2;refine bodyPost_ret (v:=Co.V c (.slice a1 m1 z1) (.slice a2 m2 z2) (.slice a3 m3 z3) (.slice a4 c.p.length z4) (.slice al c.l.length ql)) (by unfold Co.V;simp[results,Tryz.results46,go_sem, *]) rfl ?_;exact⟨_,_,_,_,_,rfl,HE.out.1,HE.out.2⟩
   have hlti:(j:Int)<(c.l.length:Int):=by omega
   have hinv:=HL.out;obtain⟨_,_,he,_,hrow⟩:=HRK.out.below hinv.kb;injection he with he1 he2 he3
   subst he1;clear he2 he3;obtain⟨b,o',rfl,hGb,hbl,hreps⟩:=hrow (by intro h0;rw[h0]at hlt;simp at hlt);obtain⟨um,ul,ut,up,uk,hel,hry⟩:=hreps.at j hlt;obtain⟨y,hy⟩:∃y,c.l[j]=y:=⟨_,rfl⟩
   rw[hy]at hel hry;obtain⟨e0,e1,e2,e3,e4,e5,e6,e7,e8,e9,e10⟩:=hel;obtain⟨g1,i1,r1,g2,i2,r2,g3,i3,r3,g4,i4,r4,g5,i5,r5,rfl,rfl,rfl,rfl,rfl⟩:=hry.forms5;have hW10:wr.alloc (.cells #[.int .i64 y.k,.int .i64 y.n,.string y.s,.int .i64 y.d.k,.int .i64 y.d.n,.string y.d.s,.slice g1 i1 r1,.slice g2 i2 r2,.slice g3 i3 r3,.slice g4 i4 r4,.slice g5 i5 r5] 28)=wr.alloc (.cells #[.int .i64 y.k,.int .i64 y.n,.string y.s,.int .i64 y.d.k,.int .i64 y.d.n,.string y.d.s,.slice g1 i1 r1,.slice g2 i2 r2,.slice g3 i3 r3,.slice g4 i4 r4,.slice g5 i5 r5] 28):=rfl;obtain⟨hb10,hs10⟩:=new_below hW10;have hmem:y∈c.l:=by rw[←hy];exact List.getElem_mem hlt
   have hwy:Co.Wf y:=by rw[←hy];exact HWL.out.at j hlt
   have hcall:=HCH.out y hmem G _ _ _ _ _ _ hwy (HSL.out.at y hmem) (hry.below hb10);unfold Co.V at hcall;have HB10:=hd hb10;have HY:=hd hy;clear hrow hreps hry hy hW10 hb10 hwy hmem hinv;go_wp2_with fail
   refine hcall.mono ?_;rintro e w6 ⟨um,ul,ut,up,uk,rfl,hr6,hb6⟩;obtain⟨h1,k1,s1,h2,k2,s2,h3,k3,s3,h4,k4,s4,h5,k5,s5,rfl,rfl,rfl,rfl,rfl⟩:=hr6.forms5;have hb6w:Below wr.heap.size wr w6:=btr HB10.out hb6;have hWA:w6.alloc (.cells #[.int .i64 y.k,.int .i64 y.n,.string y.s,.int .i64 y.d.k,.int .i64 y.d.n,.string y.d.s,.slice h1 k1 s1,.slice h2 k2 s2,.slice h3 k3 s3,.slice h4 k4 s4,.slice h5 k5 s5] 28)=w6.alloc (.cells #[.int .i64 y.k,.int .i64 y.n,.string y.s,.int .i64 y.d.k,.int .i64 y.d.n,.string y.d.s,.slice h1 k1 s1,.slice h2 k2 s2,.slice h3 k3 s3,.slice h4 k4 s4,.slice h5 k5 s5] 28):=rfl;obtain⟨hbA,hsA⟩:=new_below hWA;have HS:Hid (Ap.Src (w6.alloc (.cells #[.int .i64 y.k,.int .i64 y.n,.string y.s,.int .i64 y.d.k,.int .i64 y.d.n,.string y.d.s,.slice h1 k1 s1,.slice h2 k2 s2,.slice h3 k3 s3,.slice h4 k4 s4,.slice h5 k5 s5] 28)) (.slice (some ⟨w6.heap.size,0,none⟩) 1 1) 1 [.int .i64 y.k,.int .i64 y.n,.string y.s,.int .i64 y.d.k,.int .i64 y.d.n,.string y.d.s,.slice h1 k1 s1,.slice h2 k2 s2,.slice h3 k3 s3,.slice h4 k4 s4,.slice h5 k5 s5]):=Co.srcNew hWA;have HRO:Hid ((w6.alloc (.cells #[.int .i64 y.k,.int .i64 y.n,.string y.s,.int .i64 y.d.k,.int .i64 y.d.n,.string y.d.s,.slice h1 k1 s1,.slice h2 k2 s2,.slice h3 k3 s3,.slice h4 k4 s4,.slice h5 k5 s5] 28)).ownsRow Bs 28 11 (.slice al j ql) j (Co.flatC ps)):=by
    have:=((HL.out.row.below hb6w).below hbA).row;rw[HL.out.len]at this;exact this
   have HBA:=hd hbA;have HB6:=hd hb6w;have HR6:=hd hr6;have HSZ:Hid (Bs≤(w6.alloc (.cells #[.int .i64 y.k,.int .i64 y.n,.string y.s,.int .i64 y.d.k,.int .i64 y.d.n,.string y.d.s,.slice h1 k1 s1,.slice h2 k2 s2,.slice h3 k3 s3,.slice h4 k4 s4,.slice h5 k5 s5] 28)).heap.size):=by
    have h1:=HL.out.bs;have h2:=hb6w.size;have h3:=hbA.size;show Bs≤_;omega
   clear hcall hb6 hb6w hWA hbA hsA hr6 hs10 e0 e1 e2 e3 e4 e5 e6 e7 e8 e9 e10;have hm1:j+1≤maxLen:=by unfold maxLen;omega
   have hm2:(j+1)*184≤140737488355328:=by omega
   go_wp2_with(at_builtin;refine Ap.list rfl _ _ 26 rfl Bs 28 i0 _ 11 184 Tryz.underlying26 HI.out HZ0.out HZ1.out HZ2.out rfl (by decide) (.slice al j ql) j (Co.flatC ps) rfl HRO.out (.slice (some ⟨w6.heap.size,0,none⟩) 1 1) 1 [.int .i64 y.k,.int .i64 y.n,.string y.s,.int .i64 y.d.k,.int .i64 y.d.n,.string y.d.s,.slice h1 k1 s1,.slice h2 k2 s2,.slice h3 k3 s3,.slice h4 k4 s4,.slice h5 k5 s5] rfl HS.out rfl (by intro u hu;simp only[List.mem_cons,List.not_mem_nil,or_false]at hu;rcases hu with rfl|rfl|rfl|rfl|rfl|rfl|rfl|rfl|rfl|rfl|rfl <;> rfl) hm1 hm2 HSZ.out ?_;intro v' w7 hown hg hat;obtain⟨a7,c7,rfl⟩:=Dt.row_form hown;have HOWN:=hd hown;have HGR:=hd hg;have HAT:=hd hat;clear hown hg hat)
   have HN:Hid (Co.OInv c (.slice a1 m1 z1) (.slice a2 m2 z2) (.slice a3 m3 z3) (.slice a4 c.p.length z4) (.slice (some ⟨b,o',none⟩) c.l.length q5) w R0 Bs (j+1) (.slice a7 (j+1) c7) (ps++[⟨y,.slice h1 k1 s1,.slice h2 k2 s2,.slice h3 k3 s3,.slice h4 k4 s4,.slice h5 k5 s5⟩]) w7):=by
    have hinv:=HL.out;have hlen:=hinv.len;obtain⟨n1,n2⟩:=Co.pushK (S:=fun _=>False) hinv.row hinv.bs (keep_of_below HB6.out) (fun _ _ h=>h) (p:=⟨y,.slice h1 k1 s1,.slice h2 k2 s2,.slice h3 k3 s3,.slice h4 k4 s4,.slice h5 k5 s5⟩) (Co.Rep.mono (fun b hb _=>by have:=HB10.out.size;omega) y HR6.out) HBA.out (by rw[hlen];exact HOWN.out) HGR.out HAT.out;have hlow:∀k,False∨(Value.slice al j ql).ownBlock=some k→Bs≤k:=fun k h=>h.elim False.elim (fun h=>(Dt.own_lt hinv.row.row k h).1)
    have hlr:=hinv.lr;have hrb:=hinv.rb;refine⟨n1,by rw[List.length_append,hlen];rfl,?_,hinv.hc.keep n2 (fun e=>by have:=hlow _ e;omega),hinv.hr.keep n2 (fun e=>by have:=hlow _ e;omega),Dt.Rep.keep n2 (fun b hb _ e=>by have:=hlow _ e;omega) c.d hinv.hd,hinv.hp.keep n2 (fun b hb _ e=>by have:=hlow _ e;omega),hinv.kb.trans (n2.to_below (fun k e=>by have:=hlow _ e;omega) hinv.kb.size),Nat.le_trans hinv.bs n2.size,hlr,hrb⟩;rw[List.map_append,hinv.map,List.take_succ_eq_append_getElem hlt,HY.out]
    rfl
   clear HS HRO HBA HB6 HR6 HSZ HOWN HGR HAT HB10;go_wp2;go_roundw
   case rel=>exact⟨j+1,_,a7,c7,rfl,by simp,by omega,HN⟩
   case measure=>simp[intOf];omega
mutual
theorem coOwn_any:∀c:Co.C,Co.OwnIs c
 | .mk k n s d p l=>coOwn_step (.mk k n s d p l) (coOwns_any l)
theorem coOwns_any:∀(l:List Co.C),∀y∈l,Co.OwnIs y
 |[],_,h=>absurd h (by simp)
 |c :: r,y,h=>(List.mem_cons.1 h).elim (fun e=>by rw[e];exact coOwn_any c) (fun h'=>coOwns_any r y h')
end
namespace Co
open Dt (D)
def symD(s:ByteArray):D:= .mk 5 0 s [] [] []
def fixD(n:Int):D:= .mk 1 n ⟨#[]⟩ [] [] []
def lstD(l:List D):D:= .mk 6 0 ⟨#[]⟩ [] l []
theorem rep_nil(F:Nat→Prop)(w:World)(k n:Int)(s:ByteArray):Dt.Rep F w (.mk k n s [] [] []) (.slice none 0 0) (.slice none 0 0) (.slice none 0 0):=
 (Dt.rep_iff _ _ _ _ _ _).2 ⟨⟨none,0,rfl,Nat.le_refl _,fun h=>absurd rfl h⟩,⟨none,0,rfl,Nat.le_refl _,fun h=>absurd rfl h⟩,⟨none,0,rfl,Nat.le_refl _,fun h=>absurd rfl h⟩⟩
theorem flatP_forms{qs:List Dt.P}{F:Nat→Prop}{w:World}(h:∀q∈qs,Dt.Rep F w q.d q.vm q.vl q.vt):∀u∈Dt.flatP qs,u.oneCell'=true:=
 Rd.flatP_one qs fun p hp=>by
  obtain⟨a1,n1,c1,a2,n2,c2,a3,n3,c3,e⟩:=(h p hp).forms;exact⟨a1,n1,c1,a2,n2,c2,a3,n3,c3,e⟩
end Co
theorem coSym_any(s:ByteArray)(w:World):Calls Tryz.prog 77 #[.string s] w fun e w'=>e= .returned (.agg #[.int .i64 5,.int .i64 0,.string s,.slice none 0 0,.slice none 0 0,.slice none 0 0])∧Below w.heap.size w w':=by
 obtain⟨w1,hw1⟩:∃w1,w.alloc (.cells #[.int .i64 0,.int .i64 0,.string ⟨#[]⟩,.slice none 0 0,.slice none 0 0,.slice none 0 0] 25)=w1:=⟨_,rfl⟩
 obtain⟨hb1,hs1⟩:=new_below hw1;have h1:=Hp.new hw1;have H1:=hd h1;obtain⟨x0,x1,x2,x3,x4,x5⟩:=H1.out.c6;have xf0:=H1.out.frz 0;have xf1:=H1.out.frz 1;have xf2:=H1.out.frz 2;have xf3:=H1.out.frz 3;have xf4:=H1.out.frz 4;have xf5:=H1.out.frz 5;have HB:Hid (Below w.heap.size w (set6 w1 w.heap.size (.int .i64 5) (.int .i64 0) (.string s) (.slice none 0 0) (.slice none 0 0) (.slice none 0 0))):=hb1.trans ((set6_keep w1 w.heap.size _ _ _ _ _ _).to_below (fun k e=>by omega) hb1.size);clear h1 hb1 hs1;go_enter Tryz.func77,Tryz.ntmps77;go_wp2;refine bodyPost_ret (v:= .agg #[.int .i64 5,.int .i64 0,.string s,.slice none 0 0,.slice none 0 0,.slice none 0 0]) (by simp[results,Tryz.results77,go_sem, *]) rfl ?_;exact⟨rfl,HB.out⟩
theorem coFix_any(n:Int)(w:World):Calls Tryz.prog 78 #[.int .i64 n] w fun e w'=>e= .returned (.agg #[.int .i64 1,.int .i64 n,.string ⟨#[]⟩,.slice none 0 0,.slice none 0 0,.slice none 0 0])∧Below w.heap.size w w':=by
 obtain⟨w1,hw1⟩:∃w1,w.alloc (.cells #[.int .i64 0,.int .i64 0,.string ⟨#[]⟩,.slice none 0 0,.slice none 0 0,.slice none 0 0] 25)=w1:=⟨_,rfl⟩
 obtain⟨hb1,hs1⟩:=new_below hw1;have h1:=Hp.new hw1;have H1:=hd h1;obtain⟨x0,x1,x2,x3,x4,x5⟩:=H1.out.c6;have xf0:=H1.out.frz 0;have xf1:=H1.out.frz 1;have xf2:=H1.out.frz 2;have xf3:=H1.out.frz 3;have xf4:=H1.out.frz 4;have xf5:=H1.out.frz 5;have HB:Hid (Below w.heap.size w (set6 w1 w.heap.size (.int .i64 1) (.int .i64 n) (.string ⟨#[]⟩) (.slice none 0 0) (.slice none 0 0) (.slice none 0 0))):=hb1.trans ((set6_keep w1 w.heap.size _ _ _ _ _ _).to_below (fun k e=>by omega) hb1.size);clear h1 hb1 hs1;go_enter Tryz.func78,Tryz.ntmps78;go_wp2;refine bodyPost_ret (v:= .agg #[.int .i64 1,.int .i64 n,.string ⟨#[]⟩,.slice none 0 0,.slice none 0 0,.slice none 0 0]) (by simp[results,Tryz.results78,go_sem, *]) rfl ?_;exact⟨rfl,HB.out⟩
theorem cloneData_any{F:Nat→Prop}(v:Value)(l:List Dt.D)(w:World)(h:Dt.Row F w v l)(hz:Rd.Nz v)(hl:l.length≤100000):
  Calls Tryz.prog 103 #[v] w fun e w'=>∃v',e= .returned v'∧Dt.Row (fun k=>F k∨w.heap.size≤k) w' v' l∧Below w.heap.size w w':=by
 have h0:=h;obtain⟨a,c,rfl,hc,hpt⟩:=h;have hn:=Lib.run_eql_slice_nil (P:=Tryz.prog) w 23 25 a l.length c 0 0 Tryz.underlying23
 cases a with
 |none=>
  have hl0:l=[]:=by
   cases l with
   |nil=>rfl
   |cons x r=>obtain⟨b,o,e,_⟩:=hpt (by simp);cases e
  subst hl0;have hn':(binOp .eql 23 (.slice none 0 c) (.slice none 0 0)).run Tryz.prog w= .ok (.bool true) w:=hn;clear hn h0 hpt;go_enter Tryz.func103,Tryz.ntmps103;go_wp2;go_ret;exact⟨_,rfl,⟨none,0,rfl,Nat.le_refl _,fun h=>absurd rfl h⟩,Below.refl _ _⟩
 |some ad=>
  obtain⟨i1,hi1,hy0,hy1,hy2⟩:=info_parts Dt.infoD;obtain⟨qs,hqs,hsrc0,hqr⟩:=Rd.row_parts h0 hz;have hln0:qs.length=l.length:=by rw[←hqs,List.length_map]
  have hm1:0+l.length≤maxLen:=by unfold maxLen;omega
  have hm2:(0+l.length)*104≤140737488355328:=by omega
  obtain⟨wA,hwA⟩:∃wA,w.alloc (.cells #[] 25)=wA:=⟨_,rfl⟩
  have hb:Below w.heap.size w wA:=by rw[←hwA];exact(Below.refl _ _).alloc (Nat.le_refl _) _
  have hown:wA.ownsRow w.heap.size 25 6 (.slice (some ⟨w.heap.size,0,none⟩) 0 0) 0 []:=by rw[←hwA];exact World.ownsRow_made w #[] 0 (Nat.le_refl _) (by decide) (by simp)
  have hsrc:Ap.Src wA (.slice (some ad) l.length c) l.length (Dt.flatP qs):=by
   rcases hsrc0 with⟨h1,_⟩|⟨ad',c',h1,h2⟩
   ·cases h1
   ·refine .inr ⟨ad',c',h1,fun j u hu=> ?_⟩;have hc:=h2 j u hu;exact(hb.cell (World.block_lt_of_cell? w _ hc)).trans hc
  have hln:(Dt.flatP qs).length=l.length*6:=by rw[Rd.flatP_len,hln0]
  have h1:∀u∈Dt.flatP qs,u.oneCell'=true:=Co.flatP_forms hqr;obtain⟨X,hX⟩:∃X,Dt.flatP qs=X:=⟨_,rfl⟩
  rw[hX]at hsrc hln h1;have HX:=hd hX;have HO:=hd hown;have HB:=hd hb;have HQR:=hd hqr;have HQS:=hd hqs;have HL0:=hd hln0;clear h0 hpt hown hb hX hsrc0 hqr hqs hln0;go_enter Tryz.func103,Tryz.ntmps103;go_wp2_with(at_builtin;refine Ap.list rfl _ _ 23 rfl w.heap.size 25 i1 (.agg #[.int .i64 0,.int .i64 0,.string ⟨#[]⟩,.slice none 0 0,.slice none 0 0,.slice none 0 0]) 6 104 Tryz.underlying23 hi1 hy0 hy1 hy2 rfl (by decide) (.slice (some ⟨w.heap.size,0,none⟩) 0 0) 0 [] rfl HO.out (.slice (some ad) l.length c) l.length X rfl hsrc hln h1 hm1 hm2 HB.out.size ?_;intro v' w5 hown hg hat;obtain⟨a5,c5,rfl⟩:=Dt.row_form hown)
  go_ret;simp only[Nat.zero_add,List.nil_append]at hown;rw[←HX.out]at hown;have hb5:Below w.heap.size w w5:=Dt.grown_below HB.out hg (Nat.le_refl _) (fun k hk=>by cases hk;exact Nat.le_refl _);refine⟨_,rfl,?_,hb5⟩;have hrr:=Rd.row_of_own (F:=fun k=>F k∨w.heap.size≤k) hown HL0.out.symm (fun j hj=> .inr (Dt.own_lt hown j hj).1) (fun p hp=>Dt.Rep.mono (fun b hb _=> .inl hb) p.d ((HQR.out p hp).below hb5));rw[HQS.out]at hrr;exact hrr
theorem coList_any{F:Nat→Prop}(v:Value)(l:List Dt.D)(w:World)(h:Dt.Row F w v l)(hz:Rd.Nz v)(hl:l.length≤100000):
  Calls Tryz.prog 79 #[v] w fun e w'=>∃v',e= .returned (.agg #[.int .i64 6,.int .i64 0,.string ⟨#[]⟩,.slice none 0 0,v',.slice none 0 0])∧Dt.Row (fun k=>F k∨w.heap.size≤k) w' v' l∧Below w.heap.size w w':=by
 obtain⟨w1,hw1⟩:∃w1,w.alloc (.cells #[.int .i64 0,.int .i64 0,.string ⟨#[]⟩,.slice none 0 0,.slice none 0 0,.slice none 0 0] 25)=w1:=⟨_,rfl⟩
 obtain⟨hb1,hs1⟩:=new_below hw1;have h1:=Hp.new hw1;have h':Dt.Row (fun k=>F k∧k<w.heap.size) w v l:=h.mono (fun b hb hl=>⟨hb,hl⟩);have hcl:=cloneData_any v l w1 (h'.below hb1) hz hl;have H1:=hd h1;have HB1:=hd hb1;have HS1:=hd hs1;clear h1 hb1 hs1 h h' hz hl;go_enter Tryz.func79,Tryz.ntmps79;go_wp2_with fail
 refine hcl.mono ?_;rintro e w2 ⟨v',rfl,hrow,hb2⟩;obtain⟨a2,c2,rfl,hc2,hpt2⟩:=hrow;have hrow:Dt.Row (fun k=>(F k∧k<w.heap.size)∨w1.heap.size≤k) w2 (.slice a2 l.length c2) l:=⟨a2,c2,rfl,hc2,hpt2⟩
 have H2:=hd (H1.out.below hb2);have k3:=set6_keep w2 w.heap.size (.int .i64 6) (.int .i64 0) (.string ⟨#[]⟩) (.slice none 0 0) (.slice a2 l.length c2) (.slice none 0 0);have HF:Hid (Dt.Row (fun k=>F k∨w.heap.size≤k) (set6 w2 w.heap.size (.int .i64 6) (.int .i64 0) (.string ⟨#[]⟩) (.slice none 0 0) (.slice a2 l.length c2) (.slice none 0 0)) (.slice a2 l.length c2) l∧Below w.heap.size w (set6 w2 w.heap.size (.int .i64 6) (.int .i64 0) (.string ⟨#[]⟩) (.slice none 0 0) (.slice a2 l.length c2) (.slice none 0 0))):=by
  exact⟨Dt.Row.mono (hrow.keep k3 (fun b hb _ e=>by have:=HS1.out;omega)) (fun b hb _=>hb.elim (fun h=> .inl h.1) (fun h=> .inr (by have:=HS1.out;omega))),((btr HB1.out hb2)).trans (k3.to_below (fun k e=>by omega) (by have:=HB1.out.size;have:=hb2.size;omega))⟩
 obtain⟨x0,x1,x2,x3,x4,x5⟩:=H2.out.c6;have xf0:=H2.out.frz 0;have xf1:=H2.out.frz 1;have xf2:=H2.out.frz 2;have xf3:=H2.out.frz 3;have xf4:=H2.out.frz 4;have xf5:=H2.out.frz 5;clear hrow hpt2 hcl hb2 k3 hw1;go_wp2;refine bodyPost_ret (v:= .agg #[.int .i64 6,.int .i64 0,.string ⟨#[]⟩,.slice none 0 0,.slice a2 l.length c2,.slice none 0 0]) (by simp[results,Tryz.results79,go_sem, *]) rfl ?_;exact⟨_,rfl,HF.out⟩
namespace Co
def encC(p:PC):Array Value:=#[V p.c p.vm p.vl p.vt p.vp p.vk]
def VCF(F:Nat→Prop)(p:PC)(w:World):Prop:=Rep F w p.c p.vm p.vl p.vt p.vp p.vk∧Wf p.c∧Snd p.c
def VC(p:PC)(w:World):Prop:=Rep (fun _=>True) w p.c p.vm p.vl p.vt p.vp p.vk∧Wf p.c∧Snd p.c
theorem VCF.mono{F G:Nat→Prop}{p:PC}{w:World}(h:VCF F p w)(hFG:∀b,F b→b<w.heap.size→G b):VCF G p w:=⟨Rep.mono hFG _ h.1,h.2⟩
end Co
theorem coSee_in(n m l y:Nat)(hm:1≤m){R:Ending→World→Prop}{F:Nat→Prop}(x:Co.C)(vm vl vt vp vk:Value)(w:World)(hW:Co.Wf x)(hS:Co.Snd x)(hR:Co.Rep F w x vm vl vt vp vk)(hy:w.cell? ⟨y,0,none⟩=some (.func (.yield l) #[] #[]))
  (hY:∀p:Co.PC,p.c=x→∀W1,Below w.heap.size w W1→Co.VCF (fun k=>w.heap.size≤k) p W1→YieldAt Fence.wide n Tryz.prog l (Co.encC p) W1 R) (hB:∀e W,R e W→∃b,e= .returned (.bool b)):
  CallsIn Fence.wide m Tryz.prog 45 #[Co.V x vm vl vt vp vk,.pointer (some ⟨y,0,none⟩)] w R:=by
 obtain⟨a1,n1,q1,a2,n2,q2,a3,n3,q3,a4,n4,q4,a5,n5,q5,rfl,rfl,rfl,rfl,rfl⟩:=hR.forms5;unfold Co.V;obtain⟨w1,hw1⟩:∃w1,w.alloc (.cells #[.int .i64 x.k,.int .i64 x.n,.string x.s,.int .i64 x.d.k,.int .i64 x.d.n,.string x.d.s,.slice a1 n1 q1,.slice a2 n2 q2,.slice a3 n3 q3,.slice a4 n4 q4,.slice a5 n5 q5] 28)=w1:=⟨_,rfl⟩
 obtain⟨hb1,-⟩:=new_below hw1;have Hb:=hd (Hp.new hw1);obtain⟨b0,b1,b2,b3,b4,b5,b6,b7,b8,b9,b10⟩:=Hb.out.c11;have hRR:=hR.below hb1;have hown:=fun u (hu:Below w1.heap.size w1 u)=>coOwn_any x F _ _ _ _ _ u hW hS (hRR.below hu)
 unfold Co.V at hown;have HY:=hd hY;have HB:=hd hb1;have HYC:=hd hy;have HWX:=hd hW;have HSX:=hd hS;have HBL:=hd hB;clear hY hb1 hy hW hS hR hB;refine callsIn_of_wp Tryz.func45 rfl trivial ?_ rfl;simp only[Tryz.ntmps45,List.size_toArray,List.length_cons,List.length_nil,Nat.reduceAdd,Nat.reduceSub,Array.replicate_succ,Array.replicate_zero,List.push_toArray,List.append_toArray,List.nil_append,List.cons_append]
 gi_wp2
 have HOW:=hd hown;have HYB:Hid (∀W,Below w1.heap.size w1 W→W.cell? ⟨y,0,none⟩=some (.func (.yield l) #[] #[])):=fun W hb=>(((btr HB.out hb)).cell (p:=⟨y,0,none⟩) (block_lt_of_cell HYC.out)).trans HYC.out
 have yc:=HYB.out w1 (Below.refl _ _);clear hown hw1;refine wpIn_region_any (by kernel_rfl) ?_;have HBD:Hid (Below w1.heap.size w1 w1.drew):=(Below.refl _ w1).drew;refine wpAnyIn_ready (rs:=[0,1]) (by kernel_rfl) (by simp) ?_;refine AllReadyIn.cons rfl (fun K hK=> ?_) ?_
 ·go_simp
  first|(refine hK _ _ ?_;clear hK K)|skip
  try simp only[Act.put,Zm.a,Zm.b,Zm.c]
  refine wpAnyIn_ready (rs:=[1]) (by kernel_rfl) (by simp) ?_;refine AllReadyIn.cons rfl (fun K hK=> ?_) AllReadyIn.nil;go_simp
  first|(refine hK _ _ ?_;clear hK K)|skip
  try simp only[Act.put,Zm.a,Zm.b,Zm.c]
  refine wpAnyIn_ready (rs:=[2]) (by kernel_rfl) (by simp) ?_;refine AllReadyIn.cons rfl (fun K hK=> ?_) AllReadyIn.nil;go_simp;refine⟨trivial,?_⟩
  gi_at_call 46
  refine(callsIn_wide.2 (HOW.out _ HBD.out)).mono ?_;rintro e W5 ⟨um,ul,ut,up,uk,rfl,hr2,hb5⟩;obtain⟨c1,m1,r1,c2,m2,r2,c3,m3,r3,c4,m4,r4,c5,m5,r5,rfl,rfl,rfl,rfl,rfl⟩:=hr2.forms5;have hb15:=btr HBD.out hb5;have yc5:=HYB.out W5 hb15;obtain⟨fn,tmps,assign,body,hy,hR⟩:=Dt.yield_wide (m:=m) (HY.out ⟨x,.slice c1 m1 r1,.slice c2 m2 r2,.slice c3 m3 r3,.slice c4 m4 r4,.slice c5 m5 r5⟩ rfl W5 ((btr HB.out hb15)) ⟨Co.Rep.mono (fun k hk _=>Nat.le_trans HB.out.size hk) _ hr2,HWX.out,HSX.out⟩);unfold Co.encC Co.V at hy;dsimp only at hy;clear hb15 hb5 hr2;dsimp only
  first|(refine hK _ _ ?_;clear hK K)|skip
  try simp only[Act.put,Zm.a,Zm.b,Zm.c]
  refine wpAnyIn_ready (rs:=[3]) (by kernel_rfl) (by simp) ?_;refine AllReadyIn.cons rfl (fun K hK=> ?_) AllReadyIn.nil;go_simp;refine(Dt.round_wide hR).mono ?_;rintro e W6 hRW;obtain⟨b6,rfl⟩:=HBL.out _ _ hRW;have HRW:=hd hRW;clear hR hy hRW;dsimp only
  first|(refine hK _ _ ?_;clear hK K)|skip
  try simp only[Act.put,Zm.a,Zm.b,Zm.c]
  refine wpAnyIn_ready (rs:=[4]) (by kernel_rfl) (by simp) ?_;refine AllReadyIn.cons rfl (fun K hK=> ?_) AllReadyIn.nil;go_simp
  first|(refine hK _ _ ?_;clear hK K)|skip
  try simp only[Act.put,Zm.a,Zm.b,Zm.c]
  refine wpAnyIn_done (by kernel_rfl) ?_ _
  gi_wp2
  exact HRW.out
 refine AllReadyIn.cons rfl (fun K hK=> ?_) AllReadyIn.nil;go_simp
 first|(refine hK _ _ ?_;clear hK K)|skip
 try simp only[Act.put,Zm.a,Zm.b,Zm.c]
 refine wpAnyIn_ready (rs:=[0,2]) (by kernel_rfl) (by simp) ?_;refine AllReadyIn.cons rfl (fun K hK=> ?_) ?_
 ·go_simp
  first|(refine hK _ _ ?_;clear hK K)|skip
  try simp only[Act.put,Zm.a,Zm.b,Zm.c]
  refine wpAnyIn_ready (rs:=[2]) (by kernel_rfl) (by simp) ?_;refine AllReadyIn.cons rfl (fun K hK=> ?_) AllReadyIn.nil;go_simp;refine⟨trivial,?_⟩
  gi_at_call 46
  refine(callsIn_wide.2 (HOW.out _ HBD.out)).mono ?_;rintro e W5 ⟨um,ul,ut,up,uk,rfl,hr2,hb5⟩;obtain⟨c1,m1,r1,c2,m2,r2,c3,m3,r3,c4,m4,r4,c5,m5,r5,rfl,rfl,rfl,rfl,rfl⟩:=hr2.forms5;have hb15:=btr HBD.out hb5;have yc5:=HYB.out W5 hb15;obtain⟨fn,tmps,assign,body,hy,hR⟩:=Dt.yield_wide (m:=m) (HY.out ⟨x,.slice c1 m1 r1,.slice c2 m2 r2,.slice c3 m3 r3,.slice c4 m4 r4,.slice c5 m5 r5⟩ rfl W5 ((btr HB.out hb15)) ⟨Co.Rep.mono (fun k hk _=>Nat.le_trans HB.out.size hk) _ hr2,HWX.out,HSX.out⟩);unfold Co.encC Co.V at hy;dsimp only at hy;clear hb15 hb5 hr2;dsimp only
  first|(refine hK _ _ ?_;clear hK K)|skip
  try simp only[Act.put,Zm.a,Zm.b,Zm.c]
  refine wpAnyIn_ready (rs:=[3]) (by kernel_rfl) (by simp) ?_;refine AllReadyIn.cons rfl (fun K hK=> ?_) AllReadyIn.nil;go_simp;refine(Dt.round_wide hR).mono ?_;rintro e W6 hRW;obtain⟨b6,rfl⟩:=HBL.out _ _ hRW;have HRW:=hd hRW;clear hR hy hRW;dsimp only
  first|(refine hK _ _ ?_;clear hK K)|skip
  try simp only[Act.put,Zm.a,Zm.b,Zm.c]
  refine wpAnyIn_ready (rs:=[4]) (by kernel_rfl) (by simp) ?_;refine AllReadyIn.cons rfl (fun K hK=> ?_) AllReadyIn.nil;go_simp
  first|(refine hK _ _ ?_;clear hK K)|skip
  try simp only[Act.put,Zm.a,Zm.b,Zm.c]
  refine wpAnyIn_done (by kernel_rfl) ?_ _
  gi_wp2
  exact HRW.out
 refine AllReadyIn.cons rfl (fun K hK=> ?_) AllReadyIn.nil;go_simp;refine⟨trivial,?_⟩
 gi_at_call 46
 refine(callsIn_wide.2 (HOW.out _ HBD.out)).mono ?_;rintro e W5 ⟨um,ul,ut,up,uk,rfl,hr2,hb5⟩;obtain⟨c1,m1,r1,c2,m2,r2,c3,m3,r3,c4,m4,r4,c5,m5,r5,rfl,rfl,rfl,rfl,rfl⟩:=hr2.forms5;have hb15:=btr HBD.out hb5;have yc5:=HYB.out W5 hb15;obtain⟨fn,tmps,assign,body,hy,hR⟩:=Dt.yield_wide (m:=m) (HY.out ⟨x,.slice c1 m1 r1,.slice c2 m2 r2,.slice c3 m3 r3,.slice c4 m4 r4,.slice c5 m5 r5⟩ rfl W5 ((btr HB.out hb15)) ⟨Co.Rep.mono (fun k hk _=>Nat.le_trans HB.out.size hk) _ hr2,HWX.out,HSX.out⟩);unfold Co.encC Co.V at hy;dsimp only at hy;clear hb15 hb5 hr2;dsimp only
 first|(refine hK _ _ ?_;clear hK K)|skip
 try simp only[Act.put,Zm.a,Zm.b,Zm.c]
 refine wpAnyIn_ready (rs:=[0]) (by kernel_rfl) (by simp) ?_;refine AllReadyIn.cons rfl (fun K hK=> ?_) AllReadyIn.nil;go_simp
 first|(refine hK _ _ ?_;clear hK K)|skip
 try simp only[Act.put,Zm.a,Zm.b,Zm.c]
 refine wpAnyIn_ready (rs:=[3]) (by kernel_rfl) (by simp) ?_;refine AllReadyIn.cons rfl (fun K hK=> ?_) AllReadyIn.nil;go_simp;refine(Dt.round_wide hR).mono ?_;rintro e W6 hRW;obtain⟨b6,rfl⟩:=HBL.out _ _ hRW;have HRW:=hd hRW;clear hR hy hRW;dsimp only
 first|(refine hK _ _ ?_;clear hK K)|skip
 try simp only[Act.put,Zm.a,Zm.b,Zm.c]
 refine wpAnyIn_ready (rs:=[4]) (by kernel_rfl) (by simp) ?_;refine AllReadyIn.cons rfl (fun K hK=> ?_) AllReadyIn.nil;go_simp
 first|(refine hK _ _ ?_;clear hK K)|skip
 try simp only[Act.put,Zm.a,Zm.b,Zm.c]
 refine wpAnyIn_done (by kernel_rfl) ?_ _
 gi_wp2
 exact HRW.out
theorem coSee_any(n l y:Nat){R:Ending→World→Prop}{F:Nat→Prop}(x:Co.C)(vm vl vt vp vk:Value)(w:World)(hW:Co.Wf x)(hS:Co.Snd x)(hR:Co.Rep F w x vm vl vt vp vk)(hy:w.cell? ⟨y,0,none⟩=some (.func (.yield l) #[] #[]))
  (hY:∀p:Co.PC,p.c=x→∀W1,Below w.heap.size w W1→Co.VCF (fun k=>w.heap.size≤k) p W1→YieldAt Fence.wide n Tryz.prog l (Co.encC p) W1 R) (hB:∀e W,R e W→∃b,e= .returned (.bool b)):
  Calls Tryz.prog 45 #[Co.V x vm vl vt vp vk,.pointer (some ⟨y,0,none⟩)] w R:=
 (callsIn_wide (n:=2)).1 (coSee_in n 2 l y (by omega) x vm vl vt vp vk w hW hS hR hy hY hB)
end Go.Proofs.YtfjmlfbohenmfaaGreat
namespace Go.Proofs.YtfjmlfbohenmfaaGreat
open Go Go.RowKit
namespace Rb
def SeqStopsO{α:Type}(F:Fence)(n:Nat)(P:Program)(g:Nat)(lb:Array Value)(encs:α→Array Value)(Kp:World→World→Prop)(V:(Nat→Prop)→α→World→Prop)(S Sp:List α→Prop)(N:Nat)(w:World):Prop:=
 ∀(l:Nat) (J Jx:(Nat→Prop)→List α→World→Prop) (W:World),Below w.heap.size w W→w.heap.size+2≤W.heap.size→
  (∀(O:Nat→Prop) s A B,(∀k,O k→W.heap.size≤k)→J O s A→W.heap.size≤A.heap.size→Keep O A B→J O s B)→(∀(O:Nat→Prop) s A B,(∀k,O k→W.heap.size≤k)→Jx O s A→W.heap.size≤A.heap.size→Keep O A B→Jx O s B)→
  (∀ O pre x W1, (∀ k, O k → W.heap.size ≤ k ∧ k < W1.heap.size) → J O pre W1 → V O x W1 → pre.length < N → YieldAt F (n - 1) P l (encs x) W1 fun e W' =>
   (e= .returned (.bool true)∧J O (pre++[x]) W'∧Kp W1 W')∨(e= .returned (.bool false)∧Jx O (pre++[x]) W'∧Kp W1 W'))→
  (∀(O:Nat→Prop),(∀k,O k→W.heap.size≤k)→J O [] W)→
  CallsIn F n P g (#[.func (.yield l) #[] #[]]++lb) W fun e W'=>(∃v,e= .returned v)∧((∃O xs,S xs∧J O xs W')∨(∃O pre,Sp pre∧Jx O pre W'))
variable {F:Fence} {n:Nat} {P:Program} {w:World}
theorem wpIn_rangeO{α:Type}{g:Operand}{ps:Array Tmp}{assign body:Code}{Q:Exit→Act→World→Prop}{a:Act}{w:World}
  (hro:F.round=none) (h1:1≤n) {gf:Nat} {lb:Array Value} (hg:a.eval g= .func (.func gf) #[] lb) (hFg:F.fn gf) (eg:∀args w,(callFunc gf args).run P w= .ok (.enter gf args) w)
  {encs:α→Array Value} {Kp:World→World→Prop} {V:(Nat→Prop)→α→World→Prop} {S Sp:List α→Prop} {N:Nat} {w0:World} (hseq:SeqStopsO F (n - 1) P gf lb encs Kp V S Sp N w0)
  (hKt:∀ {A B C:World},Kp A B→Kp B C→Kp A C) (hKb:∀(W:World) (o o':Obj),W.heap[w.heap.size+1]?=some o→o.isCells=false→Kp W (W.putObj (w.heap.size+1) o')) (hb0:Below w0.heap.size w0 w) (hps:∀x,(encs x).size=ps.size)
  (I:(Nat→Prop)→List α→World→Prop) (Ix:(Nat→Prop)→Code→List α→World→Prop) (hI:∀O,OwnFrom w.heap.size (I O)) (hIx:∀O c,OwnFrom w.heap.size (Ix O c)) (hIB:∀(O:Nat→Prop) s A B,(∀k,O k→w.heap.size+2≤k)→I O s A→Keep O A B→I O s B) (hIxB:∀(O:Nat→Prop) c s A B,(∀k,O k→w.heap.size+2≤k)→Ix O c s A→Keep O A B→Ix O c s B) (h0:∀O:Nat→Prop,(∀k,O k→w.heap.size+2≤k)→I O [] w) (Ax:(Nat→Prop)→List α→α→Act→World→Prop) (hAx:∀O pre x a',OwnFrom w.heap.size (fun(_:Unit) W=>Ax O pre x a' W))
  (hassign : ∀ (O : Nat → Prop) (l : Nat) (pre : List α) (x : α) (W : World) (K : Act → World → Prop), (∀ k, O k → w.heap.size + 2 ≤ k ∧ k < W.heap.size) → I O pre W → V O x W → (∀ a' W', KeepsFrom w.heap.size W W' → Kp W W' → Ax O pre x a' W' → K a' W') →
   assign.wpIn (F.inRound l) (n - 1 - 1) P (Exit.then K (fun _ _ _=>False)) {tmps:=(ps.zip (encs x)).foldl (fun t (p,v)=>t.setIfInBounds p v) a.tmps,defers:=[]} W)
  (hbody:∀(O:Nat→Prop) (l:Nat) (pre:List α) (x:α) (a':Act) (W:World),w.heap.size≤l→(∃r,W.heap[l]?=some (.loop r))→Ax O pre x a' W→pre.length<N→body.wpIn (F.inRound l) (n - 1 - 1) P (ownPostB w.heap.size Kp (I O) (Ix O) (pre++[x]) W) a' W)
  (hdone:∀(O:Nat→Prop) (D:Nat) (xs:List α) (W:World),w.heap.size≤D→S xs→I O xs W→W.heap[D]?=some (.deferred (some []))→Q .normal {a with defers:= {target:= .collected D,args:=#[]} :: a.defers} W)
  (hstop:∀(O:Nat→Prop) (D:Nat) (c:Code) (pre:List α) (W:World),w.heap.size≤D→Sp pre→Ix O c pre W→W.heap[D]?=some (.deferred (some []))→c.wpIn F n P Q {a with defers:= {target:= .collected D,args:=#[]} :: a.defers} W):
  (Code.rangeFunc g ps assign body).wpIn F n P Q a w:=by
 refine wpIn_rangeFunc ?_;intro fn hfn;rw[hro];obtain⟨rec,hrec⟩:∃rec:LoopState→Option Code→Loop,rec=fun st pe=> {state:=st,pending:=pe,fn,tmps:=a.tmps,params:=ps,assign,body,defers:=w.heap.size}:=⟨_,rfl⟩
 obtain⟨U,hU⟩:∃U,(w.alloc (.deferred (some []))).alloc (.loop (rec .ready none))=U:=⟨_,rfl⟩
 have hs:U.heap.size=w.heap.size+2:=by rw[←hU];simp
 have hlr:U.heap[w.heap.size+1]?=some (.loop (rec .ready none)):=by
  have:=World.alloc_heap_new (w.alloc (.deferred (some []))) (.loop (rec .ready none));rw[World.size_alloc]at this;rw[←hU];exact this
 have hld:U.heap[w.heap.size]?=some (.deferred (some [])):=by
  rw[←hU];exact(Below.heap_alloc _ _ _ (by simp)).trans (World.alloc_heap_new w _)
 have hbw:Below w.heap.size w U:=by rw[←hU];exact((Below.refl _ w).alloc (Nat.le_refl _) _).alloc (by simp) _
 have hIU:∀O:Nat→Prop,(∀k,O k→w.heap.size+2≤k)→I O [] U:=fun O hO=>by rw[←hU];exact(hI O).alloc _ ((hI O).alloc _ (h0 O hO))
 refine⟨w.heap.size+1,[{target:= .collected w.heap.size,args:=#[]}],U,{target:= .fn (.func gf) lb,args:=#[.func (.yield (w.heap.size+1)) #[] #[]]},U,gf,#[.func (.yield (w.heap.size+1)) #[] #[]]++lb,U,?_,?_,?_,?_,fun _=>h1,?_⟩
 ·rw[←hU,hrec];exact run_enterLoop_outer _ _ _ _ _
 ·simp only[resolve,hg];simp[go_sem]
 ·intro f' hf';simp[Target.leads]at hf';subst hf';exact hFg
 ·simp[invoke,go_sem,eg]
 refine(hseq (w.heap.size+1) (fun O pre W=>(I O pre W∧W.heap[w.heap.size+1]?=some (.loop (rec .ready none)))∧W.heap[w.heap.size]?=some (.deferred (some [])))
  (fun O pre W=>∃c,(Ix O c pre W∧W.heap[w.heap.size+1]?=some (.loop (rec .done (some c))))∧W.heap[w.heap.size]?=some (.deferred (some []))) U ((btr hb0 hbw)) (by have:=hb0.size;omega)
  (fun O s A B hO h _ hb=>⟨⟨hIB O s A B (fun k hk=>by have:=hO k hk;omega) h.1.1 hb,(hb.block _ (Array.getElem?_eq_some_iff.1 h.1.2).1 (fun e=>by have:=hO _ e;omega)).trans h.1.2⟩,(hb.block _ (Array.getElem?_eq_some_iff.1 h.2).1 (fun e=>by have:=hO _ e;omega)).trans h.2⟩)
  (fun O s A B hO h _ hb => by
   obtain⟨c,⟨h2,h3⟩,h4⟩:=h;exact⟨c,⟨hIxB O c s A B (fun k hk=>by have:=hO k hk;omega) h2 hb,(hb.block _ (Array.getElem?_eq_some_iff.1 h3).1 (fun e=>by have:=hO _ e;omega)).trans h3⟩,(hb.block _ (Array.getElem?_eq_some_iff.1 h4).1 (fun e=>by have:=hO _ e;omega)).trans h4⟩)
  ?_ (fun O hO=>⟨⟨hIU O (fun k hk=>by have:=hO k hk;omega),hlr⟩,hld⟩)).mono ?_
 ·rintro O pre x X hO ⟨⟨hi,hl⟩,hd⟩ hv hlen;have hy:=run_yield (P:=P) (args:=encs x) hl (by rw[hrec];exact hps x);rw[hrec]at hy;refine⟨fn,_,assign,body,hy,roundIn_of_wpIn hfn (hassign O _ pre x X _ (fun k hk=>by have:=hO k hk;omega) hi hv ?_)⟩;intro a' Y hkf hkp hax;have hl2:Y.heap[w.heap.size+1]?=some (.loop (rec .ready none)):=hkf.same _ _ (by omega) hl rfl;have hd2:Y.heap[w.heap.size]?=some (.deferred (some [])):=hkf.same _ _ (Nat.le_refl _) hd rfl;have hlt2:=(Array.getElem?_eq_some_iff.1 hl2).1;refine⟨_,run_beginRound hl2 (by rw[hrec]),?_⟩;obtain⟨busy,hbusy⟩:∃b:Obj,b= .loop {rec .ready none with state:= .busy}:=⟨_,rfl⟩
  rw[←hbusy];have hl3:(Y.putObj (w.heap.size+1) busy).heap[w.heap.size+1]?=some busy:=World.putObj_heap_same hlt2;have hd3:(Y.putObj (w.heap.size+1) busy).heap[w.heap.size]?=some (.deferred (some [])):=(World.putObj_heap_other (by omega)).trans hd2;have hk3:Kp Y (Y.putObj (w.heap.size+1) busy):=hKb _ _ _ hl2 rfl;refine wpIn_mono (hbody O _ pre x a' _ (by omega) ⟨_,hl3.trans (by rw[hbusy])⟩ ((hAx O pre x a').putObj (s:=()) _ hax (by omega) hl2 rfl) hlen) ?_;have fin:∀(jump:Option Code) (Z:World),KeepsFrom w.heap.size (Y.putObj (w.heap.size+1) busy) Z→
    (Instr.endRound (w.heap.size+1) jump).run P Z= .ok (.bool jump.isNone) (Z.putObj (w.heap.size+1) (.loop (rec (if jump.isNone then .ready else .done) jump)))∧Z.heap[w.heap.size+1]?=some busy∧
    (Z.putObj (w.heap.size+1) (.loop (rec (if jump.isNone then .ready else .done) jump))).heap[w.heap.size+1]?=some (.loop (rec (if jump.isNone then .ready else .done) jump))∧
    (Z.putObj (w.heap.size+1) (.loop (rec (if jump.isNone then .ready else .done) jump))).heap[w.heap.size]?=some (.deferred (some [])):=fun jump Z hz=>by
   have h4:Z.heap[w.heap.size+1]?=some busy:=hz.same _ _ (by omega) hl3 (by rw[hbusy];rfl);have h5:=run_endRound (P:=P) jump (h4.trans (by rw[hbusy]));rw[hrec]at h5 ⊢;exact⟨h5,h4,World.putObj_heap_same (Array.getElem?_eq_some_iff.1 h4).1,(World.putObj_heap_other (by omega)).trans (hz.same _ _ (Nat.le_refl _) hd3 rfl)⟩
  have hbc:busy.isCells=false∧True:=by rw[hbusy];exact⟨rfl,trivial⟩
  intro e a3 Z hp
  cases e with
  |normal=>
   obtain⟨h4,h5,h6⟩:=hp;obtain⟨g1,g2,g3,g4⟩:=fin none Z h4;exact⟨_,_,g1,.inl ⟨rfl,⟨⟨(hI O).putObj _ h6 (by omega) g2 hbc.1,g3⟩,g4⟩,hKt hkp (hKt (hKt hk3 h5) (hKb _ _ _ g2 hbc.1))⟩⟩
  |ret=>
   obtain⟨h4,h5,h6⟩:=hp;obtain⟨g1,g2,g3,g4⟩:=fin (some .ret) Z h4;exact⟨_,_,g1,.inr ⟨rfl,⟨.ret,⟨(hIx O _).putObj _ h6 (by omega) g2 hbc.1,g3⟩,g4⟩,hKt hkp (hKt (hKt hk3 h5) (hKb _ _ _ g2 hbc.1))⟩⟩
  |exit id=>
   obtain⟨h4,h5,h6⟩:=hp;obtain⟨g1,g2,g3,g4⟩:=fin (some (.exit id)) Z h4;exact⟨_,_,g1,.inr ⟨rfl,⟨.exit id,⟨(hIx O _).putObj _ h6 (by omega) g2 hbc.1,g3⟩,g4⟩,hKt hkp (hKt (hKt hk3 h5) (hKb _ _ _ g2 hbc.1))⟩⟩
  |goto t=>
   obtain⟨h4,h5,h6⟩:=hp;obtain⟨g1,g2,g3,g4⟩:=fin (some (.goto t)) Z h4;exact⟨_,_,g1,.inr ⟨rfl,⟨.goto t,⟨(hIx O _).putObj _ h6 (by omega) g2 hbc.1,g3⟩,g4⟩,hKt hkp (hKt (hKt hk3 h5) (hKb _ _ _ g2 hbc.1))⟩⟩
  |panic ch=>exact hp.elim
  |outgrown=>exact hp.elim
 ·rintro e X ⟨⟨v,rfl⟩,⟨O,xs,hS,⟨hi,hl⟩,hd⟩|⟨O,pre,hS,c,⟨hi,hl⟩,hd⟩⟩
  ·have h5:=run_endLoop (P:=P) hl (by rw[hrec];simp);rw[hrec]at h5;exact⟨none,_,h5,hdone O _ xs _ (Nat.le_refl _) hS ((hI O).putObj _ hi (by omega) hl rfl) ((World.putObj_heap_other (by omega)).trans hd)⟩
  ·have h5:=run_endLoop (P:=P) hl (by rw[hrec];simp);rw[hrec]at h5;exact⟨some c,_,h5,hstop O _ c pre _ (Nat.le_refl _) hS ((hIx O c).putObj _ hi (by omega) hl rfl) ((World.putObj_heap_other (by omega)).trans hd)⟩
end Rb
end Go.Proofs.YtfjmlfbohenmfaaGreat
namespace Go.Proofs.YtfjmlfbohenmfaaGreat
open Go.RowKit Go.Maps Go.WideMaps
attribute [local go_sem] Oper.semAt_some
namespace Co
structure Fr(w w':World)(X ms mb n:Nat)(q:Int→Bool):Prop where
 hp:Hp w' X #[.int .i64 0,.map (some ms),.map (some mb),.map none,.nilFunc,.bool false] 81
 hs:Set_ w' ms n q
 hb:Set_ w' mb n q
 kp:Below w.heap.size w w'
 lX:w.heap.size≤X
 ls:w.heap.size≤ms
 lb:w.heap.size≤mb
 sb:ms≠mb
 xs:X≠ms
 xb:X≠mb
end Co
theorem fresh_any{F:Nat→Prop}(v:Value)(l:List Int)(w:World)(hv:Dt.IRow F w v l)(hl:l.length≤1048576)(hr:∀x∈l,-9223372036854775808≤x∧x≤9223372036854775807):
  Calls Tryz.prog 35 #[v] w fun e w'=>∃X ms mb,e= .returned (.pointer (some ⟨X,0,none⟩))∧Co.Fr w w' X ms mb l.length l.contains:=by
 obtain⟨a,c,rfl,hlc,hc⟩:=hv;have hP:Dt.IRow F w (.slice a l.length c) l:=⟨a,c,rfl,hlc,hc⟩
 have HP:=hd hP;have HR:=hd hr;obtain⟨w1,hw1⟩:∃w1,w.alloc (.map #[] 0)=w1:=⟨_,rfl⟩
 obtain⟨w2,hw2⟩:∃w2,w1.alloc (.map #[] 0)=w2:=⟨_,rfl⟩
 obtain⟨w3,hw3⟩:∃w3,w2.alloc (.cells #[.int .i64 0,.map (some w.heap.size),.map (some w1.heap.size),.map none,.nilFunc,.bool false] 81)=w3:=⟨_,rfl⟩
 obtain⟨hb1,hs1⟩:=new_below hw1;obtain⟨hb2,hs2⟩:=new_below hw2;obtain⟨hb3,hs3⟩:=new_below hw3;have hm1:=Co.Set_.made w;rw[hw1]at hm1;have hm2:=Co.Set_.made w1;rw[hw2]at hm2;have hfr:Co.Fr w w3 w2.heap.size w.heap.size w1.heap.size 0 (l.take 0).contains:=by
  refine⟨Hp.new hw3,((hm1.below hb2).below hb3).ext fun x=>by simp,(hm2.below hb3).ext fun x=>by simp,hb1.trans ((hb2.mono (by omega)).trans (hb3.mono (by omega))),by omega,Nat.le_refl _,by omega,by omega,by omega,by omega⟩
 have HFR:=hd hfr;obtain⟨ms,hms⟩:∃ms,w.heap.size=ms:=⟨_,rfl⟩
 obtain⟨mb,hmb⟩:∃mb,w1.heap.size=mb:=⟨_,rfl⟩
 obtain⟨X,hX⟩:∃X,w2.heap.size=X:=⟨_,rfl⟩
 rw[hms,hmb,hX]at HFR;rw[hms,hmb]at hw3;clear hb1 hb2 hb3 hs1 hs2 hs3 hm1 hm2 hfr hP hr hc;have hmm:=@run_makeMap Tryz.prog;go_enter Tryz.func35,Tryz.ntmps35;go_wp2;clear hw1 hw2 hw3 hmm
 go_loopw [12] (fun v wr=>∃j:Nat,v= .int .i64 j∧j≤l.length∧Hid (Co.Fr w wr X ms mb j (l.take j).contains)) (fun v _=>l.length - (intOf v).toNat)
 case atStart=>exact⟨0,rfl,by omega,HFR⟩
 case round=>
  clear HFR;obtain⟨j,rfl,hj,HL⟩:=hrel;by_cases hlt:j<l.length
  case neg=>
   have hge:(l.length:Int)≤(j:Int):=by omega
   have HE:Hid (Co.Fr w wr X ms mb l.length l.contains):=by
    have h:=HL.out;rw[show j=l.length by omega,List.take_length]at h;exact h
   go_wp2;go_ret;exact⟨_,_,_,rfl,HE.out⟩
  have hlti:(j:Int)<(l.length:Int):=by omega
  have hf:=HL.out;obtain⟨_,_,he,_,hrow⟩:=HP.out.keep (S:=fun _=>False) (keep_of_below hf.kp) (fun _ _ _ h=>h);injection he with he1 he2 he3
  subst he1;clear he2 he3;obtain⟨b,o',rfl,hGb,hbl,hcell⟩:=hrow (by intro h0;rw[h0]at hlt;simp at hlt);have p0:=hcell j hlt;obtain⟨x,hx⟩:∃x,l[j]=x:=⟨_,rfl⟩
  rw[hx]at p0;obtain⟨hx1,hx2⟩:=HR.out x (by rw[←hx];exact List.getElem_mem hlt);have hm1:j<maxLen:=by unfold maxLen;omega
  have hd:=Co.drew_below wr;obtain⟨v0,st0,W1,e1,k1,q1⟩:=(hf.hs.below hd).entry hm1 hx1 hx2;obtain⟨W2,e2,s2,k2⟩:=q1 W1 rfl;have k02:Keep (fun k=>k=ms) wr W2:=(keep_of_below hd).trans (k1.trans k2);obtain⟨v1,st1,W3,e3,k3,q3⟩:=(hf.hb.keep k02 (fun e=>hf.sb e.symm)).entry hm1 hx1 hx2;obtain⟨W4,e4,s4,k4⟩:=q3 W3 rfl;have k24:Keep (fun k=>k=mb) W2 W4:=k3.trans k4;have k04:Keep (fun k=>k=ms∨k=mb) wr W4:=(k02.le fun k e=> .inl e).trans (k24.le fun k e=> .inr e);have HL4:Hid (Co.Fr w W4 X ms mb (j+1) (l.take (j+1)).contains):=by
   have hw4:Below w.heap.size w W4:=hf.kp.trans (k04.to_below (fun k e=>by have:=hf.ls;have:=hf.lb;omega) hf.kp.size);refine⟨hf.hp.keep k04 (fun e=>e.elim hf.xs hf.xb),(s2.keep k24 hf.sb).ext fun y=> ?_,s4.ext fun y=> ?_,hw4,hf.lX,hf.ls,hf.lb,hf.sb,hf.xs,hf.xb⟩
   ·rw[Co.contains_take hlt,hx]
   ·rw[Co.contains_take hlt,hx]
  have x1:=hf.hp.cell 1 rfl;have x2:=hf.hp.cell 2 rfl;clear hf hm1 hd k1 q1 s2 k2 k02 k3 q3 s4 k4 k24 k04 hrow hcell hx;go_wp2
  go_region
  go_wp2;go_roundw
  case rel=>exact⟨j+1,by simp,by omega,HL4⟩
  case measure=>simp[intOf];omega
namespace Co
def quiet(X ms mb:Nat)(mf:Option Nat)(c:C):WE:=⟨X,ms,mb,mf,.nilFunc,fun _=>False,fun _ _=>True,fun _ _=>False,parts c,0,fun _ _=>False⟩
end Co
theorem goes_fresh{G:Nat→Prop}(c:Co.C)(vm vl vt vp vk:Value){w w':World}{X ms mb n:Nat}{q:Int→Bool}(hf:Co.Fr w w' X ms mb n q)(win:List Int)(top:Bool)(hR:Co.Rep G w c vm vl vt vp vk)(hW:Co.Wf c)(hn:n≤1048576)(hq:∀x,q x=win.contains x):
  Calls Tryz.prog 36 #[.pointer (some ⟨X,0,none⟩),Co.V c vm vl vt vp vk,.int .i64 1,.bool top] w' fun e w3=>e= .returned (.int .i64 (Co.goes false c 1 win top 0 win).1)∧Below w.heap.size w w3:=by
 have hown:∀k,(Co.quiet X ms mb none c).ch k→w.heap.size≤k:=fun k h=>by
  have h1:=hf.lX;have h2:=hf.ls;have h3:=hf.lb;rcases h with(rfl|rfl|rfl|h)|h
  ·exact h1
  ·exact h2
  ·exact h3
  ·cases h
  ·exact h.elim
 have hok:(Co.quiet X ms mb none c).Ok:=⟨hf.sb,nofun,nofun,hf.xs,hf.xb,nofun,fun _ _ h=>h,fun _ _ _ _ _ h=>h.elim,fun _ _ _ _ _ h=>h,fun _ _ _ _ _=>trivial,fun _ _ _ h _=>h.elim,.inl ⟨rfl,fun _ _ _ _=>trivial⟩⟩
 have hR1:Co.Rep (fun k=>k<w.heap.size) w c vm vl vt vp vk:=Co.Rep.mono (fun _ _ h=>h) c hR;refine(coGoes_any (Co.quiet X ms mb none c) hok c (fun k=>k<w.heap.size) vm vl vt vp vk w' 1 win top 0 win q q (fun _=>false) n [] hW (hR1.below hf.kp) (fun k hk h=>by have:=hown k h;omega) (by omega) ⟨hf.hp,hf.hs,hf.hb,fun b h=>(nomatch h),Nat.zero_le _⟩ (by omega) (by omega) hq hq (fun x h=>h) trivial (List.prefix_refl _)).mono ?_;rintro e w3 ⟨r,cnt',dn',sc',bd',fr',n',rfl,hwk,hk,-,-,h|⟨-,-,pre,-,hx⟩⟩
 ·refine⟨by rw[h.2.1];rfl,hf.kp.trans (hk.kp.to_below hown hf.kp.size)⟩
 ·exact hx.elim
theorem checkC_any{F F':Nat→Prop}(c:Co.C)(vm vl vt vp vk vw:Value)(win:List Int)(w:World)(hW:Co.Wf c)(hR:Co.Rep F w c vm vl vt vp vk)(hv:Dt.IRow F' w vw win)(hwl:win.length≤1048576)(hwr:∀x∈win,-9223372036854775808≤x∧x≤9223372036854775807):
  Calls Tryz.prog 10 #[Co.V c vm vl vt vp vk,vw] w fun e w'=>e= .returned (.int .i64 (Co.check c win))∧Below w.heap.size w w':=by
 unfold Co.V;obtain⟨w1,hw1⟩:∃w1,w.alloc (.cells #[.int .i64 c.k,.int .i64 c.n,.string c.s,.int .i64 c.d.k,.int .i64 c.d.n,.string c.d.s,vm,vl,vt,vp,vk] 28)=w1:=⟨_,rfl⟩
 obtain⟨hb1,hs1⟩:=new_below hw1;have hbc:Co.Bc w1 w.heap.size c vm vl vt vp vk:=Hp.new hw1;have hbd:=Co.drew_below w1;have HBC:Hid (Co.Bc w1.drew w.heap.size c vm vl vt vp vk):=hbc.keep (S:=fun _=>False) (keep_of_below hbd) id;have HREP:=hd (hR.below hb1);have HWF:=hd hW;have HROW:Hid (Dt.IRow F' w1 vw win):=hv.keep (keep_of_below (S:=fun _=>False) hb1) (fun _ _ _ h=>h);have HWR:=hd hwr;have HB1:Hid (Below w.heap.size w w1.drew):=hb1.trans ((Co.drew_below w1).mono hb1.size);clear hb1 hs1 hW hR hv hwr hbc;go_enter Tryz.func10,Tryz.ntmps10;go_wp2;refine wp_region_noPanic ?_;refine wp_region_held_drew (S:=fun W=>Co.Bc W w.heap.size c vm vl vt vp vk) (by kernel_rfl) HBC.out (fun hHeld=> ?_);refine Zm.u 0 ?_ rfl ?_ ?_;rotate_left
 ·intro w hSw;clear hSw;go_simp
  try with_reducible rfl
 simp only[Act.put,Zm.a,Zm.b,Zm.c];refine Zm.u 2 ?_ rfl ?_ ?_;rotate_left
 ·intro w hSw;have hC:Hp w _ _ _:=hSw;obtain⟨q0,q1,q2,q3,q4,q5,q6,q7,q8,q9,q10⟩:=hC.c11;clear hC;go_simp
  try with_reducible rfl
 simp only[Act.put,Zm.a,Zm.b,Zm.c];refine Zm.r 1 rfl (fun K hK=> ?_);go_simp;refine(fresh_any vw win w1.drew (HROW.out.keep (keep_of_below (S:=fun _=>False) hbd) (fun _ _ _ h=>h)) hwl HWR.out).mono ?_;rintro e w2 ⟨X,ms,mb,rfl,hfr⟩;dsimp only;have HFR:=hd hfr;refine hK.out _ _ (HBC.out.keep (S:=fun _=>False) (keep_of_below hfr.kp) id) (fun hHeld=> ?_);clear hK K
 try simp only[Act.put,Zm.a,Zm.b,Zm.c]
 have hgo:=goes_fresh c vm vl vt vp vk hfr win true (HREP.out.below hbd) HWF.out hwl (fun x=>rfl);unfold Co.V at hgo;clear hfr;refine Zm.r 3 rfl (fun K hK=> ?_);go_simp;refine hgo.mono ?_;rintro e w3 ⟨rfl,hb3⟩;dsimp only;have HB3:=hd hb3;refine hK.out _ _ (HBC.out.keep (S:=fun _=>False) (keep_of_below hb3) id) (fun hHeld=> ?_);clear hK K
 try simp only[Act.put,Zm.a,Zm.b,Zm.c]
 clear hgo hb3;refine Zm.r 4 rfl (fun K hK=> ?_);go_simp;refine hK.out _ _ hHeld (fun hHeld=> ?_);clear hK K
 try simp only[Act.put,Zm.a,Zm.b,Zm.c]
 refine wpAnyH_done (by kernel_rfl) ?_ _;refine NoPanic.normal ?_;go_wp2;go_ret;exact⟨rfl,(btr HB1.out HB3.out)⟩
end Go.Proofs.YtfjmlfbohenmfaaGreat
namespace Go.Proofs
open Go.Shelf
def Tryz.keysS_ren:Go.Shelf.Ren:=⟨fun|7=>51|10=>76|n=>n,fun|23=>86|26=>9|3=>4|28=>93|0=>0|27=>92|33=>110|4=>4|n=>n,fun|n=>n⟩
theorem Tryz.keysS:Go.Proofs.SlLaysZ.n7 Tryz.prog Tryz.keysS_ren:= {
 mixed:=by kernel_rfl
 f7:=⟨Tryz.f51.name,by decide,Tryz.func51.trans (congrArg some (by kernel_rfl))⟩
 f10:=⟨Tryz.f76.name,by decide,Tryz.func76.trans (congrArg some (by kernel_rfl))⟩
 t0:=Tryz.underlying0
 a0:=Tryz.isAgg0
 z0:=Tryz.sizeOf0
 v0:=Tryz.zeroValue0
 t4:=Tryz.underlying4
 a4:=Tryz.isAgg4
 z4:=Tryz.sizeOf4
 v4:=Tryz.zeroValue4
 t23:=Tryz.underlying86
 a23:=Tryz.isAgg86
 z23:=Tryz.sizeOf86
 v23:=Tryz.zeroValue86
 t26:=Tryz.underlying9
 a26:=Tryz.isAgg9
 z26:=Tryz.sizeOf9
 v26:=Tryz.zeroValue9
 t27:=Tryz.underlying92
 a27:=Tryz.isAgg92
 z27:=Tryz.sizeOf92
 v27:=Tryz.zeroValue92
 t28:=Tryz.underlying93
 a28:=Tryz.isAgg93
 z28:=Tryz.sizeOf93
 v28:=Tryz.zeroValue93
 t33:=Tryz.underlying110
 a33:=Tryz.isAgg110
 z33:=Tryz.sizeOf110
 v33:=Tryz.zeroValue110}
def Tryz.sortedS_ren:Go.Shelf.Ren:=⟨fun|6=>50|8=>74|9=>75|11=>101|13=>100|12=>102|23=>126|24=>127|14=>128|15=>129|16=>130|17=>131|18=>132|19=>133|20=>134|21=>135|22=>136|25=>159|26=>154|27=>155|28=>160|29=>161|30=>162|31=>171|n=>n,fun|26=>9|28=>93|24=>42|0=>0|3=>3|37=>130|48=>167|50=>169|4=>4|40=>159|39=>158|45=>164|5=>5|9=>9|51=>184|55=>60|57=>193|58=>194|33=>110|n=>n,fun|n=>n⟩
theorem Tryz.sortedS:Go.Proofs.SlLaysZ.n6 Tryz.prog Tryz.sortedS_ren:= {
 mixed:=by kernel_rfl
 f6:=⟨Tryz.f50.name,by decide,Tryz.func50.trans (congrArg some (by kernel_rfl))⟩
 f8:=⟨Tryz.f74.name,by decide,Tryz.func74.trans (congrArg some (by kernel_rfl))⟩
 f11:=⟨Tryz.f101.name,by decide,Tryz.func101.trans (congrArg some (by kernel_rfl))⟩
 t0:=Tryz.underlying0
 a0:=Tryz.isAgg0
 z0:=Tryz.sizeOf0
 v0:=Tryz.zeroValue0
 t24:=Tryz.underlying42
 a24:=Tryz.isAgg42
 z24:=Tryz.sizeOf42
 v24:=Tryz.zeroValue42
 t26:=Tryz.underlying9
 a26:=Tryz.isAgg9
 z26:=Tryz.sizeOf9
 v26:=Tryz.zeroValue9
 t28:=Tryz.underlying93
 a28:=Tryz.isAgg93
 z28:=Tryz.sizeOf93
 v28:=Tryz.zeroValue93
 i26:=by kernel_rfl}
def Tryz.sortS_ren:Go.Shelf.Ren:=⟨fun|6=>75|8=>100|9=>102|19=>126|20=>127|21=>128|22=>129|23=>130|24=>131|25=>132|26=>133|27=>134|28=>135|29=>136|36=>159|31=>154|32=>155|37=>160|38=>161|39=>162|41=>171|n=>n,fun|27=>42|29=>9|3=>3|32=>130|26=>42|0=>0|44=>167|46=>169|4=>4|36=>159|35=>158|41=>164|5=>5|9=>9|53=>184|57=>60|63=>193|64=>194|n=>n,fun|n=>n⟩
theorem Tryz.sortS:Go.Proofs.SlLaysM.n6 Tryz.prog Tryz.sortS_ren:= {
 mixed:=by kernel_rfl
 f6:=⟨Tryz.f75.name,by decide,Tryz.func75.trans (congrArg some (by kernel_rfl))⟩
 f8:=Tryz.func100.trans (congrArg some (by kernel_rfl))
 f9:=⟨Tryz.f102.name,by decide,Tryz.func102.trans (congrArg some (by kernel_rfl))⟩
 f19:=Tryz.func126.trans (congrArg some (by kernel_rfl))
 f20:=Tryz.func127.trans (congrArg some (by kernel_rfl))
 f21:=⟨Tryz.f128.name,by decide,Tryz.func128.trans (congrArg some (by kernel_rfl))⟩
 f22:=⟨Tryz.f129.name,by decide,Tryz.func129.trans (congrArg some (by kernel_rfl))⟩
 f23:=⟨Tryz.f130.name,by decide,Tryz.func130.trans (congrArg some (by kernel_rfl))⟩
 f24:=⟨Tryz.f131.name,by decide,Tryz.func131.trans (congrArg some (by kernel_rfl))⟩
 f25:=⟨Tryz.f132.name,by decide,Tryz.func132.trans (congrArg some (by kernel_rfl))⟩
 f26:=⟨Tryz.f133.name,by decide,Tryz.func133.trans (congrArg some (by kernel_rfl))⟩
 f27:=⟨Tryz.f134.name,by decide,Tryz.func134.trans (congrArg some (by kernel_rfl))⟩
 f28:=⟨Tryz.f135.name,by decide,Tryz.func135.trans (congrArg some (by kernel_rfl))⟩
 f29:=⟨Tryz.f136.name,by decide,Tryz.func136.trans (congrArg some (by kernel_rfl))⟩
 f31:=Tryz.func154.trans (congrArg some (by kernel_rfl))
 f32:=Tryz.func155.trans (congrArg some (by kernel_rfl))
 f36:=⟨Tryz.f159.name,by decide,Tryz.func159.trans (congrArg some (by kernel_rfl))⟩
 f37:=⟨Tryz.f160.name,by decide,Tryz.func160.trans (congrArg some (by kernel_rfl))⟩
 f38:=⟨Tryz.f161.name,by decide,Tryz.func161.trans (congrArg some (by kernel_rfl))⟩
 f39:=⟨Tryz.f162.name,by decide,Tryz.func162.trans (congrArg some (by kernel_rfl))⟩
 f41:=⟨Tryz.f171.name,by decide,Tryz.func171.trans (congrArg some (by kernel_rfl))⟩
 t0:=Tryz.underlying0
 a0:=Tryz.isAgg0
 z0:=Tryz.sizeOf0
 v0:=Tryz.zeroValue0
 t3:=Tryz.underlying3
 a3:=Tryz.isAgg3
 z3:=Tryz.sizeOf3
 v3:=Tryz.zeroValue3
 t4:=Tryz.underlying4
 a4:=Tryz.isAgg4
 z4:=Tryz.sizeOf4
 v4:=Tryz.zeroValue4
 t5:=Tryz.underlying5
 a5:=Tryz.isAgg5
 z5:=Tryz.sizeOf5
 v5:=Tryz.zeroValue5
 t9:=Tryz.underlying9
 a9:=Tryz.isAgg9
 z9:=Tryz.sizeOf9
 v9:=Tryz.zeroValue9
 t26:=Tryz.underlying42
 a26:=Tryz.isAgg42
 z26:=Tryz.sizeOf42
 v26:=Tryz.zeroValue42
 t27:=Tryz.underlying42
 a27:=Tryz.isAgg42
 z27:=Tryz.sizeOf42
 v27:=Tryz.zeroValue42
 t29:=Tryz.underlying9
 a29:=Tryz.isAgg9
 z29:=Tryz.sizeOf9
 v29:=Tryz.zeroValue9
 t32:=Tryz.underlying130
 a32:=Tryz.isAgg130
 z32:=Tryz.sizeOf130
 v32:=Tryz.zeroValue130
 t35:=Tryz.underlying158
 a35:=Tryz.isAgg158
 z35:=Tryz.sizeOf158
 v35:=Tryz.zeroValue158
 t36:=Tryz.underlying159
 a36:=Tryz.isAgg159
 z36:=Tryz.sizeOf159
 v36:=Tryz.zeroValue159
 t41:=Tryz.underlying164
 a41:=Tryz.isAgg164
 z41:=Tryz.sizeOf164
 v41:=Tryz.zeroValue164
 t44:=Tryz.underlying167
 a44:=Tryz.isAgg167
 z44:=Tryz.sizeOf167
 v44:=Tryz.zeroValue167
 t46:=Tryz.underlying169
 a46:=Tryz.isAgg169
 z46:=Tryz.sizeOf169
 v46:=Tryz.zeroValue169
 t53:=Tryz.underlying184
 a53:=Tryz.isAgg184
 z53:=Tryz.sizeOf184
 v53:=Tryz.zeroValue184
 t57:=Tryz.underlying60
 a57:=Tryz.isAgg60
 z57:=Tryz.sizeOf60
 v57:=Tryz.zeroValue60
 t63:=Tryz.underlying193
 a63:=Tryz.isAgg193
 z63:=Tryz.sizeOf193
 v63:=Tryz.zeroValue193
 t64:=Tryz.underlying194
 a64:=Tryz.isAgg194
 z64:=Tryz.sizeOf194
 v64:=Tryz.zeroValue194}
def Tryz.keysI_ren:Go.Shelf.Ren:=⟨fun|7=>48|10=>73|n=>n,fun|23=>79|26=>3|3=>4|28=>84|0=>0|27=>83|33=>107|4=>4|n=>n,fun|n=>n⟩
theorem Tryz.keysI:Go.Proofs.SlLaysZI.n7 Tryz.prog Tryz.keysI_ren:= {
 mixed:=by kernel_rfl
 f7:=⟨Tryz.f48.name,by decide,Tryz.func48.trans (congrArg some (by kernel_rfl))⟩
 f10:=⟨Tryz.f73.name,by decide,Tryz.func73.trans (congrArg some (by kernel_rfl))⟩
 t0:=Tryz.underlying0
 a0:=Tryz.isAgg0
 z0:=Tryz.sizeOf0
 v0:=Tryz.zeroValue0
 t4:=Tryz.underlying4
 a4:=Tryz.isAgg4
 z4:=Tryz.sizeOf4
 v4:=Tryz.zeroValue4
 t23:=Tryz.underlying79
 a23:=Tryz.isAgg79
 z23:=Tryz.sizeOf79
 v23:=Tryz.zeroValue79
 t26:=Tryz.underlying3
 a26:=Tryz.isAgg3
 z26:=Tryz.sizeOf3
 v26:=Tryz.zeroValue3
 t27:=Tryz.underlying83
 a27:=Tryz.isAgg83
 z27:=Tryz.sizeOf83
 v27:=Tryz.zeroValue83
 t28:=Tryz.underlying84
 a28:=Tryz.isAgg84
 z28:=Tryz.sizeOf84
 v28:=Tryz.zeroValue84
 t33:=Tryz.underlying107
 a33:=Tryz.isAgg107
 z33:=Tryz.sizeOf107
 v33:=Tryz.zeroValue107}
def Tryz.sortedI_ren:Go.Shelf.Ren:=⟨fun|6=>47|8=>71|9=>72|11=>98|13=>100|12=>99|23=>126|24=>127|14=>117|15=>118|16=>119|17=>120|18=>121|19=>122|20=>123|21=>124|22=>125|25=>153|26=>154|27=>155|28=>156|29=>157|30=>158|31=>170|n=>n,fun|26=>3|28=>84|24=>22|0=>0|3=>3|37=>130|48=>167|50=>169|4=>4|40=>159|39=>158|45=>164|5=>5|9=>9|51=>184|55=>60|57=>193|58=>194|33=>107|n=>n,fun|n=>n⟩
theorem Tryz.sortedI:Go.Proofs.SlLaysZI.n6 Tryz.prog Tryz.sortedI_ren:= {
 mixed:=by kernel_rfl
 f6:=⟨Tryz.f47.name,by decide,Tryz.func47.trans (congrArg some (by kernel_rfl))⟩
 f8:=⟨Tryz.f71.name,by decide,Tryz.func71.trans (congrArg some (by kernel_rfl))⟩
 f11:=⟨Tryz.f98.name,by decide,Tryz.func98.trans (congrArg some (by kernel_rfl))⟩
 t0:=Tryz.underlying0
 a0:=Tryz.isAgg0
 z0:=Tryz.sizeOf0
 v0:=Tryz.zeroValue0
 t24:=Tryz.underlying22
 a24:=Tryz.isAgg22
 z24:=Tryz.sizeOf22
 v24:=Tryz.zeroValue22
 t26:=Tryz.underlying3
 a26:=Tryz.isAgg3
 z26:=Tryz.sizeOf3
 v26:=Tryz.zeroValue3
 t28:=Tryz.underlying84
 a28:=Tryz.isAgg84
 z28:=Tryz.sizeOf84
 v28:=Tryz.zeroValue84
 i26:=by kernel_rfl}
def Tryz.sortI_ren:Go.Shelf.Ren:=⟨fun|5=>72|8=>100|7=>99|19=>126|20=>127|10=>117|11=>118|12=>119|13=>120|14=>121|15=>122|16=>123|17=>124|18=>125|30=>153|31=>154|32=>155|33=>156|34=>157|35=>158|40=>170|n=>n,fun|23=>22|25=>3|3=>3|32=>130|22=>22|0=>0|44=>167|46=>169|4=>4|36=>159|35=>158|41=>164|5=>5|9=>9|53=>184|57=>60|63=>193|64=>194|n=>n,fun|n=>n⟩
theorem Tryz.sortI:Go.Proofs.SlLaysM.n5 Tryz.prog Tryz.sortI_ren:= {
 mixed:=by kernel_rfl
 f5:=⟨Tryz.f72.name,by decide,Tryz.func72.trans (congrArg some (by kernel_rfl))⟩
 f7:=⟨Tryz.f99.name,by decide,Tryz.func99.trans (congrArg some (by kernel_rfl))⟩
 f8:=Tryz.func100.trans (congrArg some (by kernel_rfl))
 f10:=⟨Tryz.f117.name,by decide,Tryz.func117.trans (congrArg some (by kernel_rfl))⟩
 f11:=⟨Tryz.f118.name,by decide,Tryz.func118.trans (congrArg some (by kernel_rfl))⟩
 f12:=⟨Tryz.f119.name,by decide,Tryz.func119.trans (congrArg some (by kernel_rfl))⟩
 f13:=⟨Tryz.f120.name,by decide,Tryz.func120.trans (congrArg some (by kernel_rfl))⟩
 f14:=⟨Tryz.f121.name,by decide,Tryz.func121.trans (congrArg some (by kernel_rfl))⟩
 f15:=⟨Tryz.f122.name,by decide,Tryz.func122.trans (congrArg some (by kernel_rfl))⟩
 f16:=⟨Tryz.f123.name,by decide,Tryz.func123.trans (congrArg some (by kernel_rfl))⟩
 f17:=⟨Tryz.f124.name,by decide,Tryz.func124.trans (congrArg some (by kernel_rfl))⟩
 f18:=⟨Tryz.f125.name,by decide,Tryz.func125.trans (congrArg some (by kernel_rfl))⟩
 f19:=Tryz.func126.trans (congrArg some (by kernel_rfl))
 f20:=Tryz.func127.trans (congrArg some (by kernel_rfl))
 f30:=⟨Tryz.f153.name,by decide,Tryz.func153.trans (congrArg some (by kernel_rfl))⟩
 f31:=Tryz.func154.trans (congrArg some (by kernel_rfl))
 f32:=Tryz.func155.trans (congrArg some (by kernel_rfl))
 f33:=⟨Tryz.f156.name,by decide,Tryz.func156.trans (congrArg some (by kernel_rfl))⟩
 f34:=⟨Tryz.f157.name,by decide,Tryz.func157.trans (congrArg some (by kernel_rfl))⟩
 f35:=⟨Tryz.f158.name,by decide,Tryz.func158.trans (congrArg some (by kernel_rfl))⟩
 f40:=⟨Tryz.f170.name,by decide,Tryz.func170.trans (congrArg some (by kernel_rfl))⟩
 t0:=Tryz.underlying0
 a0:=Tryz.isAgg0
 z0:=Tryz.sizeOf0
 v0:=Tryz.zeroValue0
 t3:=Tryz.underlying3
 a3:=Tryz.isAgg3
 z3:=Tryz.sizeOf3
 v3:=Tryz.zeroValue3
 t4:=Tryz.underlying4
 a4:=Tryz.isAgg4
 z4:=Tryz.sizeOf4
 v4:=Tryz.zeroValue4
 t5:=Tryz.underlying5
 a5:=Tryz.isAgg5
 z5:=Tryz.sizeOf5
 v5:=Tryz.zeroValue5
 t9:=Tryz.underlying9
 a9:=Tryz.isAgg9
 z9:=Tryz.sizeOf9
 v9:=Tryz.zeroValue9
 t22:=Tryz.underlying22
 a22:=Tryz.isAgg22
 z22:=Tryz.sizeOf22
 v22:=Tryz.zeroValue22
 t23:=Tryz.underlying22
 a23:=Tryz.isAgg22
 z23:=Tryz.sizeOf22
 v23:=Tryz.zeroValue22
 t25:=Tryz.underlying3
 a25:=Tryz.isAgg3
 z25:=Tryz.sizeOf3
 v25:=Tryz.zeroValue3
 t32:=Tryz.underlying130
 a32:=Tryz.isAgg130
 z32:=Tryz.sizeOf130
 v32:=Tryz.zeroValue130
 t35:=Tryz.underlying158
 a35:=Tryz.isAgg158
 z35:=Tryz.sizeOf158
 v35:=Tryz.zeroValue158
 t36:=Tryz.underlying159
 a36:=Tryz.isAgg159
 z36:=Tryz.sizeOf159
 v36:=Tryz.zeroValue159
 t41:=Tryz.underlying164
 a41:=Tryz.isAgg164
 z41:=Tryz.sizeOf164
 v41:=Tryz.zeroValue164
 t44:=Tryz.underlying167
 a44:=Tryz.isAgg167
 z44:=Tryz.sizeOf167
 v44:=Tryz.zeroValue167
 t46:=Tryz.underlying169
 a46:=Tryz.isAgg169
 z46:=Tryz.sizeOf169
 v46:=Tryz.zeroValue169
 t53:=Tryz.underlying184
 a53:=Tryz.isAgg184
 z53:=Tryz.sizeOf184
 v53:=Tryz.zeroValue184
 t57:=Tryz.underlying60
 a57:=Tryz.isAgg60
 z57:=Tryz.sizeOf60
 v57:=Tryz.zeroValue60
 t63:=Tryz.underlying193
 a63:=Tryz.isAgg193
 z63:=Tryz.sizeOf193
 v63:=Tryz.zeroValue193
 t64:=Tryz.underlying194
 a64:=Tryz.isAgg194
 z64:=Tryz.sizeOf194
 v64:=Tryz.zeroValue194}
end Go.Proofs
namespace Go.Proofs.YtfjmlfbohenmfaaGreat
open Go.RowKit Go.Maps Go.Sort Go.Shelf
theorem sortsI(m:Nat):AnyZI.SortsIn Tryz.prog Tryz.sortedI_ren Fence.wide m:=
  ⟨fun blk off cap ss W hH hblk hsz=>callsIn_wide.2 (AnyM.slices_Sort_int Tryz.sortI blk off cap ss W hH hblk hsz),
   fun p cap W=>callsIn_wide.2 (AnyM.slices_Sort_int_none Tryz.sortI p cap W)⟩
theorem keysI_any(mb:Option Nat)(W:World):Calls Tryz.prog 48 #[.map mb] W fun e w'=>e= .returned (.func (.func 73) #[] #[.pointer (some ⟨W.heap.size,0,none⟩)])∧w'=W.alloc (.cells #[.map mb] 79):=
  (callsIn_wide (n:=5)).1 (AnyZI.keys_in Tryz.keysI Fence.wide 5 trivial rfl mb W)
namespace Co
theorem sorted_of_perm{ss L:List Int}(h:ss.Perm L)(hL:L.Pairwise (· < ·)):ss.mergeSort (fun x y=>decide (x≤y))=L:=by
  have e:=mergeSort_of_perm_i h;have e2:L.mergeSort leI=L:=List.mergeSort_of_pairwise (hL.imp fun {a b} hab=>by simp only[leI,decide_eq_true_eq];omega);exact e.trans e2
end Co
theorem sortedI_any(b n:Nat)(q:Int→Bool)(L:List Int)(W:World)(h:Co.Set_ W b n q)(hL:L.Pairwise (· < ·))(hm:∀x,q x=L.contains x)(hn:n≤16777216):
    Calls Tryz.prog 47 #[.func (.func 73) #[] #[.pointer (some ⟨W.heap.size,0,none⟩)]] (W.alloc (.cells #[.map (some b)] 79)) fun e w'=>∃v,e= .returned v∧
      w'.ownsRow (W.alloc (.cells #[.map (some b)] 79)).heap.size 3 1 v L.length (L.map (Value.int .i64))∧(v= .slice none 0 0↔L=[])∧Below (W.alloc (.cells #[.map (some b)] 79)).heap.size (W.alloc (.cells #[.map (some b)] 79)) w':=by
  obtain⟨D0,hown,hhas⟩:=h;have hown0:=hown;have hbl:=hown.lt;have hsz:=hown.size_le;have hseq:SeqGives Fence.wide 2 Tryz.prog 73 #[.pointer (some ⟨W.heap.size,0,none⟩)] encZ (fun ss=>ss.Perm (intKeys D0)) (Maps.size D0) (W.alloc (.cells #[.map (some b)] 79)):=
    AnyZI.keys_gives (ρ:=Tryz.keysI_ren) {Tryz.keysI with} Fence.wide _ trivial rfl (by omega) W.heap.size b n D0 _ (by simp) (by simp) (by
      obtain⟨es,clock,hb,Ft,hs,hD⟩:=hown;exact⟨es,clock,(Below.heap_alloc _ _ b hbl).trans hb,Ft,hs,hD⟩)
  have cS:=AnyZI.sorted_in Tryz.sortedI Fence.wide 5 trivial trivial trivial trivial rfl (by omega) (sortsI _) (enters_of Tryz.func72 (by kernel_rfl) rfl) 73 #[.pointer (some ⟨W.heap.size,0,none⟩)] trivial (enters_of Tryz.func73 (by kernel_rfl) rfl) _ _ (by unfold maxLen;omega) (by omega) _ hseq;change CallsIn _ _ Tryz.prog 47 _ _ _ at cS;refine((callsIn_wide (n:=5)).1 cS).mono ?_;rintro e w' ⟨v,ss,rfl,hS,hrow,hnil,hb⟩;have hLK:L.Perm (intKeys D0):=by
    obtain⟨es,hD,hpw,_⟩:=hown0.entries Co.mIB.keyed;obtain⟨es',hD',hko⟩:=hown0.keysOf;obtain rfl:es=es':=by rw[hD]at hD';simpa using hD'
    subst hD;refine perm_intKeys hpw (fun p hp=>by obtain⟨v,hv⟩:=hko p hp;obtain⟨x,_,hx,_⟩:=Maps.keyOf_i64 Tryz.underlying3 hv;exact⟨x,hx⟩) (hL.imp fun {a b} hab=>by omega) fun x=> ?_
    have h1:=(hhas x).1;rw[show Co.mIB.kl x=Lit.int .i64 x from rfl]at h1;rw[h1,←List.contains_iff_mem,←hm x];unfold Co.on;cases q x <;> simp
  have hp:ss.Perm L:=hS.trans hLK.symm;rw[Co.sorted_of_perm hp hL,hp.length_eq]at hrow;refine⟨v,rfl,hrow,hnil.trans ⟨fun e=> ?_,fun e=> ?_⟩,hb⟩
  · rw[e]at hp;exact hp.nil_eq.symm
  · rw[e]at hp;exact hp.eq_nil
end Go.Proofs.YtfjmlfbohenmfaaGreat
namespace Go.Proofs.YtfjmlfbohenmfaaGreat
open Go.RowKit Go.Maps Go.WideMaps
attribute [local go_sem] Oper.semAt_some
namespace Co
def loose(X ms mb mf:Nat)(c:C):WE:=⟨X,ms,mb,some mf,.nilFunc,fun _=>False,fun _ _=>True,fun _ _=>False,parts c,0,fun _ _=>False⟩
def outE(c:C):Int:=if openE c≠0 then openE c else check c (free c [] [])
def outL(c:C):List Int:=if openE c≠0 then []else free c [] []
theorem frees_len:∀(c:C) (win:List Int),(frees c win).length≤(parts c).length
 | .mk k n s d p l,win=>by
  rw[frees,parts,List.length_append,List.length_cons];have:=freesL_len l (inner k p win);split <;> simp <;> omega
where freesL_len:∀(l:List C) (win:List Int),(freesL l win).length≤(partsL l).length
 |[],_=>by rw[freesL];simp
 |c :: r,win=>by
  rw[freesL,partsL,List.length_append,List.length_append];have h1:=frees_len c win;have h2:=freesL_len r win;omega
mutual
theorem goes_count{opn:Bool}:∀(c:C) {deep:Nat} {win:List Int} {top:Bool} {cnt:Nat} {bd:List Int} {r:Nat×List Int},goes opn c deep win top cnt bd=(0,r)→r.1=cnt+(parts c).length∧r.1≤8192
 | .mk k n s d p l,deep,win,top,cnt,bd,r,h=>by
  obtain⟨h1,h2⟩:=goes_ok h;have h4:=here_room h1;obtain⟨g1,g2⟩:=goesL_count l (by omega) h2;rw[parts,List.length_cons];exact⟨by omega,g2⟩
theorem goesL_count{opn:Bool}:∀(l:List C) {deep:Nat} {win:List Int} {top:Bool} {cnt:Nat} {bd:List Int} {r:Nat×List Int},cnt≤8192→goesL opn l deep win top cnt bd=(0,r)→r.1=cnt+(partsL l).length∧r.1≤8192
 |[],_,_,_,cnt,_,r,hc,h=>by
  rw[goesL]at h;cases h;rw[partsL];exact⟨by simp,hc⟩
 |c :: l,deep,win,top,cnt,bd,r,hc,h=>by
  obtain⟨q,h1,h2⟩:=goesL_ok h;obtain⟨g1,g2⟩:=goes_count c h1;obtain⟨g3,g4⟩:=goesL_count l g2 h2;rw[partsL,List.length_append];exact⟨by omega,g4⟩
end
theorem frees_range:∀(c:C) (win:List Int),Wf c→∀x∈frees c win,-9223372036854775808≤x∧x≤9223372036854775807
 | .mk k n s d p l,win,h,x,hx=>by
  have hw:=wf_parts h;rw[frees]at hx;rcases List.mem_append.1 hx with hx|hx
  ·split at hx
   ·rw[List.mem_singleton]at hx;subst hx;exact hw.1
   ·cases hx
  ·exact go l (inner k p win) hw.2.2.2.2.2.2 x hx
where go:∀(l:List C) (win:List Int),Wfs l→∀x∈freesL l win,-9223372036854775808≤x∧x≤9223372036854775807
 |[],_,_,x,hx=>by rw[freesL]at hx;cases hx
 |c :: r,win,h,x,hx=>by
  rw[Wfs]at h;rw[freesL]at hx;rcases List.mem_append.1 hx with hx|hx
  ·exact frees_range c win h.1 x hx
  ·exact go r win h.2 x hx
theorem nodup_len:∀ {a b:List Int},a.Nodup→(∀x∈a,x∈b)→a.length≤b.length
 |[],_,_,_=>by simp
 |x :: a,b,ha,hs=>by
  rw[List.nodup_cons]at ha;have hx:x∈b:=hs x List.mem_cons_self;have h1:=nodup_len (a:=a) (b:=b.erase x) ha.2 fun y hy=>(List.mem_erase_of_ne (fun e=>ha.1 (by rw[←e];exact hy))).2 (hs y (List.mem_cons_of_mem _ hy))
  rw[List.length_erase_of_mem hx]at h1;have h2:0<b.length:=List.length_pos_of_mem hx;rw[List.length_cons];omega
theorem free_facts{c:C}(h:openE c=0)(hW:Wf c):(free c [] []).length≤8192∧(∀x∈free c [] [],-9223372036854775808≤x∧x≤9223372036854775807)∧(free c [] []).Pairwise (· < ·)∧∀x,(frees c []).contains x=(free c [] []).contains x:=by
 have h1:goes true c 1 [] true 0 []=(0,(goes true c 1 [] true 0 []).2):=Prod.ext h rfl;obtain⟨g1,g2⟩:=goes_count c h1;have hm:∀x,x∈free c [] []↔x∈frees c []:=fun x=>by rw[free_puts];exact puts_mem _ x
 have hs:(free c [] []).Pairwise (· < ·):=by rw[free_puts];exact puts_sorted _
 refine⟨?_,fun x hx=>frees_range c [] hW x ((hm x).1 hx),hs,fun x=>by rw[Bool.eq_iff_iff,List.contains_iff_mem,List.contains_iff_mem];exact(hm x).symm⟩;have h2:=nodup_len (hs.imp fun {a b} hab=>by omega) (fun x hx=>(hm x).1 hx);have h3:=frees_len c [];omega
end Co
theorem outC_any{F:Nat→Prop}(c:Co.C)(vm vl vt vp vk:Value)(w:World)(hW:Co.Wf c)(hR:Co.Rep F w c vm vl vt vp vk):
  Calls Tryz.prog 44 #[Co.V c vm vl vt vp vk] w fun e w'=>∃v,e= .returned (.tuple #[v,.int .i64 (Co.outE c)])∧Dt.IRow (fun k=>w.heap.size≤k) w' v (Co.outL c)∧Below w.heap.size w w':=by
 unfold Co.V;obtain⟨w1,hw1⟩:∃w1,w.alloc (.cells #[.int .i64 c.k,.int .i64 c.n,.string c.s,.int .i64 c.d.k,.int .i64 c.d.n,.string c.d.s,vm,vl,vt,vp,vk] 28)=w1:=⟨_,rfl⟩
 obtain⟨hb1,hs1⟩:=new_below hw1;have HBC:Hid (Co.Bc w1 w.heap.size c vm vl vt vp vk):=Hp.new hw1;have hfr:=fresh_any (F:=fun _=>True) (.slice none 0 0) [] w1 ⟨none,0,rfl,Nat.le_refl _,fun h=>absurd rfl h⟩ (by simp) (fun x h=>by cases h);have HREP:=hd (hR.below hb1);have HWF:=hd hW;have HB1:=hd hb1;have HS1:=hd hs1;have hmm:=@run_makeMap Tryz.prog;clear hb1 hs1 hW hR;go_enter Tryz.func44,Tryz.ntmps44;go_wp2_with fail
 refine hfr.mono ?_;rintro e w2 ⟨X,ms,mb,rfl,hf⟩;obtain⟨w3,hw3⟩:∃w3,w2.alloc (.map #[] 0)=w3:=⟨_,rfl⟩
 obtain⟨hb3,hs3⟩:=new_below hw3;have hm3:=Co.Set_.made w2;rw[hw3]at hm3;obtain⟨mf,hmf⟩:∃mf,w2.heap.size=mf:=⟨_,rfl⟩
 rw[hmf]at hm3 hs3;have hx3:=hf.hp.below hb3;obtain⟨w4,hw4⟩:∃w4,w3.setCell ⟨X,3,none⟩ (.map (some mf))=w4:=⟨_,rfl⟩
 have k34:Keep (fun k=>k=X) w3 w4:=by rw[←hw4];exact set_keep _ _ _ _
 have hXl:X<w2.heap.size:=hf.hp.lt;have hx4:Hp w4 X #[.int .i64 0,.map (some ms),.map (some mb),.map (some mf),.nilFunc,.bool false] 81:=by rw[←hw4];exact hx3.set 3 _
 have hb24:Below w1.heap.size w2 w4:=(hb3.mono (by have:=hf.kp.size;omega)).trans (k34.to_below (fun k e=>by have:=hf.lX;omega) (by have:=hf.kp.size;omega));have hb14:Below w1.heap.size w1 w4:=hf.kp.trans hb24;have hok:(Co.loose X ms mb mf c).Ok:=⟨hf.sb,fun h=>(by have h:=Option.some.inj h;have h:mf=ms:=h;have:=hf.hs.lt;omega),fun h=>(by have h:=Option.some.inj h;have h:mf=mb:=h;have:=hf.hb.lt;omega),hf.xs,hf.xb,fun h=>(by have h:=Option.some.inj h;have h:mf=X:=h;omega),fun _ _ h=>h,fun _ _ _ _ _ h=>h.elim,fun _ _ _ _ _ h=>h,fun _ _ _ _ _=>trivial,fun _ _ _ h _=>h.elim,.inl ⟨rfl,fun _ _ _ _=>trivial⟩⟩
 have hwk:Co.Wk (Co.loose X ms mb mf c) w4 0 false (fun _=>false) (fun _=>false) (fun _=>false) 0:=
  ⟨hx4,((hf.hs.below hb3).keep k34 (fun e=>hf.xs e.symm)).ext (fun x=>by simp),((hf.hb.below hb3).keep k34 (fun e=>hf.xb e.symm)).ext (fun x=>by simp),fun b hb=>(by cases hb;exact hm3.keep k34 (fun e=>by omega)),Nat.zero_le _⟩
 have hown:∀k,(Co.loose X ms mb mf c).ch k→w1.heap.size≤k:=fun k h=>by
  have h1:=hf.lX;have h2:=hf.ls;have h3:=hf.lb;have h4:=hf.kp.size;rcases h with(rfl|rfl|rfl|h)|h
  ·exact h1
  ·exact h2
  ·exact h3
  ·cases h;omega
  ·exact h.elim
 have hR1:Co.Rep (fun k=>k<w1.heap.size) w1 c vm vl vt vp vk:=Co.Rep.mono (fun _ _ h=>h) c HREP.out;have hgo:=coGoes_any (Co.loose X ms mb mf c) hok c (fun k=>k<w1.heap.size) vm vl vt vp vk w4 1 [] true 0 [] (fun _=>false) (fun _=>false) (fun _=>false) 0 [] HWF.out (hR1.below hb14) (fun k hk h=>by have:=hown k h;omega) (by omega) hwk (by omega) (by omega) (fun x=>by simp) (fun x=>by simp) (fun x h=>h) trivial (List.prefix_refl _);unfold Co.V at hgo;have HBC4:=hd (HBC.out.keep (S:=fun _=>False) (keep_of_below hb14) id);have HB14:=hd hb14;have HOWN:=hd hown;have x3:=hx3.cell 3 rfl;have xf3:=hx3.frz 3;obtain⟨c0,c1,c2,c3,c4,c5,c6,c7,c8,c9,c10⟩:=HBC4.out.c11;clear hf hfr hw1 hb3 hs3 hm3 hx3 k34 hXl hx4 hb24 hb14 hok hwk hown hR1;have hgo':Calls Tryz.prog 36 #[.pointer (some ⟨X,0,none⟩),.agg #[.int .i64 c.k,.int .i64 c.n,.string c.s,.int .i64 c.d.k,.int .i64 c.d.n,.string c.d.s,vm,vl,vt,vp,vk],.int .i64 1,.bool true] w4 (Co.GPost (Co.loose X ms mb mf c) c 1 [] true 0 [] (fun _=>false) (fun _=>false) [] w4):=hgo;clear hgo;go_wp2_with fail
 refine hgo'.mono ?_;rintro e w5 ⟨r,cnt',dn',sc',bd',fr',n',rfl,hwk,hk,hn,hc,h|⟨-,-,pre,-,hx⟩⟩
 case inr=>exact hx.elim
 obtain⟨-,hr,h0⟩:=h;have hr':r=Co.openE c:=hr;have HK5:Hid (Below w.heap.size w w5):=HB1.out.trans ((HB14.out.trans (hk.kp.to_below HOWN.out HB14.out.size)).mono HB1.out.size);have HBC5:=hd (HBC4.out.keep hk.kp (fun e=>by have h1:=HOWN.out _ e;have h2:=HS1.out;omega));have HREP5:Hid (Co.Rep (fun k=>k<w1.heap.size) w5 c vm vl vt vp vk):=Co.Rep.keep hk.kp (fun b hb _ e=>by have h1:=HOWN.out _ e;omega) c ((Co.Rep.mono (G:=fun k=>k<w1.heap.size) (fun _ _ h=>h) c HREP.out).below HB14.out);clear hgo' hw3 hw4 x3 xf3 hmm;clear c0 c1 c2 c3 c4 c5 c6 c7 c8 c9 c10;by_cases hz:r=0
 case neg=>
  have hzb:(r !=0)=true:=by simpa using hz
  have HE:Hid (Co.outE c=r∧Co.outL c=[]):=by
   unfold Co.outE Co.outL;rw[←hr',if_pos hz,if_pos hz];exact⟨rfl,rfl⟩
  clear hz hr hr' h0 hwk hk hn hc;go_wp2
  go_ret2
  exact⟨.slice none 0 0,by rw[HE.out.1];rfl,by rw[HE.out.2];exact⟨none,0,rfl,Nat.le_refl _,fun h=>absurd rfl h⟩,HK5.out⟩
 obtain⟨-,-,-,hfr,-⟩:=h0 hz;have hop:Co.openE c=0:=hr'.symm.trans hz;obtain⟨f1,f2,f3,f4⟩:=Co.free_facts hop HWF.out;have hset:=hwk.hf mf rfl;have hx5:w5.cell? ⟨X,3,none⟩=some (.map (some mf)):=hwk.hp.cell 3 rfl;have hn':=hn hz;have hke:=keysI_any (some mf) w5;have hso:=sortedI_any mf n' fr' (Co.free c [] []) w5 hset f3 (fun x=>by rw[hfr,f4];simp) (by omega);subst hz;have HOP:=hd hop;have HF1:=hd f1;have HF2:=hd f2;have hb56:Below w5.heap.size w5 (w5.alloc (.cells #[.map (some mf)] 79)):=(Below.refl _ _).alloc (Nat.le_refl _) _;have HB56:=hd hb56;clear hr hr' h0 hwk hk hn hc hfr hop f1 f2 f3 f4 hset hn' hb56;go_wp2_with(first
  |(go_at_call 48;refine hke.mono ?_;rintro e w6 ⟨rfl,rfl⟩)
  |(go_at_call 47;refine hso.mono ?_;rintro e w7 ⟨v,rfl,hrow,-,hb7⟩;obtain⟨a7,q7,rfl⟩:=Dt.row_form hrow;have HROW:=hd hrow;have HB57:=hd ((btr HB56.out hb7));clear hrow hb7 hke hso hx5;have HBC7:=hd (HBC5.out.keep (S:=fun _=>False) (keep_of_below HB57.out) id);obtain⟨c0,c1,c2,c3,c4,c5,c6,c7,c8,c9,c10⟩:=HBC7.out.c11)
  |fail)
 have hirow:Dt.IRow (fun k=>w5.heap.size≤k) w7 (.slice a7 (Co.free c [] []).length q7) (Co.free c [] []):=Co.irow_mono (fun b hb _=>by have:=HB56.out.size;omega) (Dt.IRow.of_own HROW.out);have hck:=checkC_any c vm vl vt vp vk (.slice a7 (Co.free c [] []).length q7) (Co.free c [] []) w7 HWF.out (HREP5.out.below HB57.out) hirow (by have:=HF1.out;omega) HF2.out;unfold Co.V at hck;have HIR:=hd hirow;clear hirow;refine hck.mono ?_;rintro e w8 ⟨rfl,hb8⟩;have HE:Hid (Co.outE c=Co.check c (Co.free c [] [])∧Co.outL c=Co.free c [] []):=by
  unfold Co.outE Co.outL;rw[HOP.out];exact⟨rfl,rfl⟩
 have HI8:Hid (Dt.IRow (fun k=>w.heap.size≤k) w8 (.slice a7 (Co.free c [] []).length q7) (Co.free c [] [])):=Co.irow_mono (fun b hb _=>by have:=HK5.out.size;omega) (HIR.out.keep (keep_of_below (S:=fun _=>False) hb8) (fun _ _ _ h=>h));have HB8:Hid (Below w.heap.size w w8):=HK5.out.trans (((btr HB57.out hb8)).mono HK5.out.size);clear hck hb8;clear c0 c1 c2 c3 c4 c5 c6 c7 c8 c9 c10;go_wp2
 go_ret2
 exact⟨.slice a7 (Co.free c [] []).length q7,by rw[HE.out.1];rfl,by rw[HE.out.2];exact HI8.out,HB8.out⟩
namespace Co
def freeV(c:C):List Int:=if outE c=0 then outL c else []
theorem outE_ok(c:C):outE c=0↔ok c=true:=by
 unfold outE ok;by_cases h:openE c=0
 ·simp[h]
 ·simp[h]
end Co
theorem freeC_any{F:Nat→Prop}(c:Co.C)(vm vl vt vp vk:Value)(w:World)(hW:Co.Wf c)(hR:Co.Rep F w c vm vl vt vp vk):
  Calls Tryz.prog 21 #[Co.V c vm vl vt vp vk] w fun e w'=>∃v,e= .returned v∧Dt.IRow (fun k=>w.heap.size≤k) w' v (Co.freeV c)∧Below w.heap.size w w':=by
 unfold Co.V;obtain⟨w1,hw1⟩:∃w1,w.alloc (.cells #[.int .i64 c.k,.int .i64 c.n,.string c.s,.int .i64 c.d.k,.int .i64 c.d.n,.string c.d.s,vm,vl,vt,vp,vk] 28)=w1:=⟨_,rfl⟩
 obtain⟨hb1,hs1⟩:=new_below hw1;have Hc:=hd (Hp.new hw1);have ho:=outC_any c vm vl vt vp vk w1 hW (hR.below hb1);unfold Co.V at ho;have HB1:=hd hb1;obtain⟨c0,c1,c2,c3,c4,c5,c6,c7,c8,c9,c10⟩:=Hc.out.c11;obtain⟨E,hE⟩:∃E,E=Co.outE c:=⟨_,rfl⟩
 rw[←hE]at ho;have HE:=hd hE;clear hb1 hs1 hW hR hE;go_enter Tryz.func21,Tryz.ntmps21;go_wp2_with fail
 refine ho.mono ?_;rintro e w2 ⟨v,rfl,hv,hb2⟩;have HV:Hid (Dt.IRow (fun k=>w.heap.size≤k) w2 v (Co.outL c)):=Co.irow_mono (fun b hb _=>by have:=HB1.out.size;omega) hv;have HB2:=hd ((btr HB1.out hb2));obtain⟨a,q,rfl,-⟩:=hv;clear ho hw1 hb2;clear c0 c1 c2 c3 c4 c5 c6 c7 c8 c9 c10;by_cases hz:E=0
 ·have hzb:(E==0)=true:=by simpa using hz
  have HF:Hid (Co.freeV c=Co.outL c):=by unfold Co.freeV;rw[←HE.out,if_pos hz];rfl
  clear hz;go_wp2;go_ret;exact⟨_,rfl,by rw[HF.out];exact HV.out,HB2.out⟩
 ·have hzb:(E==0)=false:=by simpa using hz
  have HF:Hid (Co.freeV c=[]):=by unfold Co.freeV;rw[←HE.out,if_neg hz];rfl
  clear hz;go_wp2;go_ret;exact⟨_,rfl,by rw[HF.out];exact⟨none,0,rfl,Nat.le_refl _,fun h=>absurd rfl h⟩,HB2.out⟩
namespace Co
theorem snd_mem:∀(c:C),Snd c→∀x∈parts c,Snd x
 | .mk k n s d p l,h,x,hx=>by
  rw[parts]at hx;rcases List.mem_cons.1 hx with rfl|hx
  ·exact h
  ·exact go l (snd_parts h).2.2 x hx
where go:∀(l:List C),Snds l→∀x∈partsL l,Snd x
 |[],_,x,hx=>by rw[partsL]at hx;cases hx
 |c :: r,h,x,hx=>by
  rw[Snds]at h;rw[partsL]at hx;rcases List.mem_append.1 hx with hx|hx
  ·exact snd_mem c h.1 x hx
  ·exact go r h.2 x hx
theorem all_ok{c:C}(h:outE c=0):openE c=0∧check c (free c [] [])=0∧all c=parts c∧outL c=free c [] []∧Snd c:=by
 unfold outE at h;have h1:openE c=0:=by
  by_cases e:openE c=0
  ·exact e
  ·rw[if_pos e]at h;exact h
 rw[if_neg (by rw[h1];simp)]at h;refine⟨h1,h,?_,?_,?_⟩
 ·unfold all;rw[if_pos ⟨h1,h⟩]
 ·unfold outL;rw[if_neg (by rw[h1];simp)]
 ·have h2:goes true c 1 [] true 0 []=(0,(goes true c 1 [] true 0 []).2):=Prod.ext h1 rfl;exact(goes_snd c h2).1
theorem all_no{c:C}(h:outE c≠0):all c=[]:=by
 unfold all;rw[if_neg];intro h2
 apply h
 unfold outE;rw[if_neg (by rw[h2.1];simp)];exact h2.2
structure KR(dn:World→Nat→Prop)(w w':World):Prop where
 os:w'.os=w.os
 tape:w'.tape=w.tape
 output:w'.output=w.output
 size:w.heap.size≤w'.heap.size
 bl:∀k,k<w.heap.size→¬dn w k→w'.heap[k]?=w.heap[k]?
 more:∀k,dn w' k→dn w k∨(w.heap.size≤k∧k<w'.heap.size)
theorem KR.keep{dn:World→Nat→Prop}{lb:Nat→Prop}{w w':World}(h:KR dn w w')(hd:∀k,dn w k→lb k):Keep lb w w':=⟨h.os,h.tape,h.output,h.size,fun k hk hn=>h.bl k hk (fun e=>hn (hd k e))⟩
theorem KR.trans{dn:World→Nat→Prop}{a b c:World}(h:KR dn a b)(k:KR dn b c):KR dn a c:=
 ⟨k.os.trans h.os,k.tape.trans h.tape,k.output.trans h.output,Nat.le_trans h.size k.size,fun i hi hd=>(k.bl i (Nat.lt_of_lt_of_le hi h.size) (fun e=>(h.more i e).elim hd (fun e=>by omega))).trans (h.bl i hi hd),fun i hi=>(k.more i hi).elim (fun e=>(h.more i e).imp id (fun e=>⟨e.1,Nat.lt_of_lt_of_le e.2 k.size⟩)) (fun e=> .inr ⟨Nat.le_trans h.size e.1,e.2⟩)⟩
def DSt(dn:World→Nat→Prop)(n:Nat):Prop:=∀A B k,n≤A.heap.size→Below n A B→dn B k→dn A k
theorem KR.of_below{dn:World→Nat→Prop}{n:Nat}(hd:DSt dn n){a b:World}(hn:n≤a.heap.size)(h:Below a.heap.size a b):KR dn a b:=⟨h.os,h.tape,h.output,h.size,fun k hk _=>h.block k hk,fun k hk=> .inl (hd _ _ _ hn (h.mono hn) hk)⟩
def tell(X ms mb Y l W0:Nat)(dn:World→Nat→Prop)(D0:Nat→Prop)(Wg:Nat)(J Jx:(Nat→Prop)→List PC→World→Prop)(c:C):WE:=
 ⟨X,ms,mb,none,.func (.func 45) #[] #[.pointer (some ⟨Y,0,none⟩)],fun k=>D0 k∨Wg≤k,
  fun pre W=>(∃ys:List PC,ys.map PC.c=pre∧J (fun k=>k=X∨k=ms∨k=mb) ys W)∧W.cell? ⟨Y,0,none⟩=some (.func (.yield l) #[] #[])∧W0≤W.heap.size∧Wg≤W.heap.size∧∀k,dn W k→(D0 k∨Wg≤k)∧k<W.heap.size,
  fun pre W=>(∃ys:List PC,ys.map PC.c=pre∧Jx (fun k=>k=X∨k=ms∨k=mb) ys W)∧W0≤W.heap.size,parts c,W0,dn⟩
def VCD(dn:World→Nat→Prop)(lo:Nat)(O:Nat→Prop)(p:PC)(W:World):Prop:=VCF (fun k=>lo≤k∧¬dn W k∧¬O k) p W
theorem tell_ok{X ms mb Y l nY N Wg:Nat}{dn:World→Nat→Prop}{D0:Nat→Prop}{J Jx:(Nat→Prop)→List PC→World→Prop}{c:C}{w:World}(hlb:∀k,D0 k→k<w.heap.size)(hst:DSt dn w.heap.size)(hJ:∀(O:Nat→Prop) s A B,(∀k,O k→w.heap.size≤k)→J O s A→w.heap.size≤A.heap.size→Keep O A B→J O s B)(hJx:∀(O:Nat→Prop) s A B,(∀k,O k→w.heap.size≤k)→Jx O s A→w.heap.size≤A.heap.size→Keep O A B→Jx O s B)
  (hY : ∀ (O : Nat → Prop) pre x W1, (∀ k, O k → w.heap.size ≤ k ∧ k < W1.heap.size) → J O pre W1 → VCD dn w.heap.size O x W1 → pre.length < N → YieldAt Fence.wide nY Tryz.prog l (encC x) W1 fun e W' =>
   (e= .returned (.bool true)∧J O (pre++[x]) W'∧KR dn W1 W')∨(e= .returned (.bool false)∧Jx O (pre++[x]) W'∧KR dn W1 W'))
  (hN:(parts c).length≤N) (hS:Snd c) (hY0:w.heap.size≤Y) (hX:Y<X) (hs:Y<ms) (hb:Y<mb) (hXg:X<Wg) (hsg:ms<Wg) (hbg:mb<Wg) (sb:ms≠mb) (xs:X≠ms) (xb:X≠mb):(tell X ms mb Y l w.heap.size dn D0 Wg J Jx c).Ok:=by
 have hown:∀k,(tell X ms mb Y l w.heap.size dn D0 Wg J Jx c).own k→Y<k∧k<Wg:=fun k h=>by
  rcases h with rfl|rfl|rfl|h
  ·exact⟨hX,hXg⟩
  ·exact⟨hs,hsg⟩
  ·exact⟨hb,hbg⟩
  ·cases h
 have hO:∀k,(k=X∨k=ms∨k=mb)→w.heap.size≤k:=fun k h=>by omega
 have hOk:∀A B,Keep (tell X ms mb Y l w.heap.size dn D0 Wg J Jx c).own A B→Keep (fun k=>k=X∨k=ms∨k=mb) A B:=fun A B h=>h.le fun k h=>by
  rcases h with h|h|h|h
  ·exact .inl h
  ·exact .inr (.inl h)
  ·exact .inr (.inr h)
  ·cases h
 have hbel:∀A B,w.heap.size≤A.heap.size→Keep (tell X ms mb Y l w.heap.size dn D0 Wg J Jx c).own A B→Below w.heap.size A B:=fun A B h hk=>hk.to_below (fun k h=>by have:=hown k h;omega) h
 refine⟨sb,nofun,nofun,xs,xb,nofun,fun k h h2=> ?_,?_,?_,?_,?_,.inr ⟨_,_,rfl,enters_of Tryz.func45 (by kernel_rfl) rfl,?_⟩⟩
 ·have:=hown k h;rcases h2 with h2|h2
  ·have:=hlb k h2;omega
  ·omega
 ·rintro s W k ⟨-,-,-,-,h⟩ - hk;exact(h k hk).2
 ·intro A B k hl hk hd;exact hst A B k hl (hbel A B hl hk) hd
 ·rintro s A B ⟨⟨ys,h1,h2⟩,h3,h4,h5,h6⟩ hk;refine⟨⟨ys,h1,hJ _ _ _ _ hO h2 h4 (hOk A B hk)⟩,?_,Nat.le_trans h4 hk.size,Nat.le_trans h5 hk.size,fun k hd=> ?_⟩
  ·exact(hk.cell 0 (block_lt_of_cell h3) (fun h=>Nat.lt_irrefl _ (hown Y h).1)).trans h3
  ·have h7:=h6 k (hst A B k h4 (hbel A B h4 hk) hd);exact⟨h7.1,Nat.lt_of_lt_of_le h7.2 hk.size⟩
 ·rintro s A B ⟨⟨ys,h1,h2⟩,h4⟩ hk;exact⟨⟨ys,h1,hJx _ _ _ _ hO h2 h4 (hOk A B hk)⟩,Nat.le_trans h4 hk.size⟩
 ·rintro G pre x vm vl vt vp vk W ⟨⟨ys,h1,h2⟩,h3,h4,h5,h6⟩ hpre hWx hRx hGx;have hmem:x∈parts c:=List.IsPrefix.subset hpre (List.mem_append_right _ (List.mem_singleton_self x));have hlen:ys.length<N:=by
   have h5:=List.IsPrefix.length_le hpre;have h6:ys.length=pre.length:=by rw[←h1,List.length_map]
   have h7:(tell X ms mb Y l w.heap.size dn D0 Wg J Jx c).tot=parts c:=rfl;rw[h7,List.length_append,List.length_singleton]at h5;omega
  have hkd:∀W',KR dn W W'→KD (tell X ms mb Y l w.heap.size dn D0 Wg J Jx c) W W':=fun W' h=>⟨h.size,fun k hk _ hd=>h.bl k hk hd,fun k hk=>(h.more k hk).imp id (fun e=>e.1)⟩
  have hkl:∀W',KR dn W W'→Keep (tell X ms mb Y l w.heap.size dn D0 Wg J Jx c).lb W W':=fun W' h=>h.keep (fun k hk=>(h6 k hk).1)
  have hjj:∀W',KR dn W W'→∀k,dn W' k→(D0 k∨Wg≤k)∧k<W'.heap.size:=fun W' h k hk=>(h.more k hk).elim (fun e=>⟨(h6 k e).1,Nat.lt_of_lt_of_le (h6 k e).2 h.size⟩) (fun e=>⟨.inr (Nat.le_trans h5 e.1),e.2⟩)
  have hyy:∀W',KR dn W W'→W'.cell? ⟨Y,0,none⟩=some (.func (.yield l) #[] #[]):=fun W' h=>((hkl W' h).cell 0 (block_lt_of_cell h3) (fun h=>h.elim (fun h=>by have:=hlb Y h;omega) (fun h=>absurd (show Wg≤Y from h) (by omega)))).trans h3
  refine(coSee_any nY l Y (R:=fun e W'=>∃p:PC,p.c=x∧((e= .returned (.bool true)∧J (fun k=>k=X∨k=ms∨k=mb) (ys++[p]) W'∧KR dn W W')∨(e= .returned (.bool false)∧Jx (fun k=>k=X∨k=ms∨k=mb) (ys++[p]) W'∧KR dn W W'))) x vm vl vt vp vk W hWx (snd_mem c hS x hmem) hRx h3 ?_ ?_).mono ?_
  ·intro p hp W1 hb1 hv;obtain⟨fn,tmps,assign,body,g1,g2⟩:=hY _ ys p W1 (fun k hk=>⟨hO k hk,by have:=hb1.size;omega⟩) (hJ _ _ _ _ hO h2 h4 (keep_of_below hb1)) (VCF.mono hv (fun k hk _=>⟨Nat.le_trans h4 hk,fun e=>by have:=(h6 k (hst W W1 k h4 (hb1.mono h4) e)).2;omega,fun e=>by have:=h5;omega⟩)) hlen;refine⟨fn,tmps,assign,body,g1,g2.mono ?_⟩;rintro e W2 (⟨g3,g4,g5⟩|⟨g3,g4,g5⟩)
   ·exact⟨p,hp,.inl ⟨g3,g4,(KR.of_below hst h4 hb1).trans g5⟩⟩
   ·exact⟨p,hp,.inr ⟨g3,g4,(KR.of_below hst h4 hb1).trans g5⟩⟩
  ·rintro e W2 ⟨p,-,⟨h,-⟩|⟨h,-⟩⟩
   ·exact⟨_,h⟩
   ·exact⟨_,h⟩
  ·rintro e W2 ⟨p,hp,⟨g1,g2,g3⟩|⟨g1,g2,g3⟩⟩
   ·exact .inl ⟨g1,⟨⟨ys++[p],by rw[List.map_append,h1,List.map_singleton,hp],g2⟩,hyy W2 g3,Nat.le_trans h4 g3.size,Nat.le_trans h5 g3.size,hjj W2 g3⟩,hkl W2 g3,hkd W2 g3⟩
   ·exact .inr ⟨g1,⟨⟨ys++[p],by rw[List.map_append,h1,List.map_singleton,hp],g2⟩,Nat.le_trans h4 g3.size⟩,hkl W2 g3,hkd W2 g3⟩
end Co
theorem coAll1_any(nY:Nat){N l:Nat}{dn:World→Nat→Prop}{J Jx:(Nat→Prop)→List Co.PC→World→Prop}{w:World}(hlb:∀k,dn w k→k<w.heap.size)(hst:Co.DSt dn w.heap.size)(hJ:∀(O:Nat→Prop) s A B,(∀k,O k→w.heap.size≤k)→J O s A→w.heap.size≤A.heap.size→Keep O A B→J O s B)(hJx:∀(O:Nat→Prop) s A B,(∀k,O k→w.heap.size≤k)→Jx O s A→w.heap.size≤A.heap.size→Keep O A B→Jx O s B)
  (hY : ∀ (O : Nat → Prop) pre x W1, (∀ k, O k → w.heap.size ≤ k ∧ k < W1.heap.size) → J O pre W1 → Co.VCD dn w.heap.size O x W1 → pre.length < N → YieldAt Fence.wide nY Tryz.prog l (Co.encC x) W1 fun e W' =>
   (e= .returned (.bool true)∧J O (pre++[x]) W'∧Co.KR dn W1 W')∨(e= .returned (.bool false)∧Jx O (pre++[x]) W'∧Co.KR dn W1 W'))
  {F:Nat→Prop} (c:Co.C) (vm vl vt vp vk:Value) (hW:Co.Wf c) (hR:Co.Rep F w c vm vl vt vp vk) (hF:∀k,F k→¬dn w k) (db:Nat) (hd:Co.Bc w db c vm vl vt vp vk) (hJ0:∀O:Nat→Prop,(∀k,O k→w.heap.size≤k)→J O [] w) (hN:(Co.all c).length≤N):
  Calls Tryz.prog 43 #[.func (.yield l) #[] #[],.pointer (some ⟨db,0,none⟩)] w fun e w'=>(∃v,e= .returned v)∧((∃(O:Nat→Prop) (xs:List Co.PC),xs.map Co.PC.c=Co.all c∧J O xs w')∨(∃(O:Nat→Prop) (xs:List Co.PC),xs.map Co.PC.c<+:Co.all c∧Jx O xs w')):=by
 obtain⟨w1,hw1⟩:∃w1,w.alloc (.cells #[.func (.yield l) #[] #[]] 75)=w1:=⟨_,rfl⟩
 obtain⟨hb1,hs1⟩:=new_below hw1;have hy1:=(Hp.new hw1).cell 0 rfl;have hdl:=hd.lt;have hd1:Co.Bc w1 db c vm vl vt vp vk:=hd.keep (S:=fun _=>False) (keep_of_below hb1) id;have ho:=outC_any c vm vl vt vp vk w1 hW (hR.below hb1);unfold Co.V at ho;obtain⟨E,hE⟩:∃E,E=Co.outE c:=⟨_,rfl⟩
 rw[←hE]at ho;have HE:=hd hE;have HD1:=hd hd1;have HB1:=hd hb1;have HY1:=hd hy1;have HJ:=hd hJ;have HJX:=hd hJx;have HYY:=hd hY;have HR:=hd hR;have HWF:=hd hW;have HF:=hd hF;have HLB:=hd hlb;have HST:=hd hst;have HJ0:=hd hJ0;have HS1:=hd hs1;have HDL:=hd hdl;have HNN:=hd hN;have hd1':Hp _ _ _ _:=hd1;have HD1':=hd hd1';have d0:=HD1'.out.cell 0 rfl;have d1:=HD1'.out.cell 1 rfl;have d2:=HD1'.out.cell 2 rfl;have d3:=HD1'.out.cell 3 rfl;have d4:=HD1'.out.cell 4 rfl;have d5:=HD1'.out.cell 5 rfl;have d6:=HD1'.out.cell 6 rfl;have d7:=HD1'.out.cell 7 rfl;have d8:=HD1'.out.cell 8 rfl;have d9:=HD1'.out.cell 9 rfl;have d10:=HD1'.out.cell 10 rfl;clear hb1 hs1 hy1 hdl hd1 hd1' hE hJ hJx hY hR hW hF hlb hst hJ0 hN hd;go_enter Tryz.func43,Tryz.ntmps43;go_wp2_with fail
 refine ho.mono ?_;rintro e w2 ⟨vf,rfl,hvf,hb2⟩;have HB2:=hd ((btr HB1.out hb2));have HB12:=hd hb2;have HD2:Hid (Hp w2 db _ _):=HD1'.out.below hb2;obtain⟨af,qf,rfl,hqf,hrf⟩:=hvf;have HVF:Hid (Dt.IRow (fun k=>w1.heap.size≤k) w2 (.slice af (Co.outL c).length qf) (Co.outL c)):=⟨af,qf,rfl,hqf,hrf⟩
 clear d0 d1 d2 d3 d4 d5 d6 d7 d8 d9 d10;clear ho hw1 hb2 hrf;by_cases hz:E=0
 case neg=>
  have hzb:(E !=0)=true:=by simpa using hz
  have HA:Hid (Co.all c=[]∧J (fun _=>False) [] w2):=⟨Co.all_no (by rw[←HE.out];exact hz),HJ.out _ _ _ _ (fun _ h=>h.elim) (HJ0.out _ (fun _ h=>h.elim)) (Nat.le_refl _) (keep_of_below HB2.out)⟩
  clear hz;go_wp2;refine bodyPost_ret (results_none rfl _ _ _) rfl ?_;exact⟨⟨_,rfl⟩,.inl ⟨_,[],by rw[HA.out.1];rfl,HA.out.2⟩⟩
 have hzb:(E !=0)=false:=by simpa using hz
 obtain⟨f1,f2,f3,f4,f5⟩:=Co.all_ok (HE.out.symm.trans hz);obtain⟨p1,p2,p3,p4⟩:=Co.free_facts f1 HWF.out;have hfr:=fresh_any (.slice af (Co.outL c).length qf) (Co.outL c) w2 HVF.out (by rw[f4];omega) (by rw[f4];exact p2);have HF2:=hd f2;have HF3:=hd f3;have HF4:=hd f4;have HF5:=hd f5;clear hz f1 f2 f3 f4 f5 p1 p2 p3 p4;go_wp2_with fail
 refine hfr.mono ?_;rintro e w3 ⟨X,ms,mb,rfl,hf⟩;obtain⟨w4,hw4⟩:∃w4,w3.setCell ⟨X,4,none⟩ (.func (.func 45) #[] #[.pointer (some ⟨w.heap.size,0,none⟩)])=w4:=⟨_,rfl⟩
 have k34:Keep (fun k=>k=X) w3 w4:=by rw[←hw4];exact set_keep _ _ _ _
 have hsz12:=HB12.out.size;have hs1:=HS1.out;have hX:=hf.lX;have hms:=hf.ls;have hmb:=hf.lb;have hw4s:w4.heap.size=w3.heap.size:=by rw[←hw4];exact World.size_setCell _ _ _
 have hXg:X<w4.heap.size:=by rw[hw4s];exact hf.hp.lt
 have hsg:ms<w4.heap.size:=by rw[hw4s];exact hf.hs.lt
 have hbg:mb<w4.heap.size:=by rw[hw4s];exact hf.hb.lt
 have hok:=Co.tell_ok (X:=X) (ms:=ms) (mb:=mb) (Y:=w.heap.size) (c:=c) (Wg:=w4.heap.size) (D0:=dn w) HLB.out HST.out HJ.out HJX.out HYY.out (by rw[←HF3.out];exact HNN.out) HF5.out (Nat.le_refl _) (by omega) (by omega) (by omega) hXg hsg hbg hf.sb hf.xs hf.xb;have hx4:Hp w4 X #[.int .i64 0,.map (some ms),.map (some mb),.map none,.func (.func 45) #[] #[.pointer (some ⟨w.heap.size,0,none⟩)],.bool false] 81:=by rw[←hw4];exact hf.hp.set 4 _
 have hb24:Below w2.heap.size w2 w4:=hf.kp.trans (k34.to_below (fun k e=>by omega) hf.kp.size);have hb04:Below w.heap.size w w4:=btr HB2.out hb24;have hwk:Co.Wk (Co.tell X ms mb w.heap.size l w.heap.size dn (dn w) w4.heap.size J Jx c) w4 0 false (Co.outL c).contains (Co.outL c).contains (fun _=>false) (Co.outL c).length:=
  ⟨hx4,hf.hs.keep k34 (fun e=>hf.xs e.symm),hf.hb.keep k34 (fun e=>hf.xb e.symm),nofun,hb04.size⟩
 have hown:∀k,(Co.tell X ms mb w.heap.size l w.heap.size dn (dn w) w4.heap.size J Jx c).own k→w.heap.size<k:=fun k h=>by
  rcases h with h|h|h|h
  ·have h:k=X:=h;omega
  ·have h:k=ms:=h;omega
  ·have h:k=mb:=h;omega
  ·cases h
 have hR1:Co.Rep (fun k=>k<w.heap.size∧¬dn w k) w4 c vm vl vt vp vk:=(Co.Rep.mono (fun b hb hl=>⟨hl,HF.out b hb⟩) c HR.out).below hb04;have hy4:w4.cell? ⟨w.heap.size,0,none⟩=some (.func (.yield l) #[] #[]):=by
  have h1:w2.cell? ⟨w.heap.size,0,none⟩=_:=(HB12.out.cell (p:=⟨w.heap.size,0,none⟩) (by show w.heap.size<w1.heap.size;omega)).trans HY1.out;exact(hb24.cell (p:=⟨w.heap.size,0,none⟩) (by show w.heap.size<w2.heap.size;omega)).trans h1
 have hln:(Co.outL c).length≤8192:=by
  rw[HF4.out];exact(Co.free_facts (Co.all_ok (HE.out.symm.trans (by simpa using hzb))).1 HWF.out).1
 have hgo:=coGoes_any (Co.tell X ms mb w.heap.size l w.heap.size dn (dn w) w4.heap.size J Jx c) hok c (fun k=>k<w.heap.size∧¬dn w k) vm vl vt vp vk w4 1 (Co.outL c) true 0 (Co.outL c) (Co.outL c).contains (Co.outL c).contains (fun _=>false) (Co.outL c).length [] HWF.out hR1 (fun k hk h=>h.elim (fun h=>by have:=hown k h;omega) (fun h=>h.elim hk.2 (fun h=>by have:=hk.1;have:=hb04.size;omega))) (by omega) hwk (by omega) (by omega) (fun x=>rfl) (fun x=>rfl) (fun x h=>h) ⟨⟨[],rfl,HJ.out _ _ _ _ (fun k h=>by omega) (HJ0.out _ (fun k h=>by omega)) (Nat.le_refl _) (keep_of_below hb04)⟩,hy4,hb04.size,Nat.le_refl _,fun k hk=>by have h:=HST.out w w4 k (Nat.le_refl _) hb04 hk;exact⟨.inl h,by have:=HLB.out k h;have:=hb04.size;omega⟩⟩ (List.prefix_refl _);unfold Co.V at hgo;have hgo':Calls Tryz.prog 36 #[.pointer (some ⟨X,0,none⟩),.agg #[.int .i64 c.k,.int .i64 c.n,.string c.s,.int .i64 c.d.k,.int .i64 c.d.n,.string c.d.s,vm,vl,vt,vp,vk],.int .i64 1,.bool true] w4 _:=hgo;have HD4:Hid (Hp w4 db _ _):=(HD2.out.below hb24)
 have x4:=hf.hp.cell 4 rfl;have xf4:=hf.hp.frz 4;obtain⟨d0,d1,d2,d3,d4,d5,d6,d7,d8,d9,d10⟩:=HD4.out.c11;clear hfr hf k34 hX hms hmb hw4s hXg hsg hbg hok hx4 hb24 hb04 hwk hown hR1 hy4 hgo hsz12 hs1 hln;go_wp2_with fail
 refine hgo'.mono ?_;rintro e w5 ⟨r,cnt',dn',sc',bd',fr',n',rfl,-,-,-,-,h⟩;have HFIN:Hid ((∃(O:Nat→Prop) (xs:List Co.PC),xs.map Co.PC.c=Co.all c∧J O xs w5)∨(∃(O:Nat→Prop) (xs:List Co.PC),xs.map Co.PC.c<+:Co.all c∧Jx O xs w5)):=by
  rw[HF3.out];rcases h with⟨-,hr,h0⟩|⟨-,-,pre,hpre,⟨ys,h1,h2⟩,-⟩
  ·have hr0:r=0:=by
    rw[hr,HF4.out];exact HF2.out
   obtain⟨-,-,-,-,⟨ys,h1,h2⟩,-⟩:=h0 hr0;exact .inl ⟨_,ys,h1,h2⟩
  ·exact .inr ⟨_,ys,by rw[h1];exact hpre,h2⟩
 clear hgo' h hw4 x4 xf4;clear d0 d1 d2 d3 d4 d5 d6 d7 d8 d9 d10;go_wp2
 first|go_end0|go_ret2
 exact⟨⟨_,rfl⟩,HFIN.out⟩
theorem coAll_any(c:Co.C)(vm vl vt vp vk:Value)(w:World):
  Calls Tryz.prog 17 #[Co.V c vm vl vt vp vk] w fun e w'=>e= .returned (.func (.func 43) #[] #[.pointer (some ⟨w.heap.size,0,none⟩)])∧Below w.heap.size w w'∧Co.Bc w' w.heap.size c vm vl vt vp vk∧w.heap.size<w'.heap.size:=by
 unfold Co.V;obtain⟨w1,hw1⟩:∃w1,w.alloc (.cells #[.int .i64 c.k,.int .i64 c.n,.string c.s,.int .i64 c.d.k,.int .i64 c.d.n,.string c.d.s,vm,vl,vt,vp,vk] 28)=w1:=⟨_,rfl⟩
 obtain⟨hb1,hs1⟩:=new_below hw1;have hbc:Co.Bc w1 w.heap.size c vm vl vt vp vk:=Hp.new hw1;have hz:w.heap.size<w1.heap.size:=by omega
 go_enter Tryz.func17,Tryz.ntmps17;go_wp2;go_ret;exact⟨rfl,hb1,hbc,hz⟩
theorem coAll_stopsD(n:Nat){F:Nat→Prop}(c:Co.C)(vm vl vt vp vk:Value)(w0:World)(dn:World→Nat→Prop)(db:Nat)(hst:Co.DSt dn w0.heap.size)(hRz:∀k,dn w0 k→k<w0.heap.size+2)(hW:Co.Wf c)(hR:Co.Rep F w0 c vm vl vt vp vk)(hF:∀k,F k→k<w0.heap.size∧¬dn w0 k)(hd:Co.Bc w0 db c vm vl vt vp vk):
  Rb.SeqStopsO Fence.wide n Tryz.prog 43 #[.pointer (some ⟨db,0,none⟩)] Co.encC (Co.KR dn) (Co.VCD dn w0.heap.size) (fun xs=>xs.map Co.PC.c=Co.all c) (fun xs=>xs.map Co.PC.c<+:Co.all c) (Co.all c).length w0:=by
 intro l J Jx W hW0 hz hJ hJx hY h0;have hdw:∀k,dn W k→dn w0 k:=fun k hk=>hst w0 W k (Nat.le_refl _) hW0 hk
 have h:=coAll1_any (n - 1) (N:=(Co.all c).length) (l:=l) (dn:=dn) (J:=J) (Jx:=Jx) (w:=W) (fun k hk=>by have:=hRz k (hdw k hk);omega) (fun A B k hl hb hk=>hst A B k (Nat.le_trans hW0.size hl) (hb.mono hW0.size) hk) hJ hJx (fun O pre x W1 hO h1 h2 h3=>hY O pre x W1 hO h1 (Co.VCF.mono h2 (fun k hk _=>⟨Nat.le_trans hW0.size hk.1,hk.2⟩)) h3) (F:=F) c vm vl vt vp vk hW (hR.below hW0)
  (fun k hk h=>(hF k hk).2 (hdw k h)) db (hd.keep (S:=fun _=>False) (keep_of_below hW0) id) h0 (Nat.le_refl _)
 exact(callsIn_wide.2 h).mono (fun e w' h=>⟨h.1,h.2⟩)
theorem coAll_stops(n:Nat){F:Nat→Prop}(c:Co.C)(vm vl vt vp vk:Value)(w0:World)(R:Nat→Prop)(db:Nat)(hRz:∀k,R k→k<w0.heap.size)(hW:Co.Wf c)(hR:Co.Rep F w0 c vm vl vt vp vk)(hF:∀k,F k→k<w0.heap.size∧¬R k)(hd:Co.Bc w0 db c vm vl vt vp vk):
  Rb.SeqStopsB Fence.wide n Tryz.prog 43 #[.pointer (some ⟨db,0,none⟩)] Co.encC (Keep fun k=>R k∨k=w0.heap.size+1) Co.VC (fun xs=>xs.map Co.PC.c=Co.all c) (fun xs=>xs.map Co.PC.c<+:Co.all c) (Co.all c).length w0:=by
 have h:=coAll_stopsD n c vm vl vt vp vk w0 (fun _ k=>R k∨k=w0.heap.size+1) db (fun _ _ _ _ _ h=>h) (fun k hk=>by rcases hk with h|h;have:=hRz k h;omega;omega) hW hR (fun k hk=>⟨(hF k hk).1,fun h=>by have:=hF k hk;rcases h with h|h;exact this.2 h;omega⟩) hd;intro l J Jx W hW0 hz hJ hJx hY h0;have hc:∀A B,Keep (fun k=>R k∨k=w0.heap.size+1) A B→Co.KR (fun _ k=>R k∨k=w0.heap.size+1) A B:=fun A B k=>⟨k.os,k.tape,k.output,k.size,fun i hi hn=>k.block i hi hn,fun i hi=> .inl hi⟩
 refine(h l (fun _=>J) (fun _=>Jx) W hW0 hz (fun O s A B hO h1 hle hk=>hJ s A B h1 hle (hk.to_below hO hle)) (fun O s A B hO h1 hle hk=>hJx s A B h1 hle (hk.to_below hO hle)) (fun O pre x W1 hO h1 h2 h3=> ?_) (fun _ _=>h0)).mono ?_
 case refine_2=>
  rintro e w' ⟨h1,⟨O,xs,h2⟩|⟨O,xs,h2⟩⟩
  ·exact⟨h1,.inl ⟨xs,h2⟩⟩
  ·exact⟨h1,.inr ⟨xs,h2⟩⟩
 obtain⟨fn,tmps,assign,body,g1,g2⟩:=hY pre x W1 h1 (Co.VCF.mono (G:=fun _=>True) h2 (fun _ _ _=>trivial)) h3;refine⟨fn,tmps,assign,body,g1,g2.mono ?_⟩;rintro e W2 (⟨g3,g4,g5⟩|⟨g3,g4,g5⟩)
 ·exact .inl ⟨g3,g4,hc _ _ g5⟩
 ·exact .inr ⟨g3,g4,hc _ _ g5⟩
end Go.Proofs.YtfjmlfbohenmfaaGreat
namespace Go.Proofs.YtfjmlfbohenmfaaGreat
open Go.RowKit
def AtC(w:World)(b:Nat):Prop:=∃j v,w.cell? ⟨b,j,none⟩=some v
theorem atC_not{w:World}{r:Nat}{o:Obj}(h:w.heap[r]?=some o)(ho:o.isCells=false):¬AtC w r:=by
 rintro⟨j,v,hv⟩;unfold World.cell? at hv;simp only[h]at hv;cases o <;> simp_all [Obj.isCells]
namespace Dt
theorem irow_at{F:Nat→Prop}{w:World}{v:Value}{m:List Int}(h:IRow F w v m):IRow (fun b=>F b∧AtC w b) w v m:=by
 obtain⟨a0,c0,i1,i2,i3⟩:=h;refine⟨a0,c0,i1,i2,fun hn=> ?_⟩;obtain⟨b,o,g1,g2,g3,g4⟩:=i3 hn;have hl:0<m.length:=List.length_pos_iff.2 hn;exact⟨b,o,g1,⟨g2,_,_,g4 0 hl⟩,g3,g4⟩
theorem reps_at0{F:Nat→Prop}{w:World}{l:List D}{b o:Nat}(hn:l≠[])(h:Reps F w l b o):AtC w b:=by
 cases l with
 |nil=>exact absurd rfl hn
 |cons d r=>rw[Reps]at h;obtain⟨⟨_,_,_,h1,-⟩,-⟩:=h;exact⟨_,_,h1.c0⟩
mutual
theorem rep_at{F:Nat→Prop}{w:World}:∀(d:D) {vm vl vt:Value},Rep F w d vm vl vt→Rep (fun b=>F b∧AtC w b) w d vm vl vt
 | .mk k n s m l t,vm,vl,vt,h=>by
  rw[Rep]at h ⊢;obtain⟨h1,⟨a,c,e1,e2,e3⟩,⟨a',c',f1,f2,f3⟩⟩:=h;refine⟨irow_at h1,⟨a,c,e1,e2,fun hn=> ?_⟩,⟨a',c',f1,f2,fun hn=> ?_⟩⟩
  ·obtain⟨b,o,g1,g2,g3,g4⟩:=e3 hn;exact⟨b,o,g1,⟨g2,reps_at0 hn g4⟩,g3,reps_at l g4⟩
  ·obtain⟨b,o,g1,g2,g3,g4⟩:=f3 hn;exact⟨b,o,g1,⟨g2,reps_at0 hn g4⟩,g3,reps_at t g4⟩
theorem reps_at{F:Nat→Prop}{w:World}:∀(l:List D) {b o:Nat},Reps F w l b o→Reps (fun b=>F b∧AtC w b) w l b o
 |[],_,_,_=>by rw[Reps];trivial
 |d :: r,b,o,h=>by
  rw[Reps]at h ⊢;obtain⟨⟨vm,vl,vt,h1,h2⟩,h3⟩:=h;exact⟨⟨vm,vl,vt,h1,rep_at d h2⟩,reps_at r h3⟩
end
end Dt
namespace Co
theorem reps_at0{F:Nat→Prop}{w:World}{l:List C}{b o:Nat}(hn:l≠[])(h:Reps F w l b o):AtC w b:=by
 cases l with
 |nil=>exact absurd rfl hn
 |cons d r=>rw[Reps]at h;obtain⟨⟨_,_,_,_,_,h1,-⟩,-⟩:=h;exact⟨_,_,h1.c0⟩
mutual
theorem rep_at{F:Nat→Prop}{w:World}:∀(c:C) {vm vl vt vp vk:Value},Rep F w c vm vl vt vp vk→Rep (fun b=>F b∧AtC w b) w c vm vl vt vp vk
 | .mk k n s d p l,vm,vl,vt,vp,vk,h=>by
  rw[Rep]at h ⊢;obtain⟨h1,h2,⟨a,c,e1,e2,e3⟩⟩:=h;refine⟨Dt.rep_at d h1,Dt.irow_at h2,⟨a,c,e1,e2,fun hn=> ?_⟩⟩;obtain⟨b,o,g1,g2,g3,g4⟩:=e3 hn;exact⟨b,o,g1,⟨g2,reps_at0 hn g4⟩,g3,reps_at l g4⟩
theorem reps_at{F:Nat→Prop}{w:World}:∀(l:List C) {b o:Nat},Reps F w l b o→Reps (fun b=>F b∧AtC w b) w l b o
 |[],_,_,_=>by rw[Reps];trivial
 |d :: r,b,o,h=>by
  rw[Reps]at h ⊢;obtain⟨⟨vm,vl,vt,vp,vk,h1,h2⟩,h3⟩:=h;exact⟨⟨vm,vl,vt,vp,vk,h1,rep_at d h2⟩,reps_at r h3⟩
end
theorem Rowing.grown{w w':World}{base:Nat}{v:Value}{ls:List PC}{row:Option Nat}(h:Rowing w base v ls)(hg:w.grownBy w' row)(hr:∀r,row=some r→∃o:Obj,w.heap[r]?=some o∧o.isCells=false):Rowing w' base v ls:=by
 have hk:Keep (fun k=>row=some k) w w':=⟨hg.os,hg.tape,hg.output,hg.size,fun k hk hn=>hg.block k hk (fun e=>hn e.symm)⟩
 have hrow:w'.ownsRow base 28 11 v ls.length (flatC ls):=by
  rcases h.row.2 with⟨h1,h0⟩|⟨g,cap,cur,e1,e2,e3,e4⟩
  ·exact⟨h.row.1,.inl ⟨h1,h0⟩⟩
  ·have hne:¬row=some g:=fun e=>by
    obtain⟨o,ho,hc⟩:=hr g e;rw[ho]at e3;cases e3;cases hc
   exact⟨h.row.1,.inr ⟨g,cap,cur,e1,e2,(hk.block g (Array.getElem?_eq_some_iff.1 e3).1 hne).trans e3,e4⟩⟩
 refine⟨hrow,fun p hp=> ?_⟩;have h1:=rep_at p.c (h.rep p hp);exact Rep.mono (fun b hb _=>hb.1) p.c (Rep.keep hk (fun b hb _ e=>by obtain⟨o,ho,hc⟩:=hr b e;exact atC_not ho hc hb.2) p.c h1)
end Co
end Go.Proofs.YtfjmlfbohenmfaaGreat
namespace Go.Proofs.YtfjmlfbohenmfaaGreat
open Go Go.RowKit
namespace Li
variable {F:Fence} {n:Nat} {P:Program} {md:Region.Mode} {ops:Array Oper}
def calm(o:Oper):Bool:=match o.op with
  | .load _ _| .store _ _ _| .buildSlice _ _ _| .indexAddr _ _ _| .fieldAddr _ _ _| .move _| .assign _| .alloc _=>true
  | .call c => match c.callee with
    | .builtin b => match b with
      | .append| .len=>true
      |_=>false
    |_=>false
  |_=>false
def Mild:Result Next→Prop
  | .ok (.value _) _| .ok .skip _| .halt _ _=>True
  |_=>False
theorem mild_up{o:Oper}{a:Act}{K:Act→World→Prop}{Q:Exit→Act→World→Prop}{r:Result Next}(hm:Mild r)(h:o.upon P a K Q r):o.uponIn F n P a K Q r:=by
  cases r with
  |ok x w'=>cases x <;> first|exact h|exact hm.elim
  |halt x w'=>cases x <;> exact h
theorem mild_v(s:Sem Value)(w:World):Mild ((do pure (.value (←s)):Sem Next).run P w):=by
  rw[Sem.run_bind];cases s.run P w <;> trivial
theorem mild_u(s:Sem Unit)(w:World):Mild ((do s;pure .skip:Sem Next).run P w):=by
  rw[Sem.run_bind];cases s.run P w <;> trivial
theorem mild_then(r:Result Value):Mild (r.andThen fun a w'=>Result.ok (Next.value a) w'):=by cases r <;> trivial
theorem calm_wp{o:Oper}{a:Act}{K:Act→World→Prop}{Q:Exit→Act→World→Prop}{w:World}(hc:calm o=true)(h:o.wp P a w K Q):o.wpIn F n P a w K Q:=by
  unfold calm at hc;unfold Oper.wp at h;unfold Oper.wpIn
  cases ho:o.op with
  |load t x=>exact⟨fun f hf=>by simp[Oper.about,ho]at hf,by rw[Oper.semAt_eq _ _ _ (fun c e=>by rw[ho]at e;cases e)];refine mild_up ?_ h;unfold execOp;rw[ho];exact mild_v _ _⟩
  |store t x y=>exact⟨fun f hf=>by simp[Oper.about,ho]at hf,by rw[Oper.semAt_eq _ _ _ (fun c e=>by rw[ho]at e;cases e)];refine mild_up ?_ h;unfold execOp;rw[ho];exact mild_u _ _⟩
  |buildSlice t l x=>exact⟨fun f hf=>by simp[Oper.about,ho]at hf,by rw[Oper.semAt_eq _ _ _ (fun c e=>by rw[ho]at e;cases e)];refine mild_up ?_ h;unfold execOp;rw[ho];exact mild_v _ _⟩
  |indexAddr t x y=>exact⟨fun f hf=>by simp[Oper.about,ho]at hf,by rw[Oper.semAt_eq _ _ _ (fun c e=>by rw[ho]at e;cases e)];refine mild_up ?_ h;unfold execOp;rw[ho];exact mild_v _ _⟩
  |fieldAddr t x y=>exact⟨fun f hf=>by simp[Oper.about,ho]at hf,by rw[Oper.semAt_eq _ _ _ (fun c e=>by rw[ho]at e;cases e)];refine mild_up ?_ h;unfold execOp;rw[ho];exact mild_v _ _⟩
  |alloc t=>exact⟨fun f hf=>by simp[Oper.about,ho]at hf,by rw[Oper.semAt_eq _ _ _ (fun c e=>by rw[ho]at e;cases e)];refine mild_up ?_ h;unfold execOp;rw[ho];exact mild_v _ _⟩
  |move x=>exact⟨fun f hf=>by simp[Oper.about,ho]at hf,by rw[Oper.semAt_eq _ _ _ (fun c e=>by rw[ho]at e;cases e)];refine mild_up ?_ h;unfold execOp;rw[ho];trivial⟩
  |assign x=>exact⟨fun f hf=>by simp[Oper.about,ho]at hf,by rw[Oper.semAt_eq _ _ _ (fun c e=>by rw[ho]at e;cases e)];refine mild_up ?_ h;unfold execOp;rw[ho];trivial⟩
  | call c =>
    rw[ho]at hc;obtain⟨callee,args,ts⟩:=c
    cases callee with
    | builtin b =>
      refine⟨fun f hf=> ?_,?_⟩
      · simp[Oper.about,ho,resolve,Target.leads]at hf
      · rw[Oper.semAt_eq _ _ _ (fun c e=>by rw[ho]at e;cases e)]
        refine mild_up ?_ h;unfold execOp;rw[ho];cases b <;> first
          |(exfalso;revert hc;simp;done)
          | (simp only [resolve, invoke, builtin, Sem.run_bind, Sem.run_pure, Result.andThen_ok]
             exact mild_then _)
    |_=>simp at hc
  |_=>rw[ho]at hc;simp at hc
theorem calm_not{o:Oper}{a:Act}{w:World}(hc:calm o=true)(f:FuncId):o.about P w a.eval≠some f:=by
  intro hf;unfold calm at hc
  cases ho:o.op with
  | call c =>
    rw[ho]at hc;obtain⟨callee,args,ts⟩:=c
    cases callee with
    |builtin b=>simp[Oper.about,ho,resolve,Target.leads]at hf
    |_=>simp at hc
  |_=>simp[Oper.about,ho]at hf
theorem lift_op{i:Nat}{a:Act}{K:Act→World→Prop}{Q:Exit→Act→World→Prop}{w:World}(hQ:¬LetsOut Q)(hc:∀o,ops[i]?=some o→calm o=true)(h:wpOp P ops Q i K a w):wpOpIn F n P ops Q i K a w:=by
  unfold wpOp at h;unfold wpOpIn;split
  · rename_i ho;simpa[ho]using h
  · rename_i o ho
    simp only[ho]at h;have hco:=hc o ho;split
    · rename_i hw
      simp only[hw,if_true]at h;exact calm_wp hco (h.resolve_right fun h=>hQ h.2)
    · rename_i hw
      simp only[hw]at h;exact⟨fun f hf=>absurd hf (calm_not hco f),h⟩
theorem lift_any{Q:Exit→Act→World→Prop}(hQ:¬LetsOut Q)(hc:∀(i:Nat) (o:Oper),ops[i]?=some o→calm o=true):∀(fuel:Nat) (listed:Array Bool) (a:Act) (w:World),wpAny P md ops Q fuel listed a w→wpAnyIn F n P md ops Q fuel listed a w
  |0,_,_,_,h=>h
  |fuel+1,_,_,_,h=>⟨h.1,fun i hi=>lift_op hQ (hc i) (wpOp_mono (fun a' w' h'=>lift_any hQ hc fuel _ a' w' h') (h.2 i hi))⟩
theorem held{S:World→Prop}{id:Nat}{Q:Exit→Act→World→Prop}{a:Act}{w:World}(hQ:¬LetsOut Q)(hm:P.follows .mixedOrders=true)(hc:ops.toList.all calm=true)(hS:S w.drew)
    (h:S w.drew→wpAnyH P .any ops Q S ops.size (Array.replicate ops.size false) a w.drew):(Code.region id ops true).wpIn F n P Q a w:=
  wpIn_region_any hm (lift_any hQ (fun i o ho=>by
    obtain⟨hi,rfl⟩:=Array.getElem?_eq_some_iff.1 ho;exact List.all_eq_true.1 hc _ (Array.getElem_mem_toList hi)) _ _ _ _ (wpAny_of_held _ _ _ _ (h hS)))
end Li
end Go.Proofs.YtfjmlfbohenmfaaGreat
namespace Go.Proofs.YtfjmlfbohenmfaaGreat
open Go.RowKit Go.Shelf Go.Maps Go.WideMaps
attribute [local go_sem] Oper.semAt_some
namespace Co
theorem all_len(c:C):(all c).length≤8192:=by
 by_cases h:outE c=0
 ·obtain⟨h1,-,h3,-,-⟩:=all_ok h;rw[h3];have h2:goes true c 1 [] true 0 []=(0,(goes true c 1 [] true 0 []).2):=Prod.ext h1 rfl;obtain⟨g1,g2⟩:=goes_count c h2;omega
 ·rw[all_no h];simp
end Co
end Go.Proofs.YtfjmlfbohenmfaaGreat
