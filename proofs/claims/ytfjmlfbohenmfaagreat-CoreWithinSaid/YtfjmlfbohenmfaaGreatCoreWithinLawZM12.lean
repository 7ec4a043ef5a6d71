/-
  CoRWkq, CoRPutq, CoDatumq.
-/
import Derived.Test.YtfjmlfbohenmfaaGreatCoreWithinLawZM7
import Derived.Test.YtfjmlfbohenmfaaGreatCoToldq
import Derived.Test.YtfjmlfbohenmfaaGreatCoRAloneq
import Derived.Test.YtfjmlfbohenmfaaGreatCoreWithinLawZM5
import Derived.Test.YtfjmlfbohenmfaaGreatCoreWithinLawZM6
import Derived.Test.YtfjmlfbohenmfaaGreatCoreWithinLawZM2
import Derived.Test.YtfjmlfbohenmfaaGreatCoTellq
import Derived.Test.YtfjmlfbohenmfaaGreatCoreWithinLawZM11
set_option maxRecDepth 100000
set_option maxHeartbeats 32000000
namespace Go.Proofs.YtfjmlfbohenmfaaGreat
open Go.RowKit
namespace Co
def ints(l:List Int):List Value:=l.map (Value.int .i64)
structure RW(G:Nat→Prop)(w:World)(base X:Nat)(e:Int)(opn:Bool)(pv bv:Value)(ps:List PC)(bd:List Int):Prop where
  hp:Hp w X #[pv,bv,.int .i64 e,.bool opn] 66
  rp:w.ownsRow base 28 11 pv ps.length (flatC ps)
  re:∀p∈ps,p.rep G w
  rb:w.ownsRow base 3 1 bv bd.length (ints bd)
  bx:base≤X
  np:pv.ownBlock≠some X
  nb:bv.ownBlock≠some X
  nn:∀k,pv.ownBlock=some k→bv.ownBlock≠some k
def WS(X:Nat)(pv bv:Value)(k:Nat):Prop:=k=X∨pv.ownBlock=some k∨bv.ownBlock=some k
def RV(w:World)(v v':Value):Prop:=∀k,v'.ownBlock=some k→v.ownBlock=some k∨w.heap.size≤k
theorem RV.refl(w:World)(v:Value):RV w v v:=fun _ h=> .inl h
theorem WS.low{G:Nat→Prop}{w:World}{base X:Nat}{e:Int}{opn:Bool}{pv bv:Value}{ps:List PC}{bd:List Int}(h:RW G w base X e opn pv bv ps bd){k:Nat}(hk:WS X pv bv k):base≤k:=by
  rcases hk with hk|hk|hk
  · have:=h.bx;omega
  · exact(Dt.own_lt h.rp k hk).1
  · exact(Dt.own_lt h.rb k hk).1
theorem RW.keep{G S:Nat→Prop}{w w':World}{base X:Nat}{e:Int}{opn:Bool}{pv bv:Value}{ps:List PC}{bd:List Int}(h:RW G w base X e opn pv bv ps bd)(hk:Keep S w w')(hS:∀k,k<w.heap.size→(G k∨WS X pv bv k)→¬S k):RW G w' base X e opn pv bv ps bd:=
  ⟨h.hp.keep hk (hS X h.hp.lt (.inr (.inl rfl))),Dt.own_keep h.rp hk (fun k e=>hS k (Dt.own_lt h.rp k e).2 (.inr (.inr (.inl e)))),fun p hp=>Rep.keep hk (fun b hb hl=>hS b hl (.inl hb)) p.c (h.re p hp),Dt.own_keep h.rb hk (fun k e=>hS k (Dt.own_lt h.rb k e).2 (.inr (.inr (.inr e)))),h.bx,h.np,h.nb,h.nn⟩
theorem RW.below{G:Nat→Prop}{w w':World}{base X:Nat}{e:Int}{opn:Bool}{pv bv:Value}{ps:List PC}{bd:List Int}(h:RW G w base X e opn pv bv ps bd)(hb:Below w.heap.size w w'):RW G w' base X e opn pv bv ps bd:=
  h.keep (S:=fun _=>False) (keep_of_below hb) (fun _ _ _ h=>h)
theorem RW.setE{G:Nat→Prop}{w:World}{base X:Nat}{e:Int}{opn:Bool}{pv bv:Value}{ps:List PC}{bd:List Int}(h:RW G w base X e opn pv bv ps bd)(hG:∀k,G k→k<base)(e':Int):RW G (w.setCell ⟨X,2,none⟩ (.int .i64 e')) base X e' opn pv bv ps bd:=by
  have k:=set_keep w X 2 (.int .i64 e');have hn:∀b,b<w.heap.size→G b→¬b=X:=fun b _ hb e=>by have:=hG b hb;have:=h.bx;omega
  exact⟨h.hp.set 2 _,Dt.own_keep h.rp k (fun j hj e=>h.np (by rw[hj,e])),fun p hp=>Rep.keep k (fun b hb hl=>hn b hl hb) p.c (h.re p hp),Dt.own_keep h.rb k (fun j hj e=>h.nb (by rw[hj,e])),h.bx,h.np,h.nb,h.nn⟩
theorem grown_keep2{w wA w5:World}{row:Option Nat}(hA:Below w.heap.size w wA)(hg:wA.grownBy w5 row):Keep (fun k=>row=some k) w w5:=
  ⟨hg.os.trans hA.os,hg.tape.trans hA.tape,hg.output.trans hA.output,Nat.le_trans hA.size hg.size,fun k hk hn=>(hg.block k (by have:=hA.size;omega) (fun e=>hn e.symm)).trans (hA.block k hk)⟩
theorem RW.pushB{G:Nat→Prop}{w wA w5:World}{base X:Nat}{e:Int}{opn:Bool}{pv bv bv':Value}{ps:List PC}{bd:List Int}{x:Int}(h:RW G w base X e opn pv bv ps bd)(hG:∀k,G k→k<base)(hA:Below w.heap.size w wA)
    (hown:w5.ownsRow base 3 1 bv' (bd.length+1) (ints bd++[.int .i64 x])) (hg:wA.grownBy w5 bv.ownBlock) (hat:bv'.ownBlock=bv.ownBlock∨bv'.ownBlock=some wA.heap.size):
    RW G (w5.setCell ⟨X,1,none⟩ bv') base X e opn pv bv' ps (bd++[x])∧Keep (WS X pv bv) w (w5.setCell ⟨X,1,none⟩ bv')∧RV w bv bv':=by
  have k1:=grown_keep2 hA hg;have k2:=set_keep w5 X 1 bv';have hX:=h.hp.lt;have hnX:¬bv.ownBlock=some X:=h.nb;have hp5:Hp w5 X #[pv,bv,.int .i64 e,.bool opn] 66:=h.hp.keep k1 hnX;have hs:=hA.size;have hrv:RV w bv bv':=fun k hk=>hat.elim (fun e=> .inl (e▸hk)) (fun e=> .inr (by rw[e]at hk;cases hk;exact hs))
  have hb'X:bv'.ownBlock≠some X:=fun e=>(hrv X e).elim hnX (fun h=>by omega)
  have hlow:∀k,bv.ownBlock=some k→base≤k:=fun k e=>(Dt.own_lt h.rb k e).1
  have k12:Keep (WS X pv bv) w (w5.setCell ⟨X,1,none⟩ bv'):=(k1.le fun k e=> .inr (.inr e)).trans (k2.le fun k e=> .inl e);refine⟨⟨hp5.set 1 _,?_,fun p hp=> ?_,?_,h.bx,h.np,hb'X,fun k hk e=> ?_⟩,k12,hrv⟩
  · exact Dt.own_keep (Dt.own_keep h.rp k1 (fun j hj e=>h.nn j hj e)) k2 (fun j hj e=>h.np (by rw[hj,e]))
  · exact Rep.keep k12 (fun b hb hl e=>by have:=hG b hb;have:=WS.low h e;omega) p.c (h.re p hp)
  · have:=Dt.own_keep hown k2 (fun j hj e=>hb'X (by rw[hj,e]))
    rw[List.length_append,show ints (bd++[x])=ints bd++[.int .i64 x]by unfold ints;simp];exact this
  · exact(hrv k e).elim (fun e=>h.nn k hk e) (fun h2=>by have:=(Dt.own_lt h.rp k hk).2;omega)
theorem RW.pushP{G:Nat→Prop}{w wA w5:World}{base X g cap:Nat}{e:Int}{opn:Bool}{pv bv:Value}{ps:List PC}{bd:List Int}{p:PC}{zs:List Value}(h:RW G w base X e opn pv bv ps bd)(hG:∀k,G k→k<base)(hA:Below w.heap.size w wA)(hz:zs.length=11)(hp:p.rep G w)
    (hown:w5.ownsRow base 28 11 (.slice (some ⟨g,0,none⟩) (ps.length+1) cap) (ps.length+1) (flatC ps++zs)) (hg:wA.grownBy w5 pv.ownBlock) (hat:pv.ownBlock=some g∨g=wA.heap.size):
    RW G ((w5.setCells g (ps.length*11) p.cells).setCell ⟨X,0,none⟩ (.slice (some ⟨g,0,none⟩) (ps.length+1) cap)) base X e opn (.slice (some ⟨g,0,none⟩) (ps.length+1) cap) bv (ps++[p]) bd∧Keep (WS X pv bv) w ((w5.setCells g (ps.length*11) p.cells).setCell ⟨X,0,none⟩ (.slice (some ⟨g,0,none⟩) (ps.length+1) cap))∧RV w pv (.slice (some ⟨g,0,none⟩) (ps.length+1) cap):=by
  have k1:=grown_keep2 hA hg;have h1:=own_putAll p.cells zs (flatC ps) w5 (by rw[hz];rfl) hown;rw[flatC_length,putAll_eq]at h1;have k2:=setCells_keep g p.cells w5 (ps.length*11);obtain⟨w6,hw6⟩:∃w6,w5.setCells g (ps.length*11) p.cells=w6:=⟨_,rfl⟩
  rw[hw6]at h1 k2 ⊢;have k3:=set_keep w6 X 0 (.slice (some ⟨g,0,none⟩) (ps.length+1) cap);have hs:=hA.size;have hX:=h.hp.lt;have hgX:g≠X:=fun e=>hat.elim (fun h2=>h.np (by rw[h2,e])) (fun h2=>by omega)
  have hrv:RV w pv (.slice (some ⟨g,0,none⟩) (ps.length+1) cap):=fun k hk=>by
    have e:g=k:=by simpa[Value.ownBlock]using hk
    exact hat.elim (fun h2=> .inl (by rw[h2,e])) (fun h2=> .inr (by omega))
  have hp6:Hp w6 X #[pv,bv,.int .i64 e,.bool opn] 66:=(h.hp.keep k1 h.np).keep k2 (fun e=>hgX e.symm);have k12:Keep (WS X pv bv) w (w6.setCell ⟨X,0,none⟩ (.slice (some ⟨g,0,none⟩) (ps.length+1) cap)):=by
    refine Keep.mono (((k1.le (T:=fun k=>WS X pv bv k∨k=g) fun k e=> .inl (.inr (.inl e))).trans (k2.le fun k e=> .inr e)).trans (k3.le fun k e=> .inl (.inl e))) (fun k hk e=> ?_);rcases e with e|e
    · exact e
    · exact hat.elim (fun h2=> .inr (.inl (by rw[h2,e]))) (fun h2=>by omega)
  have hnb:∀k,(Value.slice (some ⟨g,0,none⟩) (ps.length+1) cap).ownBlock=some k→bv.ownBlock≠some k:=fun k hk e=>
    (hrv k hk).elim (fun h2=>h.nn k h2 e) (fun h2=>by have:=(Dt.own_lt h.rb k e).2;omega)
  refine⟨⟨hp6.set 0 _,?_,fun q hq=> ?_,?_,h.bx,fun e=> ?_,h.nb,hnb⟩,k12,hrv⟩
  · rw[List.length_append,flatC_app]
    exact Dt.own_keep h1 k3 (fun j hj e => by have e2 : g = j := by simpa [Value.ownBlock] using hj
                                              omega)
  · have hr:q.rep G w:=by
      rcases List.mem_append.1 hq with hq|hq
      · exact h.re q hq
      · obtain rfl:q=p:=by simpa using hq
        exact hp
    exact Rep.keep k12 (fun b hb hl e=>by have:=hG b hb;have:=WS.low h e;omega) q.c hr
  · refine Dt.own_keep (Dt.own_keep (Dt.own_keep h.rb k1 (fun j hj e=>h.nn j e hj)) k2 (fun j hj e=>hnb j (by rw[e];rfl) hj)) k3 (fun j hj e=>h.nb (by rw[hj,e]))
  · have e:g=X:=by simpa[Value.ownBlock]using e
    exact hgX e
theorem RW.ib{G:Nat→Prop}{w:World}{base X:Nat}{e:Int}{opn:Bool}{pv bv:Value}{ps:List PC}{bd:List Int}(h:RW G w base X e opn pv bv ps bd):Dt.IRow (fun k=>base≤k) w bv bd:=Dt.IRow.of_own h.rb
def RPost(G:Nat→Prop)(base X:Nat)(opn:Bool)(pv bv:Value)(w:World)(c:C)(deep:Nat)(win:List Int)(top:Bool)(ps:List PC)(bd:List Int)(er:Int)(e:Ending)(w':World):Prop:=
  e= .returned (.tuple #[])∧∃e' pv' bv' ps' bd',RW G w' base X e' opn pv' bv' ps' bd'∧Keep (WS X pv bv) w w'∧RV w pv pv'∧RV w bv bv'∧(er≠0→e'=er)∧(er=0→e'=(goes opn c deep win top ps.length bd).1∧(e'=0→ps'.map PC.c=ps.map PC.c++parts c∧goes opn c deep win top ps.length bd=(0,ps'.length,bd')∧bd'.length≤1000000+32*ps'.length∧ps'.length≤8192))
def RGoesIs(c:C):Prop:=∀(G G2:Nat→Prop) (base X:Nat) (opn:Bool) (pv bv vm vl vt vp vk iv:Value) (ps:List PC) (bd win:List Int) (w:World) (deep:Nat) (top:Bool) (er:Int),
  Wf c→Rep G w c vm vl vt vp vk→(∀k,G k→k<base)→RW G w base X er opn pv bv ps bd→Dt.IRow G2 w iv win→(∀k,G2 k→k<w.heap.size→¬WS X pv bv k)→win.length≤1000000+32*deep→deep≤129→(er=0→bd.length≤1000000+32*ps.length∧ps.length≤8192)→
  Calls Tryz.prog 37 #[.pointer (some ⟨X,0,none⟩),V c vm vl vt vp vk,.int .i64 (deep:Int),iv,.bool top] w (RPost G base X opn pv bv w c deep win top ps bd er)
end Co
end Go.Proofs.YtfjmlfbohenmfaaGreat
namespace Go.Proofs.YtfjmlfbohenmfaaGreat
open Go.RowKit
attribute [local go_sem] Oper.semAt_some
namespace Co
theorem src1p{w wD:World}{a:Value}{t:TypeId}(hw:w.alloc (.cells #[a] t)=wD):Ap.Src wD (.slice (some ⟨w.heap.size,0,none⟩) 1 1) 1 [a]:=
 .inr ⟨_,_,rfl,fun z u hu=>by
  rw[Addr.add_mid,Nat.zero_add];have h2:#[a][z]?=some u:=by rw[←hu];simp
  exact(Hp.new hw).cell z h2⟩
def PutAt(l:List Int)(n:Int)(i:Nat)(done:Bool)(out:List Int):Prop:=if done then out++l.drop i=put l n else(∀x∈l.take i,x<n)∧out=l.take i
theorem put_skip:∀(l:List Int) (n:Int) (i:Nat),(∀x∈l.take i,x<n)→put l n=l.take i++put (l.drop i) n
 |[],n,i,_=>by simp
 |a :: r,n,0,_=>by simp
 |a :: r,n,i+1,h=>by
  have h1:a<n:=h a (by simp);rw[put,if_neg (by omega),if_neg (by omega),List.take_succ_cons,List.drop_succ_cons,put_skip r n i (fun x hx=>h x (by rw[List.take_succ_cons];exact List.mem_cons_of_mem _ hx))]
  rfl
theorem put_len(l:List Int)(n:Int):(put l n).length≤l.length+1:=by
 induction l with
 |nil=>simp[put]
 |cons a r ih=>
  rw[put];split
  ·simp
  split
  ·simp
  ·simp;omega
structure PInv(w:World)(l:List Int)(n:Int)(i:Nat)(done:Bool)(al:Option Addr)(m ql:Nat)(wx:World):Prop where
 row:∃out,m=out.length∧wx.ownsRow w.heap.size 3 1 (.slice al m ql) m (ints out)∧PutAt l n i done out∧m≤i+1
 bl:Below w.heap.size w wx
theorem own_snoc{w:World}{base n:Nat}{v:Value}{out:List Int}{x:Int}(h:w.ownsRow base 3 1 v n (ints out++[.int .i64 x])):w.ownsRow base 3 1 v n (ints (out++[x])):=by
 unfold ints at h ⊢;rw[List.map_append];exact h
theorem grown_bl{w wx wA w5:World}{al:Option Addr}{m ql:Nat}{xs:List Value}(hbl:Below w.heap.size w wx)(ho:wx.ownsRow w.heap.size 3 1 (.slice al m ql) m xs)(hA:Below wx.heap.size wx wA)(hg:wA.grownBy w5 (Value.slice al m ql).ownBlock):Below w.heap.size w w5:=
 hbl.trans ((grown_keep2 hA hg).to_below (fun k e=>(Dt.own_lt ho k e).1) hbl.size)
end Co
theorem putR_any{F:Nat→Prop}(v:Value)(l:List Int)(n:Int)(w:World)(h:Dt.IRow F w v l)(hl:l.length≤1000000):
  Calls Tryz.prog 55 #[v,.int .i64 n] w fun e w'=>∃v',e= .returned v'∧Dt.IRow (fun k=>w.heap.size≤k) w' v' (Co.put l n)∧Below w.heap.size w w':=by
 obtain⟨a,c,rfl,hlc,hpt⟩:=h;have h:Dt.IRow F w (.slice a l.length c) l:=⟨a,c,rfl,hlc,hpt⟩
 obtain⟨j0,hj,hj0,hj1,hj2⟩:=info_parts Dt.infoI;have HJ:=zh hj;have HJ0:=zh hj0;have HJ1:=zh hj1;have HJ2:=zh hj2;have HI:=zh h;have HINV:Hid (Co.PInv w l n 0 false none 0 0 w):=⟨⟨[],rfl,World.ownsRow_nil _ _ _ _,by unfold Co.PutAt;rw[if_neg (by simp)];simp,by omega⟩,Below.refl _ _⟩
 clear hj hj0 hj1 hj2 h hpt hlc;go_enter Tryz.func55,Tryz.ntmps55;go_wp2
 go_loopw [5,6,7] (fun v5 v6 v7 wr=>∃(i m ql:Nat) (al:Option Addr) (dn:Bool),v5= .slice al m ql∧v6= .bool dn∧v7= .int .i64 i∧i≤l.length∧Hid (Co.PInv w l n i dn al m ql wr)) (fun _ _ v7 _=>l.length - (intOf v7).toNat)
 case atStart=>exact⟨0,0,0,none,false,rfl,rfl,rfl,by omega,HINV⟩
 case round=>
  clear HINV;obtain⟨i,m,ql,al,dn,rfl,rfl,rfl,hi,HP⟩:=hrel;obtain⟨out,hm,hown,hput,hmi⟩:=HP.out.row;subst hm;have HO:=zh hown;have HPU:=zh hput;have HB:=zh HP.out.bl;have HWS:Hid (w.heap.size≤wr.heap.size):=HB.out.size;clear hown hput;by_cases hlt:i<l.length
  case neg=>
   have hge:(l.length:Int)≤(i:Int):=by omega
   obtain rfl:i=l.length:=by omega
   cases dn with
   |true=>
    have HF:Hid (Dt.IRow (fun k=>w.heap.size≤k) wr (.slice al out.length ql) (Co.put l n)):=by
     have h:=HPU.out;unfold Co.PutAt at h;rw[if_pos rfl,List.drop_length,List.append_nil]at h;rw[←h];exact Dt.IRow.of_own HO.out
    go_wp2;go_ret;exact⟨_,rfl,HF.out,HB.out⟩
   |false=>
    have HE:Hid (Co.put l n=out++[n]):=by
     have h:=HPU.out;unfold Co.PutAt at h;rw[if_neg (by simp),List.take_length]at h;show _=_;rw[Co.put_skip l n l.length (by rw[List.take_length];exact h.1),List.take_length,List.drop_length,h.2,Co.put]
    have hWA:wr.alloc (.cells #[.int .i64 n] 3)=wr.alloc (.cells #[.int .i64 n] 3):=rfl;obtain⟨hbA,hsA⟩:=new_below hWA;have HS:Hid (Ap.Src (wr.alloc (.cells #[.int .i64 n] 3)) (.slice (some ⟨wr.heap.size,0,none⟩) 1 1) 1 [.int .i64 n]):=Co.src1p hWA;have HRO:Hid ((wr.alloc (.cells #[.int .i64 n] 3)).ownsRow w.heap.size 3 1 (.slice al out.length ql) out.length (Co.ints out)):=Dt.own_keep (S:=fun _=>False) HO.out (keep_of_below hbA) (fun _ _ h=>h);have HBA:=zh hbA;have HSZ:Hid (w.heap.size≤(wr.alloc (.cells #[.int .i64 n] 3)).heap.size):=by have h1:=hbA.size;have h2:=HWS.out;show w.heap.size≤_;omega
    clear hWA hbA hsA;have hm1:out.length+1≤maxLen:=by unfold maxLen;omega
    have hm2:(out.length+1)*8≤140737488355328:=by omega
    go_wp2_with(at_builtin;refine Ap.list rfl _ _ 22 rfl w.heap.size 3 j0 (.int .i64 0) 1 8 Tryz.underlying22 HJ.out HJ0.out HJ1.out HJ2.out rfl (by decide) (.slice al out.length ql) out.length (Co.ints out) rfl HRO.out (.slice (some ⟨wr.heap.size,0,none⟩) 1 1) 1 [.int .i64 n] rfl HS.out rfl (by simp[Value.oneCell']) hm1 hm2 HSZ.out ?_;intro v' w5 hown hg hat;obtain⟨al',ql',rfl⟩:=Dt.row_form hown;have HOWN:=zh hown;have HGR:=zh hg;have HAT:=zh hat;clear hown hg hat)
    have HF:Hid (Dt.IRow (fun k=>w.heap.size≤k) w5 (.slice al' (out.length+1) ql') (Co.put l n)∧Below w.heap.size w w5):=by
     refine⟨?_,Co.grown_bl HB.out HO.out HBA.out HGR.out⟩;rw[HE.out];refine Dt.IRow.of_own ?_;rw[List.length_append,List.map_append];exact HOWN.out
    go_wp2;go_ret;exact⟨_,rfl,HF.out.1,HF.out.2⟩
  have hlti:(i:Int)<(l.length:Int):=by omega
  have hI2:=HI.out.keep (S:=fun _=>False) (keep_of_below HB.out) (fun _ _ _ h=>h);obtain⟨_,_,he,_,hrow⟩:=hI2;injection he with he1 he2 he3
  subst he1;clear he2 he3;obtain⟨pb,po,rfl,hGp,hbl,hcell⟩:=hrow (by intro h0;rw[h0]at hlt;simp at hlt);have p0:=hcell i hlt;obtain⟨x,hx⟩:∃x,l[i]=x:=⟨_,rfl⟩
  rw[hx]at p0;have HXX:=zh hx;clear hrow hcell hx hGp hbl
  cases dn with
  |true=>
   have hWA:wr.alloc (.cells #[.int .i64 x] 3)=wr.alloc (.cells #[.int .i64 x] 3):=rfl;obtain⟨hbA,hsA⟩:=new_below hWA;have HS:Hid (Ap.Src (wr.alloc (.cells #[.int .i64 x] 3)) (.slice (some ⟨wr.heap.size,0,none⟩) 1 1) 1 [.int .i64 x]):=Co.src1p hWA;have HRO:Hid ((wr.alloc (.cells #[.int .i64 x] 3)).ownsRow w.heap.size 3 1 (.slice al out.length ql) out.length (Co.ints out)):=Dt.own_keep (S:=fun _=>False) HO.out (keep_of_below hbA) (fun _ _ h=>h);have HBA:=zh hbA;have HSZ:Hid (w.heap.size≤(wr.alloc (.cells #[.int .i64 x] 3)).heap.size):=by have h1:=hbA.size;have h2:=HWS.out;show w.heap.size≤_;omega
   clear hWA hbA hsA;have hm1:out.length+1≤maxLen:=by unfold maxLen;omega
   have hm2:(out.length+1)*8≤140737488355328:=by omega
   go_wp2_with(at_builtin;refine Ap.list rfl _ _ 22 rfl w.heap.size 3 j0 (.int .i64 0) 1 8 Tryz.underlying22 HJ.out HJ0.out HJ1.out HJ2.out rfl (by decide) (.slice al out.length ql) out.length (Co.ints out) rfl HRO.out (.slice (some ⟨wr.heap.size,0,none⟩) 1 1) 1 [.int .i64 x] rfl HS.out rfl (by simp[Value.oneCell']) hm1 hm2 HSZ.out ?_;intro v' w5 hown hg hat;obtain⟨al',ql',rfl⟩:=Dt.row_form hown;have HOWN:=zh hown;have HGR:=zh hg;have HAT:=zh hat;clear hown hg hat)
   have HB5:=zh (Co.grown_bl HB.out HO.out HBA.out HGR.out);have HOWN2:Hid (w5.ownsRow w.heap.size 3 1 (.slice al' (out.length+1) ql') (out.length+1) (Co.ints (out++[x]))):=by
    have h:=HOWN.out;unfold Co.ints at h ⊢;rw[List.map_append];exact h
   clear p0;have HN:Hid (Co.PInv w l n (i+1) true al' (out.length+1) ql' w5):=by
    refine⟨⟨out++[x],by rw[List.length_append];rfl,HOWN2.out,?_,by omega⟩,HB5.out⟩;have h:=HPU.out;unfold Co.PutAt at h ⊢;rw[if_pos rfl]at h ⊢;rw[List.drop_eq_getElem_cons hlt,HXX.out]at h;rw[←h];simp
   go_wp2;go_roundw
   case rel=>exact⟨i+1,_,ql',al',true,rfl,rfl,by simp,by omega,HN⟩
   case measure=>simp[intOf];omega
  |false=>
   have hpu:(∀y∈l.take i,y<n)∧out=l.take i:=by
    have h:=HPU.out;unfold Co.PutAt at h;rw[if_neg (by simp)]at h;exact h
   have HPP:=zh hpu;clear hpu;have hoi:out.length≤i:=by rw[HPP.out.2,List.length_take];omega
   by_cases hle:n≤x
   case neg=>
    have hb:decide (n≤x)=false:=decide_eq_false hle;have hWA:wr.alloc (.cells #[.int .i64 x] 3)=wr.alloc (.cells #[.int .i64 x] 3):=rfl;obtain⟨hbA,hsA⟩:=new_below hWA;have HS:Hid (Ap.Src (wr.alloc (.cells #[.int .i64 x] 3)) (.slice (some ⟨wr.heap.size,0,none⟩) 1 1) 1 [.int .i64 x]):=Co.src1p hWA;have HRO:Hid ((wr.alloc (.cells #[.int .i64 x] 3)).ownsRow w.heap.size 3 1 (.slice al out.length ql) out.length (Co.ints out)):=Dt.own_keep (S:=fun _=>False) HO.out (keep_of_below hbA) (fun _ _ h=>h);have HBA:=zh hbA;have HSZ:Hid (w.heap.size≤(wr.alloc (.cells #[.int .i64 x] 3)).heap.size):=by have h1:=hbA.size;have h2:=HWS.out;show w.heap.size≤_;omega
    clear hWA hbA hsA;have hm1:out.length+1≤maxLen:=by unfold maxLen;omega
    have hm2:(out.length+1)*8≤140737488355328:=by omega
    go_wp2_with(at_builtin;refine Ap.list rfl _ _ 22 rfl w.heap.size 3 j0 (.int .i64 0) 1 8 Tryz.underlying22 HJ.out HJ0.out HJ1.out HJ2.out rfl (by decide) (.slice al out.length ql) out.length (Co.ints out) rfl HRO.out (.slice (some ⟨wr.heap.size,0,none⟩) 1 1) 1 [.int .i64 x] rfl HS.out rfl (by simp[Value.oneCell']) hm1 hm2 HSZ.out ?_;intro v' w5 hown hg hat;obtain⟨al',ql',rfl⟩:=Dt.row_form hown;have HOWN:=zh hown;have HGR:=zh hg;have HAT:=zh hat;clear hown hg hat)
    have HB5:=zh (Co.grown_bl HB.out HO.out HBA.out HGR.out);have HOWN2:Hid (w5.ownsRow w.heap.size 3 1 (.slice al' (out.length+1) ql') (out.length+1) (Co.ints (out++[x]))):=by
     have h:=HOWN.out;unfold Co.ints at h ⊢;rw[List.map_append];exact h
    clear p0;have HN:Hid (Co.PInv w l n (i+1) false al' (out.length+1) ql' w5):=by
     refine⟨⟨out++[x],by rw[List.length_append];rfl,HOWN2.out,?_,by omega⟩,HB5.out⟩;unfold Co.PutAt;rw[if_neg (by simp),List.take_succ_eq_append_getElem hlt,HXX.out,←HPP.out.2];refine⟨fun y hy=> ?_,rfl⟩;rcases List.mem_append.1 hy with hy|hy
     ·exact HPP.out.1 y (by rw[←HPP.out.2];exact hy)
     ·obtain rfl:y=x:=by simpa using hy
      omega
    go_wp2;go_roundw
    case rel=>exact⟨i+1,_,ql',al',false,rfl,rfl,by simp,by omega,HN⟩
    case measure=>simp[intOf];omega
   have hb:decide (n≤x)=true:=decide_eq_true hle;by_cases hlx:n<x
   ·have hb2:decide (n<x)=true:=decide_eq_true hlx;have HCELL:Hid (∀w4,Below w.heap.size w w4→w4.cell? ⟨pb,po+i,none⟩=some (.int .i64 x)):=fun w4 hb=>by
     have hk:=(HI.out.keep (S:=fun _=>False) (keep_of_below hb) (fun _ _ _ h=>h))
     obtain⟨_,_,he,_,hrow⟩:=hk;injection he with he1 he2 he3
     obtain⟨pb',po',e,hGp,hbl,hcell⟩:=hrow (by intro h0;rw[h0]at hlt;simp at hlt);rw[←he1]at e;cases e;rw[←HXX.out];exact hcell i hlt
    have hWA:wr.alloc (.cells #[.int .i64 n] 3)=wr.alloc (.cells #[.int .i64 n] 3):=rfl;obtain⟨hbA,hsA⟩:=new_below hWA;have HS:Hid (Ap.Src (wr.alloc (.cells #[.int .i64 n] 3)) (.slice (some ⟨wr.heap.size,0,none⟩) 1 1) 1 [.int .i64 n]):=Co.src1p hWA;have HRO:Hid ((wr.alloc (.cells #[.int .i64 n] 3)).ownsRow w.heap.size 3 1 (.slice al out.length ql) out.length (Co.ints out)):=Dt.own_keep (S:=fun _=>False) HO.out (keep_of_below hbA) (fun _ _ h=>h);have HBA:=zh hbA;have HSZ:Hid (w.heap.size≤(wr.alloc (.cells #[.int .i64 n] 3)).heap.size):=by have h1:=hbA.size;have h2:=HWS.out;show w.heap.size≤_;omega
    clear hWA hbA hsA;have hm1:out.length+1≤maxLen:=by unfold maxLen;omega
    have hm2:(out.length+1)*8≤140737488355328:=by omega
    go_wp2_with(first|(at_builtin;refine Ap.list rfl _ _ 22 rfl w.heap.size 3 j0 (.int .i64 0) 1 8 Tryz.underlying22 HJ.out HJ0.out HJ1.out HJ2.out rfl (by decide) (.slice al out.length ql) out.length (Co.ints out) rfl HRO.out (.slice (some ⟨wr.heap.size,0,none⟩) 1 1) 1 [.int .i64 n] rfl HS.out rfl (by simp[Value.oneCell']) hm1 hm2 HSZ.out ?_;intro v' w4 hown hg hat;obtain⟨al',ql',rfl⟩:=Dt.row_form hown;have HOWN:=zh hown;have HGR:=zh hg;have HAT:=zh hat;have HOWN4:Hid (w4.ownsRow w.heap.size 3 1 (.slice al' (out.length+1) ql') (out.length+1) (Co.ints (out++[n]))):=Co.own_snoc hown;have HB4:Hid (Below w.heap.size w w4):=Co.grown_bl HB.out HO.out HBA.out hg;have p4:=HCELL.out _ HB4.out;clear hown hg hat p0 HS HRO HBA HSZ HOWN HGR HAT hm1 hm2;have hWA:(w4.alloc (.cells #[.int .i64 x] 3))=(w4.alloc (.cells #[.int .i64 x] 3)):=rfl;obtain⟨hbA,hsA⟩:=new_below hWA;have HS2:Hid (Ap.Src (w4.alloc (.cells #[.int .i64 x] 3)) (.slice (some ⟨w4.heap.size,0,none⟩) 1 1) 1 [.int .i64 x]):=Co.src1p hWA;have HRO2:Hid ((w4.alloc (.cells #[.int .i64 x] 3)).ownsRow w.heap.size 3 1 (.slice al' (out.length+1) ql') (out.length+1) (Co.ints (out++[n]))):=Dt.own_keep (S:=fun _=>False) HOWN4.out (keep_of_below hbA) (fun _ _ h=>h);have HBA2:=zh hbA;have HSZ2:Hid (w.heap.size≤(w4.alloc (.cells #[.int .i64 x] 3)).heap.size):=zh (Nat.le_trans HB4.out.size hbA.size);clear hWA hbA hsA;have hn1:out.length+1+1≤maxLen:=(by unfold maxLen;omega);have hn2:(out.length+1+1)*8≤140737488355328:=(by omega))|(at_builtin;refine Ap.list rfl _ _ 22 rfl w.heap.size 3 j0 (.int .i64 0) 1 8 Tryz.underlying22 HJ.out HJ0.out HJ1.out HJ2.out rfl (by decide) (.slice al' (out.length+1) ql') (out.length+1) (Co.ints (out++[n])) rfl HRO2.out (.slice (some ⟨w4.heap.size,0,none⟩) 1 1) 1 [.int .i64 x] rfl HS2.out rfl (by simp[Value.oneCell']) hn1 hn2 HSZ2.out ?_;intro v' w5 hown hg hat;obtain⟨al5,ql5,rfl⟩:=Dt.row_form hown;have HOWN:=zh hown;have HGR:=zh hg;have HAT:=zh hat;clear hown hg hat p4))
    have HB5:=zh (Co.grown_bl HB4.out HOWN4.out HBA2.out HGR.out);have HOWN2:Hid (w5.ownsRow w.heap.size 3 1 (.slice al5 (out.length+1+1) ql5) (out.length+1+1) (Co.ints (out++[n]++[x]))):=by
     have h:=HOWN.out;unfold Co.ints at h ⊢;rw[List.map_append (l₁:=out++[n])];exact h
    have HN:Hid (Co.PInv w l n (i+1) true al5 (out.length+1+1) ql5 w5):=by
     refine⟨⟨out++[n]++[x],by rw[List.length_append,List.length_append];rfl,HOWN2.out,?_,by omega⟩,HB5.out⟩;unfold Co.PutAt;rw[if_pos rfl,Co.put_skip l n i HPP.out.1,←HPP.out.2,List.drop_eq_getElem_cons hlt,HXX.out,Co.put,if_pos hlx];simp
    go_wp2;go_roundw
    case rel=>exact⟨i+1,_,ql5,al5,true,rfl,rfl,by simp,by omega,HN⟩
    case measure=>simp[intOf];omega
   ·have hb2:decide (n<x)=false:=decide_eq_false hlx;have hWA:wr.alloc (.cells #[.int .i64 x] 3)=wr.alloc (.cells #[.int .i64 x] 3):=rfl;obtain⟨hbA,hsA⟩:=new_below hWA;have HS:Hid (Ap.Src (wr.alloc (.cells #[.int .i64 x] 3)) (.slice (some ⟨wr.heap.size,0,none⟩) 1 1) 1 [.int .i64 x]):=Co.src1p hWA;have HRO:Hid ((wr.alloc (.cells #[.int .i64 x] 3)).ownsRow w.heap.size 3 1 (.slice al out.length ql) out.length (Co.ints out)):=Dt.own_keep (S:=fun _=>False) HO.out (keep_of_below hbA) (fun _ _ h=>h);have HBA:=zh hbA;have HSZ:Hid (w.heap.size≤(wr.alloc (.cells #[.int .i64 x] 3)).heap.size):=by have h1:=hbA.size;have h2:=HWS.out;show w.heap.size≤_;omega
    clear hWA hbA hsA;have hm1:out.length+1≤maxLen:=by unfold maxLen;omega
    have hm2:(out.length+1)*8≤140737488355328:=by omega
    go_wp2_with(at_builtin;refine Ap.list rfl _ _ 22 rfl w.heap.size 3 j0 (.int .i64 0) 1 8 Tryz.underlying22 HJ.out HJ0.out HJ1.out HJ2.out rfl (by decide) (.slice al out.length ql) out.length (Co.ints out) rfl HRO.out (.slice (some ⟨wr.heap.size,0,none⟩) 1 1) 1 [.int .i64 x] rfl HS.out rfl (by simp[Value.oneCell']) hm1 hm2 HSZ.out ?_;intro v' w5 hown hg hat;obtain⟨al',ql',rfl⟩:=Dt.row_form hown;have HOWN:=zh hown;have HGR:=zh hg;have HAT:=zh hat;clear hown hg hat)
    have HB5:=zh (Co.grown_bl HB.out HO.out HBA.out HGR.out);have HOWN2:Hid (w5.ownsRow w.heap.size 3 1 (.slice al' (out.length+1) ql') (out.length+1) (Co.ints (out++[x]))):=by
     have h:=HOWN.out;unfold Co.ints at h ⊢;rw[List.map_append];exact h
    clear p0;have HN:Hid (Co.PInv w l n (i+1) true al' (out.length+1) ql' w5):=by
     refine⟨⟨out++[x],by rw[List.length_append];rfl,HOWN2.out,?_,by omega⟩,HB5.out⟩;unfold Co.PutAt;rw[if_pos rfl,Co.put_skip l n i HPP.out.1,←HPP.out.2,List.drop_eq_getElem_cons hlt,HXX.out,Co.put,if_neg hlx,if_pos (by omega)];simp
    go_wp2;go_roundw
    case rel=>exact⟨i+1,_,ql',al',true,rfl,rfl,by simp,by omega,HN⟩
    case measure=>simp[intOf];omega
namespace Co
open Dt (D)
theorem dwfs_app:∀ {a b:List D},Dt.Wfs a→Dt.Wfs b→Dt.Wfs (a++b)
 |[],_,_,h=>h
 |d :: r,b,h1,h2=>by
  rw[Dt.Wfs]at h1;rw[List.cons_append,Dt.Wfs];exact⟨h1.1,dwfs_app h1.2 h2⟩
theorem wf_sym{s:ByteArray}(h:s.size≤140737488355328):Dt.Wf (symD s):=by
 unfold symD;simp only[Dt.Wf,Dt.Wfs];exact⟨by decide,h,by decide,by decide,by decide,trivial,trivial⟩
theorem wf_fix{n:Int}(h: -9223372036854775808≤n∧n≤9223372036854775807):Dt.Wf (fixD n):=by
 unfold fixD;simp only[Dt.Wf,Dt.Wfs];exact⟨h,by decide,by decide,by decide,by decide,trivial,trivial⟩
theorem wf_lst{l:List D}(h1:l.length≤140737488355328)(h2:Dt.Wfs l):Dt.Wf (lstD l):=by
 unfold lstD;simp only[Dt.Wf,Dt.Wfs];exact⟨by decide,by decide,by decide,h1,by decide,h2,trivial⟩
theorem wfs_fix:∀ {p:List Int},(∀x∈p,-9223372036854775808≤x∧x≤9223372036854775807)→Dt.Wfs (p.map fixD)
 |[],_=>by rw[List.map_nil,Dt.Wfs];trivial
 |x :: r,h=>by
  rw[List.map_cons,Dt.Wfs];exact⟨wf_fix (h x (List.mem_cons_self ..)),wfs_fix (fun y hy=>h y (List.mem_cons_of_mem _ hy))⟩
theorem word_size(k:Int):(⟨(fm k).1.toArray⟩:ByteArray).size≤6:=by
 by_cases h:1≤k∧k≤10
 ·obtain rfl|rfl|rfl|rfl|rfl|rfl|rfl|rfl|rfl|rfl:k=1∨k=2∨k=3∨k=4∨k=5∨k=6∨k=7∨k=8∨k=9∨k=10:=by omega
  all_goals decide
 ·unfold fm;rw[if_neg h];decide
theorem wordD_size(c:C):(wordD c).size≤7:=by
 unfold wordD;have:=word_size c.k;split
 ·rename_i h;rw[h.1];decide
 ·omega
theorem wf_body{c:C}(hW:Wf c):Dt.Wfs (bodyD c)∧(bodyD c).length≤1:=by
 obtain⟨h1,h2,h3,h4,h5,-,-⟩:=wf_parts hW;unfold bodyD;have one:∀d:D,Dt.Wf d→Dt.Wfs [d]∧[d].length≤1:=fun d h=>⟨by rw[Dt.Wfs,Dt.Wfs];exact⟨h,trivial⟩,Nat.le_refl _⟩
 split
 ·exact one _ h3
 ·split
  ·exact one _ (wf_fix h1)
  ·split
   ·exact one _ (wf_sym h2)
   ·split
    ·exact one _ (wf_lst (by rw[List.length_map];exact h4) (wfs_fix h5))
    ·exact⟨by rw[Dt.Wfs];trivial,Nat.zero_le _⟩
mutual
theorem tell_wf:∀c:C,Wf c→Snd c→Dt.Wf (tellD c)
 | .mk k n s d p l,hW,hS=>by
  have h8:=(snd_parts hS).2.1;obtain⟨g1,g2⟩:=tells_wf l (wf_parts hW).2.2.2.2.2.2 (snd_parts hS).2.2;obtain⟨h1,h2⟩:=wf_body hW;rw[tellD];refine wf_lst ?_ ?_
  ·rw[List.length_append,List.length_cons,g2];have:l.length≤8192:=h8;omega
  ·refine dwfs_app ?_ g1;rw[Dt.Wfs];exact⟨wf_sym (Nat.le_trans (wordD_size _) (by decide)),h1⟩
theorem tells_wf:∀l:List C,Wfs l→Snds l→Dt.Wfs (tellDs l)∧(tellDs l).length=l.length
 |[],_,_=>by rw[tellDs,Dt.Wfs];exact⟨trivial,rfl⟩
 |c :: r,hW,hS=>by
  rw[Wfs]at hW;rw[Snds]at hS;obtain⟨g1,g2⟩:=tells_wf r hW.2 hS.2;rw[tellDs,Dt.Wfs,List.length_cons,List.length_cons,g2];exact⟨⟨tell_wf c hW.1 hS.1,g1⟩,rfl⟩
end
def zeroD:D:= .mk 0 0 ⟨#[]⟩ [] [] []
def datumC(c:C):D×Int:=if outE c≠0 then(zeroD,outE c)else if Dt.check (tellD c)≠0 then(zeroD,Dt.check (tellD c))else(tellD c,0)
end Co
theorem coDatum_any{F:Nat→Prop}(c:Co.C)(vm vl vt vp vk:Value)(w:World)(hW:Co.Wf c)(hR:Co.Rep F w c vm vl vt vp vk):
  Calls Tryz.prog 29 #[Co.V c vm vl vt vp vk] w fun e w'=>∃um ul ut,e= .returned (.tuple #[.agg #[.int .i64 (Co.datumC c).1.k,.int .i64 (Co.datumC c).1.n,.string (Co.datumC c).1.s,um,ul,ut],.int .i64 (Co.datumC c).2])∧Dt.Rep (fun k=>w.heap.size≤k) w' (Co.datumC c).1 um ul ut∧Below w.heap.size w w':=by
 unfold Co.V;obtain⟨b1,n1,q1,b2,n2,q2,b3,n3,q3,b4,n4,q4,b5,n5,q5,rfl,rfl,rfl,rfl,rfl⟩:=hR.forms5;obtain⟨w1,hw1⟩:∃w1,w.alloc (.cells #[.int .i64 c.k,.int .i64 c.n,.string c.s,.int .i64 c.d.k,.int .i64 c.d.n,.string c.d.s,.slice b1 n1 q1,.slice b2 n2 q2,.slice b3 n3 q3,.slice b4 n4 q4,.slice b5 n5 q5] 28)=w1:=⟨_,rfl⟩
 obtain⟨w2,hw2⟩:∃w2,w1.alloc (.cells #[.int .i64 0,.int .i64 0,.string ⟨#[]⟩,.slice none 0 0,.slice none 0 0,.slice none 0 0] 25)=w2:=⟨_,rfl⟩
 obtain⟨hb1,hs1⟩:=new_below hw1;obtain⟨hb2,hs2⟩:=new_below hw2;have Hc:Hid (Hp w2 w.heap.size _ _):=(Hp.new hw1).below hb2;have hr2:=Hp.new hw2;obtain⟨R0,hR0⟩:∃R0,w1.heap.size=R0:=⟨_,rfl⟩
 rw[hR0]at hr2 hs1 hs2;have Hr:=zh hr2;have hb12:=btr hb1 hb2;have HR0:Hid (R0=w.heap.size+1∧w2.heap.size=R0+1):=⟨hs1,hs2⟩
 have ho:=outC_any c _ _ _ _ _ w2 hW (hR.below hb12);unfold Co.V at ho;obtain⟨E,hE⟩:∃E,Co.outE c=E:=⟨_,rfl⟩
 rw[hE]at ho;have HE:=zh hE;have HB12:=zh hb12;have HRR:=zh (hR.below hb12);have HW:=zh hW;obtain⟨c0,c1,c2,c3,c4,c5,c6,c7,c8,c9,c10⟩:=Hc.out.c11;clear hb1 hb2 hs1 hs2 hb12 hr2 hE hR hW;have HZERO:Hid (∀(wx:World) (er:Int),Below w2.heap.size w2 wx→Co.datumC c=(Co.zeroD,er)→∃um ul ut,(Ending.returned (.tuple #[.agg #[.int .i64 0,.int .i64 0,.string ⟨#[]⟩,.slice none 0 0,.slice none 0 0,.slice none 0 0],.int .i64 er]))= .returned (.tuple #[.agg #[.int .i64 (Co.datumC c).1.k,.int .i64 (Co.datumC c).1.n,.string (Co.datumC c).1.s,um,ul,ut],.int .i64 (Co.datumC c).2])∧Dt.Rep (fun k=>w.heap.size≤k) (set6 wx R0 (.int .i64 0) (.int .i64 0) (.string ⟨#[]⟩) (.slice none 0 0) (.slice none 0 0) (.slice none 0 0)) (Co.datumC c).1 um ul ut∧Below w.heap.size w (set6 wx R0 (.int .i64 0) (.int .i64 0) (.string ⟨#[]⟩) (.slice none 0 0) (.slice none 0 0) (.slice none 0 0))):=fun wx er hb e=>by
  rw[e];have k3:=set6_keep wx R0 (.int .i64 0) (.int .i64 0) (.string ⟨#[]⟩) (.slice none 0 0) (.slice none 0 0) (.slice none 0 0);exact⟨_,_,_,rfl,Co.rep_nil _ _ _ _ _,((btr HB12.out hb)).trans (k3.to_below (fun k e=>by have:=HR0.out;omega) (by have:=HB12.out.size;have:=hb.size;omega))⟩
 go_enter Tryz.func29,Tryz.ntmps29;go_wp2_with fail
 refine ho.mono ?_;rintro e w3 ⟨vf,rfl,-,hb3⟩;have HB3:=zh hb3;clear c0 c1 c2 c3 c4 c5 c6 c7 c8 c9 c10;clear ho hb3 hw1 hw2;by_cases hz:E=0
 case neg=>
  have hzb:(E !=0)=true:=by simpa using hz
  have HF:=zh (HZERO.out w3 E HB3.out (by unfold Co.datumC;rw[HE.out,if_pos hz]));have Hr3:=zh (Hr.out.below HB3.out);obtain⟨z0,z1,z2,z3,z4,z5⟩:=Hr3.out.c6;have zf0:=Hr3.out.frz 0;have zf1:=Hr3.out.frz 1;have zf2:=Hr3.out.frz 2;have zf3:=Hr3.out.frz 3;have zf4:=Hr3.out.frz 4;have zf5:=Hr3.out.frz 5;clear hz HZERO;go_wp2;refine bodyPost_ret (v:= .tuple #[.agg #[.int .i64 0,.int .i64 0,.string ⟨#[]⟩,.slice none 0 0,.slice none 0 0,.slice none 0 0],.int .i64 E]) (by simp[results,Tryz.results29,go_sem, *]) rfl ?_;exact HF.out
 have hzb:(E !=0)=false:=by simpa using hz
 have HS:Hid (Co.Snd c):=(Co.all_ok (HE.out.trans hz)).2.2.2.2;have HWD:Hid (Dt.Wf (Co.tellD c)):=Co.tell_wf c HW.out HS.out;have hte:=coTell_any c F _ _ _ _ _ w3 HW.out HS.out (HRR.out.below HB3.out);unfold Co.V at hte;have Hc3:Hid (Hp w3 w.heap.size _ _):=Hc.out.below HB3.out;obtain⟨X,hX⟩:∃X,Co.tellD c=X:=⟨_,rfl⟩
 rw[hX]at hte HWD;have HX:=zh hX;clear hX;obtain⟨c0,c1,c2,c3,c4,c5,c6,c7,c8,c9,c10⟩:=Hc3.out.c11;go_wp2_with fail
 refine hte.mono ?_;rintro e w4 ⟨xm,xl,xt,rfl,hrx,hb4⟩;obtain⟨g1,m1,p1,g2,m2,p2,g3,m3,p3,rfl,rfl,rfl⟩:=hrx.forms;clear c0 c1 c2 c3 c4 c5 c6 c7 c8 c9 c10;have hW5:w4.alloc (.cells #[.int .i64 X.k,.int .i64 X.n,.string X.s,.slice g1 m1 p1,.slice g2 m2 p2,.slice g3 m3 p3] 25)=w4.alloc (.cells #[.int .i64 X.k,.int .i64 X.n,.string X.s,.slice g1 m1 p1,.slice g2 m2 p2,.slice g3 m3 p3] 25):=rfl;obtain⟨hb5,hs5⟩:=new_below hW5;have HD5:Hid (Hp (w4.alloc (.cells #[.int .i64 X.k,.int .i64 X.n,.string X.s,.slice g1 m1 p1,.slice g2 m2 p2,.slice g3 m3 p3] 25)) w4.heap.size _ _):=Hp.new hW5;have hck:=dCheck_any X _ _ _ _ HWD.out (hrx.below hb5);have HB5:Hid (Below w2.heap.size w2 (w4.alloc (.cells #[.int .i64 X.k,.int .i64 X.n,.string X.s,.slice g1 m1 p1,.slice g2 m2 p2,.slice g3 m3 p3] 25))):=by
  have h1:=HB3.out.size;have h2:=hb4.size;exact(HB3.out.trans (hb4.mono h1)).trans (hb5.mono (by omega))
 have HRX:=zh (hrx.below hb5);obtain⟨D,hD⟩:∃D,Dt.check X=D:=⟨_,rfl⟩
 rw[hD]at hck;have HDD:=zh hD;obtain⟨d0,d1,d2,d3,d4,d5⟩:=HD5.out.c6;clear hte hrx hb4 hb5 hs5 hW5 hD;go_wp2_with fail
 refine hck.mono ?_;rintro e w6 ⟨rfl,hb6⟩;clear d0 d1 d2 d3 d4 d5;have HB6:Hid (Below w2.heap.size w2 w6):=btr HB5.out hb6;have HD6:Hid (Hp w6 w4.heap.size _ _):=HD5.out.below hb6;have HRX6:=zh (HRX.out.below hb6);clear hck hb6;by_cases hy:D=0
 case neg=>
  have hyb:(D !=0)=true:=by simpa using hy
  have HF:=zh (HZERO.out w6 D HB6.out (by unfold Co.datumC;rw[HE.out,if_neg (by rw[hz];simp),HX.out,HDD.out,if_pos hy]));have Hr6:=zh (Hr.out.below HB6.out);obtain⟨z0,z1,z2,z3,z4,z5⟩:=Hr6.out.c6;have zf0:=Hr6.out.frz 0;have zf1:=Hr6.out.frz 1;have zf2:=Hr6.out.frz 2;have zf3:=Hr6.out.frz 3;have zf4:=Hr6.out.frz 4;have zf5:=Hr6.out.frz 5;clear hz hy HZERO;go_wp2;refine bodyPost_ret (v:= .tuple #[.agg #[.int .i64 0,.int .i64 0,.string ⟨#[]⟩,.slice none 0 0,.slice none 0 0,.slice none 0 0],.int .i64 D]) (by simp[results,Tryz.results29,go_sem, *]) rfl ?_;exact HF.out
 have hyb:(D !=0)=false:=by simpa using hy
 have hcl:=dClone_any X _ _ _ w6 HWD.out HRX6.out;rw[show Dt.clone X=X from if_pos (HDD.out.trans hy)]at hcl;have HM:Hid (Co.datumC c=(X,0)):=zh <| by unfold Co.datumC;rw[HE.out,if_neg (by rw[hz];simp),HX.out,HDD.out,if_neg (by rw[hy];simp)]
 obtain⟨d0,d1,d2,d3,d4,d5⟩:=HD6.out.c6;clear hz hy HZERO;go_wp2_with fail
 refine hcl.mono ?_;rintro e w7 ⟨⟨ym,yl,yt,rfl,hry⟩,hb7⟩;obtain⟨i1,j1,l1,i2,j2,l2,i3,j3,l3,rfl,rfl,rfl⟩:=hry.forms;clear d0 d1 d2 d3 d4 d5;have HB7:Hid (Below w2.heap.size w2 w7):=btr HB6.out hb7;have k3:=set6_keep w7 R0 (.int .i64 X.k) (.int .i64 X.n) (.string X.s) (.slice i1 j1 l1) (.slice i2 j2 l2) (.slice i3 j3 l3);have HF:Hid (Dt.Rep (fun k=>w.heap.size≤k) (set6 w7 R0 (.int .i64 X.k) (.int .i64 X.n) (.string X.s) (.slice i1 j1 l1) (.slice i2 j2 l2) (.slice i3 j3 l3)) X (.slice i1 j1 l1) (.slice i2 j2 l2) (.slice i3 j3 l3)∧Below w.heap.size w (set6 w7 R0 (.int .i64 X.k) (.int .i64 X.n) (.string X.s) (.slice i1 j1 l1) (.slice i2 j2 l2) (.slice i3 j3 l3))):=by
  have h0:=HR0.out;have h6:=HB6.out.size;have h7:=hb7.size;have h1:=HB12.out.size;refine⟨Dt.Rep.mono (fun b hb _=>by omega) X (Dt.Rep.keep k3 (fun b hb _ e=>by omega) X hry),(HB12.out.trans (HB7.out.mono h1)).trans (k3.to_below (fun k e=>by omega) (by omega))⟩
 have Hr7:=zh (Hr.out.below HB7.out);obtain⟨z0,z1,z2,z3,z4,z5⟩:=Hr7.out.c6;have zf0:=Hr7.out.frz 0;have zf1:=Hr7.out.frz 1;have zf2:=Hr7.out.frz 2;have zf3:=Hr7.out.frz 3;have zf4:=Hr7.out.frz 4;have zf5:=Hr7.out.frz 5;clear hcl hry hb7 k3;go_wp2;refine bodyPost_ret (v:= .tuple #[.agg #[.int .i64 X.k,.int .i64 X.n,.string X.s,.slice i1 j1 l1,.slice i2 j2 l2,.slice i3 j3 l3],.int .i64 0]) (by simp[results,Tryz.results29,go_sem, *]) rfl ?_;rw[HM.out];exact⟨_,_,_,rfl,HF.out.1,HF.out.2⟩
end Go.Proofs.YtfjmlfbohenmfaaGreat
