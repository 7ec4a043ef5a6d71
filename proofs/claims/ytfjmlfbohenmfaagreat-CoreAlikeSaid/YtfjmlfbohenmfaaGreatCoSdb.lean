/-
 shuttleref04's reader at simple words. (Printed by genCoSd.py, expanded by pp.py.)
-/
import Derived.Test.YtfjmlfbohenmfaaGreatCoreBBM8
import Derived.Test.YtfjmlfbohenmfaaGreatCoreBBM12
import Derived.StillTailTactics
import Derived.Test.YtfjmlfbohenmfaaGreatCoreBBM2
namespace Go.Proofs.YtfjmlfbohenmfaaGreat
open Go.RowKit
attribute [local go_sem] Oper.semAt_some
namespace Co
open Dt (D)
open Lx (PTok)
mutual
def rdD:Nat→List PTok→Option (D×List PTok)
 |0,_=>none
 |_+1,[]=>none
 | f + 1, t :: r => if t.t.k = 9 then some (fixD t.t.n, r) else if t.t.k = 13 then some (symD ⟨t.t.s.toArray⟩, r) else if t.t.k = 1 then (match rdL f r with
   |some q=>some (lstD q.1,q.2)
   |none=>none)else none
def rdL:Nat→List PTok→Option (List D×List PTok)
 |0,_=>none
 |_+1,[]=>none
 | f + 1, t :: r => if t.t.k = 2 then some ([], r) else (match rdD f (t :: r) with
   |some q=>(match rdL f q.2 with
    |some p=>some (q.1 :: p.1,p.2)
    |none=>none)
   |none=>none)
end
def RS(w:World)(P tb xc:Nat)(xs:List PTok)(n:Nat):Prop:=Hp w P #[.slice (some ⟨tb,0,none⟩) xs.length xc,.int .i64 (n:Int)] 142
def SPost2(P tb xc:Nat)(xs:List PTok)(w:World)(x:D)(rest:List PTok)(e:Ending)(w':World):Prop:=
 ∃vm vl vt pre,e= .returned (.tuple #[.agg #[.int .i64 x.k,.int .i64 x.n,.string x.s,vm,vl,vt],.int .i64 0,.int .i64 0])∧Dt.Rep (fun k=>w.heap.size≤k) w' x vm vl vt∧xs=pre++rest∧RS w' P tb xc xs pre.length∧Keep (fun k=>k=P) w w'
def SdIs(P tb xc:Nat)(xs:List PTok)(f:Nat):Prop:=∀(ts rest pre:List PTok) (x:D) (w:World),xs=pre++ts→rdD f ts=some (x,rest)→RS w P tb xc xs pre.length→Rd.Src w tb xs→tb≠P→
 Calls Tryz.prog 109 #[.pointer (some ⟨P,0,none⟩)] w (SPost2 P tb xc xs w x rest)
def SlIs(P tb xc:Nat)(xs:List PTok)(f:Nat):Prop:=∀(ts rest pre:List PTok) (l:List D) (t:PTok) (w:World),xs=pre++ts→rdL f ts=some (l,rest)→t.t.k=1→RS w P tb xc xs pre.length→Rd.Src w tb xs→tb≠P→
 Calls Tryz.prog 146 #[.pointer (some ⟨P,0,none⟩),.agg #[.int .i64 t.t.k,.int .i64 (t.at_:Int),.int .i64 (t.to:Int),.int .i64 t.t.n,.string ⟨t.t.s.toArray⟩]] w (SPost2 P tb xc xs w (lstD l) rest)
end Co
set_option maxRecDepth 100000 in
set_option maxHeartbeats 16000000 in
theorem coSd_step(P tb xc:Nat)(xs:List Lx.PTok)(hx4:xs.length≤1000000)(f:Nat)(hsl:Co.SlIs P tb xc xs f):Co.SdIs P tb xc xs (f+1):=by
 intro ts rest pre x w hxs hsd hRS hSrc hne
 cases ts with
 |nil=>rw[Co.rdD]at hsd;cases hsd
 |cons t r=>
 have hlen:xs.length=pre.length+(r.length+1):=by rw[hxs];simp
 have hlt:pre.length<xs.length:=by omega
 have htok:=hSrc.tok pre.length hlt;have hti:xs[pre.length]=t:=by simp[hxs]
 rw[hti]at htok;obtain⟨k0,k1,k2,k3,k4⟩:=htok;obtain⟨w1,hw1⟩:∃w1,w.alloc (.cells #[.int .i64 0,.int .i64 0,.string ⟨#[]⟩,.slice none 0 0,.slice none 0 0,.slice none 0 0] 25)=w1:=⟨_,rfl⟩
 obtain⟨hb1,hs1⟩:=new_below hw1;have HR1:=zh (Hp.new hw1);have HRS1:Hid (Hp w1 P #[.slice (some ⟨tb,0,none⟩) xs.length xc,.int .i64 (pre.length:Int)] 142):=Hp.below hRS hb1;have hPl:=Hp.lt hRS;obtain⟨wD,hwD⟩:∃wD,w1.drew=wD:=⟨_,rfl⟩
 have hbD:Below w1.heap.size w1 wD:=by rw[←hwD];exact Co.drew_below w1
 have hb1D:Below w.heap.size w wD:=hb1.trans (hbD.mono (by omega));have HRSD:Hid (Hp wD P #[.slice (some ⟨tb,0,none⟩) xs.length xc,.int .i64 (pre.length:Int)] 142):=HRS1.out.below hbD;have htl:=hSrc.lt;have hc:=fun(W:World) (hb:Below w.heap.size w W) (j:Nat) (v:Value) (h:w.cell? ⟨tb,j,none⟩=some v)=>(hb.cell (p:=⟨tb,j,none⟩) htl).trans h
 have HSD:Hid (Hp wD P #[.slice (some ⟨tb,0,none⟩) xs.length xc,.int .i64 (pre.length:Int)] 142∧wD.cell? ⟨tb,pre.length*5,none⟩=some (.int .i64 t.t.k)∧wD.cell? ⟨tb,pre.length*5+1,none⟩=some (.int .i64 (t.at_:Int))∧wD.cell? ⟨tb,pre.length*5+2,none⟩=some (.int .i64 (t.to:Int))∧wD.cell? ⟨tb,pre.length*5+3,none⟩=some (.int .i64 t.t.n)∧wD.cell? ⟨tb,pre.length*5+4,none⟩=some (.string ⟨t.t.s.toArray⟩)):=
  ⟨HRSD.out,hc _ hb1D _ _ k0,hc _ hb1D _ _ k1,hc _ hb1D _ _ k2,hc _ hb1D _ _ k3,hc _ hb1D _ _ k4⟩
 obtain⟨wA,hwA⟩:∃wA,wD.alloc (.cells #[.int .i64 0,.int .i64 0,.int .i64 0,.int .i64 0,.string ⟨#[]⟩] 144)=wA:=⟨_,rfl⟩
 obtain⟨hbA,hsA⟩:=new_below hwA;have hbDA:Below w.heap.size w wA:=btr hb1D hbA;have HSA:Hid (Hp wA P #[.slice (some ⟨tb,0,none⟩) xs.length xc,.int .i64 (pre.length:Int)] 142∧wA.cell? ⟨tb,pre.length*5,none⟩=some (.int .i64 t.t.k)∧wA.cell? ⟨tb,pre.length*5+1,none⟩=some (.int .i64 (t.at_:Int))∧wA.cell? ⟨tb,pre.length*5+2,none⟩=some (.int .i64 (t.to:Int))∧wA.cell? ⟨tb,pre.length*5+3,none⟩=some (.int .i64 t.t.n)∧wA.cell? ⟨tb,pre.length*5+4,none⟩=some (.string ⟨t.t.s.toArray⟩)):=
  ⟨HRSD.out.below hbA,hc _ hbDA _ _ k0,hc _ hbDA _ _ k1,hc _ hbDA _ _ k2,hc _ hbDA _ _ k3,hc _ hbDA _ _ k4⟩
 have HTA:=zh (Hp.new hwA);have HTH:Hid (wA.there wD.heap.size 0 5):=HTA.out.there (Nat.le_refl _);obtain⟨wT,hwT⟩:∃wT,wA.setCells wD.heap.size 0 (#[.int .i64 t.t.k,.int .i64 (t.at_:Int),.int .i64 (t.to:Int),.int .i64 t.t.n,.string ⟨t.t.s.toArray⟩]:Array Value).toList=wT:=⟨_,rfl⟩
 have hkT:Keep (fun k=>k=wD.heap.size) wA wT:=by rw[←hwT];exact Co.setCells_keep _ _ _ _
 have HTT:Hid (Hp wT wD.heap.size #[.int .i64 t.t.k,.int .i64 (t.at_:Int),.int .i64 (t.to:Int),.int .i64 t.t.n,.string ⟨t.t.s.toArray⟩] 144):=by rw[←hwT];exact HTA.out.set5 _ _ _ _ _
 have hzD:w1.heap.size≤wD.heap.size:=hbD.size;have hbT:Below w.heap.size w wT:=hbDA.trans (hkT.to_below (fun k e=>by omega) hbDA.size);have HST:Hid (Hp wT P #[.slice (some ⟨tb,0,none⟩) xs.length xc,.int .i64 (pre.length:Int)] 142∧wT.cell? ⟨tb,pre.length*5,none⟩=some (.int .i64 t.t.k)∧wT.cell? ⟨tb,pre.length*5+1,none⟩=some (.int .i64 (t.at_:Int))∧wT.cell? ⟨tb,pre.length*5+2,none⟩=some (.int .i64 (t.to:Int))∧wT.cell? ⟨tb,pre.length*5+3,none⟩=some (.int .i64 t.t.n)∧wT.cell? ⟨tb,pre.length*5+4,none⟩=some (.string ⟨t.t.s.toArray⟩)):=
  ⟨HSA.out.1.keep hkT (fun e=>by omega),hc _ hbT _ _ k0,hc _ hbT _ _ k1,hc _ hbT _ _ k2,hc _ hbT _ _ k3,hc _ hbT _ _ k4⟩
 have HBT:=zh hbT;have HN:Hid (w1.heap.size=w.heap.size+1∧w1.heap.size≤wD.heap.size∧wD.heap.size<wT.heap.size∧P<w.heap.size):=⟨hs1,hzD,HTT.out.lt,hPl⟩
 have HR2:Hid (Hp wT w.heap.size #[.int .i64 0,.int .i64 0,.string ⟨#[]⟩,.slice none 0 0,.slice none 0 0,.slice none 0 0] 25):=((HR1.out.below hbD).below (by rw[←hwA]at*;exact hbA)).keep hkT (fun e=>by omega);have HSD0:=zh hsd;have HSRC:=zh hSrc;have HXS:=zh hxs;have hlti:(pre.length:Int)<(xs.length:Int):=by omega
 have HLEN:=zh hlen;clear hb1 hs1 hbD hb1D hbA hsA hbDA hkT hbT hc k0 k1 k2 k3 k4 hRS hSrc hsd hxs hti htl hzD hlen;go_enter Tryz.func109,Tryz.ntmps109;go_upto_region 1 with fail
 refine wp_region_noPanic ?_;refine wp_region_held_drew (S:=fun w'=>Hp w' P #[.slice (some ⟨tb,0,none⟩) xs.length xc,.int .i64 (pre.length:Int)] 142∧w'.cell? ⟨tb,pre.length*5,none⟩=some (.int .i64 t.t.k)∧w'.cell? ⟨tb,pre.length*5+1,none⟩=some (.int .i64 (t.at_:Int))∧w'.cell? ⟨tb,pre.length*5+2,none⟩=some (.int .i64 (t.to:Int))∧w'.cell? ⟨tb,pre.length*5+3,none⟩=some (.int .i64 t.t.n)∧w'.cell? ⟨tb,pre.length*5+4,none⟩=some (.string ⟨t.t.s.toArray⟩)) (by kernel_rfl) (by rw[hwD];exact HSD.out) (fun hHeld=> ?_);rw[hwD]at hHeld ⊢;clear hwD;refine Zm.u 0 ?_ rfl ?_ ?_;rotate_left
 ·intro w9 hSw;clear hSw;go_simp;try with_reducible rfl
 simp only[Act.put,za,zb,zc];refine Zm.u 1 ?_ rfl ?_ ?_;rotate_left
 ·intro w9 hSw;clear hSw;go_simp;try with_reducible rfl
 simp only[Act.put,za,zb,zc];refine Zm.u 2 ?_ rfl ?_ ?_;rotate_left
 ·intro w9 hSw;clear hSw;go_simp;try with_reducible rfl
 simp only[Act.put,za,zb,zc];refine Zm.u 3 ?_ rfl ?_ ?_;rotate_left
 ·intro w9 hSw;have hC:Hp w9 P _ _:=hSw.1;have p0:=hC.cell 0 rfl;have p1:=hC.cell 1 rfl;clear hC;clear hSw;go_simp;try with_reducible rfl
 simp only[Act.put,za,zb,zc];refine Zm.u 4 ?_ rfl ?_ ?_;rotate_left
 ·intro w9 hSw;clear hSw;go_simp;try with_reducible rfl
 simp only[Act.put,za,zb,zc];refine Zm.u 5 ?_ rfl ?_ ?_;rotate_left
 ·intro w9 hSw;clear hSw;go_simp;try with_reducible rfl
 simp only[Act.put,za,zb,zc];refine Zm.u 6 ?_ rfl ?_ ?_;rotate_left
 ·intro w9 hSw;clear hSw;go_simp;try with_reducible rfl
 simp only[Act.put,za,zb,zc];refine Zm.u 7 ?_ rfl ?_ ?_;rotate_left
 ·intro w9 hSw;have hC:Hp w9 P _ _:=hSw.1;have p0:=hC.cell 0 rfl;have p1:=hC.cell 1 rfl;clear hC;clear hSw;go_simp;try with_reducible rfl
 simp only[Act.put,za,zb,zc];refine Zm.u 8 ?_ rfl ?_ ?_;rotate_left
 ·intro w9 hSw;clear hSw;go_simp;try with_reducible rfl
 simp only[Act.put,za,zb,zc];refine Zm.u 9 ?_ rfl ?_ ?_;rotate_left
 ·intro w9 hSw;obtain⟨-,z0,z1,z2,z3,z4⟩:=hSw;go_simp;try with_reducible rfl
 simp only[Act.put,za,zb,zc];refine Zm.r 10 rfl (fun K hK=> ?_);go_simp;try rw[hwA]
 refine hK.out _ _ HSA.out (fun hHeld=> ?_);clear hK K;refine Zm.r 11 rfl (fun K hK=> ?_);refine wp_store_mid 144 (.tmp 5) (.tmp 18) rfl wD.heap.size 0 #[.int .i64 t.t.k,.int .i64 (t.at_:Int),.int .i64 (t.to:Int),.int .i64 t.t.n,.string ⟨t.t.s.toArray⟩] (by kernel_rfl) (by kernel_rfl) HTH.out (by kernel_rfl) (by kernel_rfl) ?_;rw[hwT];refine hK.out _ _ HST.out (fun hHeld=> ?_);clear hK K;refine wpAnyH_done (by kernel_rfl) ?_ _;refine NoPanic.normal ?_;clear hwA hwT;obtain⟨w5,hw5⟩:∃w5,wT.setCell ⟨P,1,none⟩ (.int .i64 ((pre.length:Int)+1))=w5:=⟨_,rfl⟩
 have hk5:Keep (fun k=>k=P) wT w5:=by rw[←hw5];exact set_keep _ _ _ _
 have HRS5:Hid (Co.RS w5 P tb xc xs (pre++[t]).length):=by
  have h:=HST.out.1.set 1 (.int .i64 ((pre.length:Int)+1));rw[hw5]at h;show Hp _ _ _ _;rw[List.length_append];exact h
 have HKW:Hid (Keep (fun k=>k=P) w w5):=(keep_of_below HBT.out).trans hk5;have HT5:Hid (Hp w5 wD.heap.size #[.int .i64 t.t.k,.int .i64 (t.at_:Int),.int .i64 (t.to:Int),.int .i64 t.t.n,.string ⟨t.t.s.toArray⟩] 144):=HTT.out.keep hk5 (fun e=>by have:=HN.out;omega);have HR5:Hid (Hp w5 w.heap.size #[.int .i64 0,.int .i64 0,.string ⟨#[]⟩,.slice none 0 0,.slice none 0 0,.slice none 0 0] 25):=HR2.out.keep hk5 (fun e=>by have:=HN.out;omega);have p1:=HST.out.1.cell 1 rfl;have pf1:=HST.out.1.frz 1;have HSR5:Hid (Rd.Src w5 tb xs):=HSRC.out.keep HKW.out hne;have hpl:(pre.length:Int)≤1000000:=by have:=HLEN.out;omega
 have q0:=HT5.out.cell 0 rfl;have q1:=HT5.out.cell 1 rfl;have q2:=HT5.out.cell 2 rfl;have q3:=HT5.out.cell 3 rfl;have q4:=HT5.out.cell 4 rfl;obtain⟨rr0,rr1,rr2,rr3,rr4,rr5⟩:=HR5.out.c6;have rrf0:=HR5.out.frz 0;have rrf1:=HR5.out.frz 1;have rrf2:=HR5.out.frz 2;have rrf3:=HR5.out.frz 3;have rrf4:=HR5.out.frz 4;have rrf5:=HR5.out.frz 5;clear hk5;by_cases g9:t.t.k=9
 ·have hq:(t.t.k==9)=true:=by simpa using g9
  have HF:Hid (Co.SPost2 P tb xc xs w x rest (.returned (.tuple #[.agg #[.int .i64 1,.int .i64 t.t.n,.string ⟨#[]⟩,.slice none 0 0,.slice none 0 0,.slice none 0 0],.int .i64 0,.int .i64 0])) (set6 w5 w.heap.size (.int .i64 1) (.int .i64 t.t.n) (.string ⟨#[]⟩) (.slice none 0 0) (.slice none 0 0) (.slice none 0 0))):=by
   have h:=HSD0.out;rw[Co.rdD]at h;rw[if_pos g9]at h;cases h;have k6:=set6_keep w5 w.heap.size (.int .i64 1) (.int .i64 t.t.n) (.string ⟨#[]⟩) (.slice none 0 0) (.slice none 0 0) (.slice none 0 0);have hn:=HN.out;exact⟨_,_,_,pre++[t],rfl,Co.rep_nil _ _ _ _ _,by rw[HXS.out];simp,HRS5.out.keep k6 (fun e=>by omega),Keep.mono ((HKW.out.le (T:=fun k=>k=P∨k=w.heap.size) fun k e=> .inl e).trans (k6.le fun k e=> .inr e)) (fun k hk e=>by omega)⟩
  clear g9;go_wp2;refine bodyPost_ret (v:= .tuple #[.agg #[.int .i64 1,.int .i64 t.t.n,.string ⟨#[]⟩,.slice none 0 0,.slice none 0 0,.slice none 0 0],.int .i64 0,.int .i64 0]) (by simp[results,Tryz.results109,go_sem, *]) rfl ?_;exact HF.out
 have e9:(t.t.k==9)=false:=by simpa using g9
 by_cases g13:t.t.k=13
 ·have hq:(t.t.k==13)=true:=by simpa using g13
  have HF:Hid (Co.SPost2 P tb xc xs w x rest (.returned (.tuple #[.agg #[.int .i64 5,.int .i64 0,.string ⟨t.t.s.toArray⟩,.slice none 0 0,.slice none 0 0,.slice none 0 0],.int .i64 0,.int .i64 0])) (set6 w5 w.heap.size (.int .i64 5) (.int .i64 0) (.string ⟨t.t.s.toArray⟩) (.slice none 0 0) (.slice none 0 0) (.slice none 0 0))):=by
   have h:=HSD0.out;rw[Co.rdD]at h;rw[if_neg g9,if_pos g13]at h;cases h;have k6:=set6_keep w5 w.heap.size (.int .i64 5) (.int .i64 0) (.string ⟨t.t.s.toArray⟩) (.slice none 0 0) (.slice none 0 0) (.slice none 0 0);have hn:=HN.out;exact⟨_,_,_,pre++[t],rfl,Co.rep_nil _ _ _ _ _,by rw[HXS.out];simp,HRS5.out.keep k6 (fun e=>by omega),Keep.mono ((HKW.out.le (T:=fun k=>k=P∨k=w.heap.size) fun k e=> .inl e).trans (k6.le fun k e=> .inr e)) (fun k hk e=>by omega)⟩
  have q4:(t.t.k==10)=false:=by rw[g13];rfl
  have q5:(t.t.k==11)=false:=by rw[g13];rfl
  have q6:(t.t.k==12)=false:=by rw[g13];rfl
  clear g13 g9;go_wp2;refine bodyPost_ret (v:= .tuple #[.agg #[.int .i64 5,.int .i64 0,.string ⟨t.t.s.toArray⟩,.slice none 0 0,.slice none 0 0,.slice none 0 0],.int .i64 0,.int .i64 0]) (by simp[results,Tryz.results109,go_sem, *]) rfl ?_;exact HF.out
 have e13:(t.t.k==13)=false:=by simpa using g13
 have g1:t.t.k=1:=by
  have h:=HSD0.out;rw[Co.rdD,if_neg g9,if_neg g13]at h;by_cases e:t.t.k=1
  ·exact e
  ·rw[if_neg e]at h;cases h
 obtain⟨l,hl,hx⟩:∃l,Co.rdL f r=some (l,rest)∧x=Co.lstD l:=by
  have h:=HSD0.out;rw[Co.rdD,if_neg g9,if_neg g13,if_pos g1]at h
  cases hs:Co.rdL f r with
  |none=>rw[hs]at h;cases h
  |some q=>
   rw[hs]at h;cases h;exact⟨q.1,rfl,rfl⟩
 subst hx;have hcall:=hsl r rest (pre++[t]) l t w5 (by rw[HXS.out];simp) hl g1 HRS5.out HSR5.out hne;have q1:(t.t.k==1)=true:=by simpa using g1
 have q2:(t.t.k==2)=false:=by rw[g1];rfl
 have q3:(t.t.k==8)=false:=by rw[g1];rfl
 have q4:(t.t.k==10)=false:=by rw[g1];rfl
 have q5:(t.t.k==11)=false:=by rw[g1];rfl
 have q6:(t.t.k==12)=false:=by rw[g1];rfl
 clear g1 g9 g13 hl;go_wp2_with fail
 refine hcall.mono ?_;rintro e w6 ⟨vm,vl,vt,pre',rfl,hr6,hx6,hs6,hk6⟩;obtain⟨h1,k1,s1,h2,k2,s2,h3,k3,s3,rfl,rfl,rfl⟩:=hr6.forms;have HR6:Hid (Hp w6 w.heap.size #[.int .i64 0,.int .i64 0,.string ⟨#[]⟩,.slice none 0 0,.slice none 0 0,.slice none 0 0] 25):=HR5.out.keep hk6 (fun e=>by have:=HN.out;omega);have HF:Hid (Co.SPost2 P tb xc xs w (Co.lstD l) rest (.returned (.tuple #[.agg #[.int .i64 (Co.lstD l).k,.int .i64 (Co.lstD l).n,.string (Co.lstD l).s,.slice h1 k1 s1,.slice h2 k2 s2,.slice h3 k3 s3],.int .i64 0,.int .i64 0])) (set6 w6 w.heap.size (.int .i64 (Co.lstD l).k) (.int .i64 (Co.lstD l).n) (.string (Co.lstD l).s) (.slice h1 k1 s1) (.slice h2 k2 s2) (.slice h3 k3 s3))):=by
  have k7:=set6_keep w6 w.heap.size (.int .i64 (Co.lstD l).k) (.int .i64 (Co.lstD l).n) (.string (Co.lstD l).s) (.slice h1 k1 s1) (.slice h2 k2 s2) (.slice h3 k3 s3);have hn:=HN.out;have hz:=HT5.out.lt;refine⟨_,_,_,pre',rfl,Dt.Rep.mono (fun b hb _=>by omega) _ (Dt.Rep.keep k7 (fun b hb _ e=>by omega) _ hr6),hx6,hs6.keep k7 (fun e=>by omega),Keep.mono (((HKW.out.le (T:=fun k=>k=P∨k=w.heap.size) fun k e=> .inl e).trans (hk6.le fun k e=> .inl e)).trans (k7.le fun k e=> .inr e)) (fun k hk e=>by omega)⟩
 obtain⟨Z,hZ⟩:∃Z,Co.lstD l=Z:=⟨_,rfl⟩
 rw[hZ]at HF ⊢;clear rr0 rr1 rr2 rr3 rr4 rr5;clear hcall hr6 hx6 hs6 hk6;obtain⟨rr0,rr1,rr2,rr3,rr4,rr5⟩:=HR6.out.c6;have rrf0:=HR6.out.frz 0;have rrf1:=HR6.out.frz 1;have rrf2:=HR6.out.frz 2;have rrf3:=HR6.out.frz 3;have rrf4:=HR6.out.frz 4;have rrf5:=HR6.out.frz 5;go_wp2;refine bodyPost_ret (v:= .tuple #[.agg #[.int .i64 Z.k,.int .i64 Z.n,.string Z.s,.slice h1 k1 s1,.slice h2 k2 s2,.slice h3 k3 s3],.int .i64 0,.int .i64 0]) (by simp[results,Tryz.results109,go_sem, *]) rfl ?_;rw[hZ];exact HF.out
mutual
theorem Co.rd_lenD:∀(f:Nat) (ts:List Lx.PTok) (x:Dt.D) (rest:List Lx.PTok),Co.rdD f ts=some (x,rest)→rest.length<ts.length
 |0,_,_,_,h=>by rw[Co.rdD]at h;cases h
 |_+1,[],_,_,h=>by rw[Co.rdD]at h;cases h
 |f+1,t :: r,x,rest,h=>by
  rw[Co.rdD]at h;split at h
  ·cases h;simp
  split at h
  ·cases h;simp
  split at h
  ·cases hs:Co.rdL f r with
   |none=>rw[hs]at h;cases h
   |some q=>
    rw[hs]at h;cases h;have:=Co.rd_lenL f r q.1 q.2 hs;simp;omega
  ·cases h
theorem Co.rd_lenL:∀(f:Nat) (ts:List Lx.PTok) (l:List Dt.D) (rest:List Lx.PTok),Co.rdL f ts=some (l,rest)→rest.length<ts.length
 |0,_,_,_,h=>by rw[Co.rdL]at h;cases h
 |_+1,[],_,_,h=>by rw[Co.rdL]at h;cases h
 |f+1,t :: r,l,rest,h=>by
  rw[Co.rdL]at h;split at h
  ·cases h;simp
  ·cases hs:Co.rdD f (t :: r)with
   |none=>rw[hs]at h;cases h
   |some q=>
    rw[hs]at h;dsimp only at h
    cases hs2:Co.rdL f q.2 with
    |none=>rw[hs2]at h;cases h
    |some p=>
     rw[hs2]at h;cases h;have h1:=Co.rd_lenD f (t :: r) q.1 q.2 hs;have h2:=Co.rd_lenL f q.2 p.1 p.2 hs2;omega
end
theorem Co.rd_len(f:Nat):(∀ts x rest,Co.rdD f ts=some (x,rest)→rest.length<ts.length)∧(∀ts l rest,Co.rdL f ts=some (l,rest)→rest.length<ts.length):=⟨Co.rd_lenD f,Co.rd_lenL f⟩
structure Co.LR(P tb xc:Nat)(xs:List Lx.PTok)(w w3:World)(g:Nat)(l:List Dt.D)(rest:List Lx.PTok)(acc:List Dt.D)(ps:List Dt.P)(pre ts:List Lx.PTok)(al:Option Addr)(m ql:Nat)(wr:World):Prop where
 ok:∃l',Co.rdL g ts=some (l',rest)∧l=acc++l'
 xs_:xs=pre++ts
 hd:Hp wr (w.heap.size+2) #[.int .i64 6,.int .i64 0,.string ⟨#[]⟩,.slice none 0 0,.slice al m ql,.slice none 0 0] 25
 row:Dt.Rowing wr w3.heap.size (.slice al m ql) ps
 ml:m=ps.length
 mp:ps.map Dt.P.d=acc
 rs:Co.RS wr P tb xc xs pre.length
 kp:Keep (fun k=>k=P∨k=w.heap.size+2∨w3.heap.size≤k) w3 wr
 mb:m+ts.length≤xs.length
def Co.left(xs:List Lx.PTok)(P:Nat)(w:World):Nat:=match w.cell? ⟨P,1,none⟩with
 |some (.int _ n)=>xs.length - n.toNat
 |_=>0
theorem Co.RS.left{w:World}{P tb xc n:Nat}{xs:List Lx.PTok}(h:Co.RS w P tb xc xs n):Co.left xs P w=xs.length - n:=by
 have h1:w.cell? ⟨P,1,none⟩=some (.int .i64 (n:Int)):=Hp.cell h 1 rfl;unfold Co.left;rw[h1];simp
set_option maxRecDepth 100000 in
set_option maxHeartbeats 16000000 in
theorem coSl_step(P tb xc:Nat)(xs:List Lx.PTok)(hx4:xs.length≤1000000)(F:Nat)(hD:∀g,g<F→Co.SdIs P tb xc xs g):Co.SlIs P tb xc xs F:=by
 intro ts0 rest pre0 l t w hxs hsl ht1 hRS hSrc hne;obtain⟨w1,hw1⟩:∃w1,w.alloc (.cells #[.int .i64 t.t.k,.int .i64 (t.at_:Int),.int .i64 (t.to:Int),.int .i64 t.t.n,.string ⟨t.t.s.toArray⟩] 144)=w1:=⟨_,rfl⟩
 obtain⟨w2,hw2⟩:∃w2,w1.alloc (.cells #[.int .i64 0,.int .i64 0,.string ⟨#[]⟩,.slice none 0 0,.slice none 0 0,.slice none 0 0] 25)=w2:=⟨_,rfl⟩
 obtain⟨w3,hw3⟩:∃w3,w2.alloc (.cells #[.int .i64 6,.int .i64 0,.string ⟨#[]⟩,.slice none 0 0,.slice none 0 0,.slice none 0 0] 25)=w3:=⟨_,rfl⟩
 obtain⟨hb1,hs1⟩:=new_below hw1;obtain⟨hb2,hs2⟩:=new_below hw2;obtain⟨hb3,hs3⟩:=new_below hw3;have hb13:Below w.heap.size w w3:=((btr hb1 hb2)).trans (hb3.mono (by omega));have hz1:w1.heap.size=w.heap.size+1:=hs1;have hz2:w2.heap.size=w.heap.size+2:=by omega
 have HT:Hid (Hp w3 w.heap.size #[.int .i64 t.t.k,.int .i64 (t.at_:Int),.int .i64 (t.to:Int),.int .i64 t.t.n,.string ⟨t.t.s.toArray⟩] 144):=((Hp.new hw1).below hb2).below hb3;have HR:Hid (Hp w3 (w.heap.size+1) #[.int .i64 0,.int .i64 0,.string ⟨#[]⟩,.slice none 0 0,.slice none 0 0,.slice none 0 0] 25):=by rw[←hz1];exact(Hp.new hw2).below hb3
 have HDB:Hid (Hp w3 (w.heap.size+2) #[.int .i64 6,.int .i64 0,.string ⟨#[]⟩,.slice none 0 0,.slice none 0 0,.slice none 0 0] 25):=by rw[←hz2];exact Hp.new hw3
 have hPl:=Hp.lt hRS;have htl:=hSrc.lt;have HN:Hid (w3.heap.size=w.heap.size+3∧P<w.heap.size∧tb<w.heap.size):=⟨by omega,hPl,htl⟩
 have HI0:Hid (Co.LR P tb xc xs w w3 F l rest [] [] pre0 ts0 none 0 0 w3):=⟨⟨l,hsl,rfl⟩,hxs,HDB.out,Dt.Rowing.nil _ _,rfl,rfl,Hp.below hRS hb13,Keep.refl _ _,by rw[hxs];simp⟩
 have HSRC:=zh hSrc;have HB3:=zh hb13;have HDD:=zh hD;obtain⟨i0,hi,hz0',hz1',hz2'⟩:=info_parts Dt.infoD;have HI:=zh hi;have HZ0:=zh hz0';have HZ1:=zh hz1';have HZ2:=zh hz2';have tk3:(t.t.k==3)=false:=by rw[ht1];rfl
 clear ht1;have HW1:=zh hw1;have HW2:=zh hw2;have HW3:=zh hw3;clear hw1 hw2 hw3;clear hb1 hb2 hb3 hs1 hs2 hs3 hb13 hxs hsl hRS hSrc hD hi hz0' hz1' hz2' htl hPl;go_enter Tryz.func146,Tryz.ntmps146;go_wp2;rw[HW1.out,HW2.out,HW3.out]
 go_loopw [10] (fun _ wr=>∃(g:Nat) (acc:List Dt.D) (ps:List Dt.P) (pre ts:List Lx.PTok) (al:Option Addr) (m ql:Nat),Hid (Co.LR P tb xc xs w w3 g l rest acc ps pre ts al m ql wr)∧g≤F) (fun _ wr=>Co.left xs P wr)
 case atStart=>exact⟨F,[],[],pre0,ts0,none,0,0,HI0,Nat.le_refl _⟩
 case round=>
  clear HI0;obtain⟨g,acc,ps,pre,ts,al,m,ql,HL,hgF⟩:=hrel;obtain⟨l',hl1,hl2⟩:=HL.out.ok;obtain⟨g,rfl⟩:∃g',g=g'+1:=by
   cases g with
   |zero=>rw[Co.rdL]at hl1;cases hl1
   |succ g=>exact⟨g,rfl⟩
  obtain⟨u,r,rfl⟩:∃u r,ts=u :: r:=by
   cases ts with
   |nil=>rw[Co.rdL]at hl1;cases hl1
   |cons u r=>exact⟨u,r,rfl⟩
  have hxs:=HL.out.xs_;have hlen:xs.length=pre.length+(r.length+1):=by rw[hxs];simp
  have hlt:pre.length<xs.length:=by omega
  have hlti:(pre.length:Int)<(xs.length:Int):=by omega
  have hge:¬ (xs.length:Int)≤(pre.length:Int):=by omega
  have hgeb:decide ((xs.length:Int)≤(pre.length:Int))=false:=decide_eq_false hge;have hn:=HN.out;have hsz:=HL.out.kp.size;have htok:=(((HSRC.out.below HB3.out).keep HL.out.kp (fun e=>by rcases e with e|e|e;exact hne e;omega;omega)).tok pre.length hlt)
  have hti:xs[pre.length]=u:=by simp[hxs]
  rw[hti]at htok;obtain⟨k0,k1,k2,k3,k4⟩:=htok;have hRS:Hp wr P #[.slice (some ⟨tb,0,none⟩) xs.length xc,.int .i64 (pre.length:Int)] 142:=HL.out.rs;obtain⟨wD,hwD⟩:∃wD,wr.drew=wD:=⟨_,rfl⟩
  have hbD:Below wr.heap.size wr wD:=by rw[←hwD];exact Co.drew_below wr
  have hcl:=fun(W:World) (hb:Below wr.heap.size wr W) (j:Nat) (v:Value) (h:wr.cell? ⟨tb,j,none⟩=some v)=>(hb.cell (p:=⟨tb,j,none⟩) (by show tb<_;omega)).trans h
  have HSD:Hid (Hp wD P #[.slice (some ⟨tb,0,none⟩) xs.length xc,.int .i64 (pre.length:Int)] 142∧wD.cell? ⟨tb,pre.length*5,none⟩=some (.int .i64 u.t.k)∧wD.cell? ⟨tb,pre.length*5+1,none⟩=some (.int .i64 (u.at_:Int))∧wD.cell? ⟨tb,pre.length*5+2,none⟩=some (.int .i64 (u.to:Int))∧wD.cell? ⟨tb,pre.length*5+3,none⟩=some (.int .i64 u.t.n)∧wD.cell? ⟨tb,pre.length*5+4,none⟩=some (.string ⟨u.t.s.toArray⟩)):=⟨hRS.below hbD,hcl _ hbD _ _ k0,hcl _ hbD _ _ k1,hcl _ hbD _ _ k2,hcl _ hbD _ _ k3,hcl _ hbD _ _ k4⟩
  obtain⟨wE,hwE⟩:∃wE,wD.drew=wE:=⟨_,rfl⟩
  have hbDE:Below wD.heap.size wD wE:=by rw[←hwE];exact Co.drew_below wD
  have hbE:Below wr.heap.size wr wE:=btr hbD hbDE;have HSE:Hid (Hp wE P #[.slice (some ⟨tb,0,none⟩) xs.length xc,.int .i64 (pre.length:Int)] 142∧wE.cell? ⟨tb,pre.length*5,none⟩=some (.int .i64 u.t.k)∧wE.cell? ⟨tb,pre.length*5+1,none⟩=some (.int .i64 (u.at_:Int))∧wE.cell? ⟨tb,pre.length*5+2,none⟩=some (.int .i64 (u.to:Int))∧wE.cell? ⟨tb,pre.length*5+3,none⟩=some (.int .i64 u.t.n)∧wE.cell? ⟨tb,pre.length*5+4,none⟩=some (.string ⟨u.t.s.toArray⟩)):=⟨hRS.below hbE,hcl _ hbE _ _ k0,hcl _ hbE _ _ k1,hcl _ hbE _ _ k2,hcl _ hbE _ _ k3,hcl _ hbE _ _ k4⟩
  obtain⟨wA,hwA⟩:∃wA,wE.alloc (.cells #[.int .i64 0,.int .i64 0,.int .i64 0,.int .i64 0,.string ⟨#[]⟩] 144)=wA:=⟨_,rfl⟩
  obtain⟨hbA,hsA⟩:=new_below hwA;have hbA2:Below wr.heap.size wr wA:=btr hbE hbA;have HSA:Hid (Hp wA P #[.slice (some ⟨tb,0,none⟩) xs.length xc,.int .i64 (pre.length:Int)] 142∧wA.cell? ⟨tb,pre.length*5,none⟩=some (.int .i64 u.t.k)∧wA.cell? ⟨tb,pre.length*5+1,none⟩=some (.int .i64 (u.at_:Int))∧wA.cell? ⟨tb,pre.length*5+2,none⟩=some (.int .i64 (u.to:Int))∧wA.cell? ⟨tb,pre.length*5+3,none⟩=some (.int .i64 u.t.n)∧wA.cell? ⟨tb,pre.length*5+4,none⟩=some (.string ⟨u.t.s.toArray⟩)):=⟨hRS.below hbA2,hcl _ hbA2 _ _ k0,hcl _ hbA2 _ _ k1,hcl _ hbA2 _ _ k2,hcl _ hbA2 _ _ k3,hcl _ hbA2 _ _ k4⟩
  have HTA:=zh (Hp.new hwA);have HTH:Hid (wA.there wE.heap.size 0 5):=HTA.out.there (Nat.le_refl _);obtain⟨wT,hwT⟩:∃wT,wA.setCells wE.heap.size 0 (#[.int .i64 u.t.k,.int .i64 (u.at_:Int),.int .i64 (u.to:Int),.int .i64 u.t.n,.string ⟨u.t.s.toArray⟩]:Array Value).toList=wT:=⟨_,rfl⟩
  have hkT:Keep (fun k=>k=wE.heap.size) wA wT:=by rw[←hwT];exact Co.setCells_keep _ _ _ _
  have HTT:Hid (Hp wT wE.heap.size #[.int .i64 u.t.k,.int .i64 (u.at_:Int),.int .i64 (u.to:Int),.int .i64 u.t.n,.string ⟨u.t.s.toArray⟩] 144):=by rw[←hwT];exact HTA.out.set5 _ _ _ _ _
  have hbT:Below wr.heap.size wr wT:=hbA2.trans (hkT.to_below (fun k e=>by have:=hbE.size;omega) hbA2.size);have HST:Hid (Hp wT P #[.slice (some ⟨tb,0,none⟩) xs.length xc,.int .i64 (pre.length:Int)] 142∧wT.cell? ⟨tb,pre.length*5,none⟩=some (.int .i64 u.t.k)∧wT.cell? ⟨tb,pre.length*5+1,none⟩=some (.int .i64 (u.at_:Int))∧wT.cell? ⟨tb,pre.length*5+2,none⟩=some (.int .i64 (u.to:Int))∧wT.cell? ⟨tb,pre.length*5+3,none⟩=some (.int .i64 u.t.n)∧wT.cell? ⟨tb,pre.length*5+4,none⟩=some (.string ⟨u.t.s.toArray⟩)):=⟨HSA.out.1.keep hkT (fun e=>by have:=hbE.size;omega),hcl _ hbT _ _ k0,hcl _ hbT _ _ k1,hcl _ hbT _ _ k2,hcl _ hbT _ _ k3,hcl _ hbT _ _ k4⟩
  have HBT:=zh hbT;have HZE:Hid (wr.heap.size≤wE.heap.size):=hbE.size;have HLEN:=zh hlen;have HL1:=zh hl1;have HL2:=zh hl2;have HXS:=zh hxs;clear hbD hcl hbDE hbE hbA hsA hbA2 hkT hbT k0 k1 k2 k3 k4 hRS hti hlen hl1 hl2 hxs hn hsz;go_upto_region 4 with fail
  refine wp_region_noPanic ?_;refine wp_region_held_drew (S:=fun w'=>Hp w' P #[.slice (some ⟨tb,0,none⟩) xs.length xc,.int .i64 (pre.length:Int)] 142∧w'.cell? ⟨tb,pre.length*5,none⟩=some (.int .i64 u.t.k)∧w'.cell? ⟨tb,pre.length*5+1,none⟩=some (.int .i64 (u.at_:Int))∧w'.cell? ⟨tb,pre.length*5+2,none⟩=some (.int .i64 (u.to:Int))∧w'.cell? ⟨tb,pre.length*5+3,none⟩=some (.int .i64 u.t.n)∧w'.cell? ⟨tb,pre.length*5+4,none⟩=some (.string ⟨u.t.s.toArray⟩)) (by kernel_rfl) (by rw[hwD];exact HSD.out) (fun hHeld=> ?_);rw[hwD]at hHeld ⊢;clear hwD;refine Zm.u 0 ?_ rfl ?_ ?_;rotate_left
  ·intro w9 hSw;clear hSw;go_simp;try with_reducible rfl
  simp only[Act.put,za,zb,zc];refine Zm.u 1 ?_ rfl ?_ ?_;rotate_left
  ·intro w9 hSw;clear hSw;go_simp;try with_reducible rfl
  simp only[Act.put,za,zb,zc];refine Zm.u 2 ?_ rfl ?_ ?_;rotate_left
  ·intro w9 hSw;clear hSw;go_simp;try with_reducible rfl
  simp only[Act.put,za,zb,zc];refine Zm.u 3 ?_ rfl ?_ ?_;rotate_left
  ·intro w9 hSw;have hC:Hp w9 P _ _:=hSw.1;have p0:=hC.cell 0 rfl;have p1:=hC.cell 1 rfl;clear hC;clear hSw;go_simp;try with_reducible rfl
  simp only[Act.put,za,zb,zc];refine Zm.u 4 ?_ rfl ?_ ?_;rotate_left
  ·intro w9 hSw;clear hSw;go_simp;try with_reducible rfl
  simp only[Act.put,za,zb,zc];refine Zm.u 5 ?_ rfl ?_ ?_;rotate_left
  ·intro w9 hSw;clear hSw;go_simp;try with_reducible rfl
  simp only[Act.put,za,zb,zc];refine Zm.u 6 ?_ rfl ?_ ?_;rotate_left
  ·intro w9 hSw;clear hSw;go_simp;try with_reducible rfl
  simp only[Act.put,za,zb,zc];refine Zm.u 7 ?_ rfl ?_ ?_;rotate_left
  ·intro w9 hSw;have hC:Hp w9 P _ _:=hSw.1;have p0:=hC.cell 0 rfl;have p1:=hC.cell 1 rfl;clear hC;clear hSw;go_simp;try with_reducible rfl
  simp only[Act.put,za,zb,zc];refine Zm.u 8 ?_ rfl ?_ ?_;rotate_left
  ·intro w9 hSw;clear hSw;go_simp;try with_reducible rfl
  simp only[Act.put,za,zb,zc];refine Zm.u 9 ?_ rfl ?_ ?_;rotate_left
  ·intro w9 hSw;clear hSw;go_simp;try with_reducible rfl
  simp only[Act.put,za,zb,zc];refine wpAnyH_done (by kernel_rfl) ?_ _;refine NoPanic.normal ?_;go_upto_region 6 with fail
  refine wp_region_noPanic ?_;refine wp_region_held_drew (S:=fun w'=>Hp w' P #[.slice (some ⟨tb,0,none⟩) xs.length xc,.int .i64 (pre.length:Int)] 142∧w'.cell? ⟨tb,pre.length*5,none⟩=some (.int .i64 u.t.k)∧w'.cell? ⟨tb,pre.length*5+1,none⟩=some (.int .i64 (u.at_:Int))∧w'.cell? ⟨tb,pre.length*5+2,none⟩=some (.int .i64 (u.to:Int))∧w'.cell? ⟨tb,pre.length*5+3,none⟩=some (.int .i64 u.t.n)∧w'.cell? ⟨tb,pre.length*5+4,none⟩=some (.string ⟨u.t.s.toArray⟩)) (by kernel_rfl) (by rw[hwE];exact HSE.out) (fun hHeld=> ?_);rw[hwE]at hHeld ⊢;clear hwE;refine Zm.u 0 ?_ rfl ?_ ?_;rotate_left
  ·intro w9 hSw;clear hSw;go_simp;try with_reducible rfl
  simp only[Act.put,za,zb,zc];refine Zm.u 1 ?_ rfl ?_ ?_;rotate_left
  ·intro w9 hSw;clear hSw;go_simp;try with_reducible rfl
  simp only[Act.put,za,zb,zc];refine Zm.u 2 ?_ rfl ?_ ?_;rotate_left
  ·intro w9 hSw;clear hSw;go_simp;try with_reducible rfl
  simp only[Act.put,za,zb,zc];refine Zm.u 3 ?_ rfl ?_ ?_;rotate_left
  ·intro w9 hSw;have hC:Hp w9 P _ _:=hSw.1;have p0:=hC.cell 0 rfl;have p1:=hC.cell 1 rfl;clear hC;clear hSw;go_simp;try with_reducible rfl
  simp only[Act.put,za,zb,zc];refine Zm.u 4 ?_ rfl ?_ ?_;rotate_left
  ·intro w9 hSw;clear hSw;go_simp;try with_reducible rfl
  simp only[Act.put,za,zb,zc];refine Zm.u 5 ?_ rfl ?_ ?_;rotate_left
  ·intro w9 hSw;clear hSw;go_simp;try with_reducible rfl
  simp only[Act.put,za,zb,zc];refine Zm.u 6 ?_ rfl ?_ ?_;rotate_left
  ·intro w9 hSw;clear hSw;go_simp;try with_reducible rfl
  simp only[Act.put,za,zb,zc];refine Zm.u 7 ?_ rfl ?_ ?_;rotate_left
  ·intro w9 hSw;have hC:Hp w9 P _ _:=hSw.1;have p0:=hC.cell 0 rfl;have p1:=hC.cell 1 rfl;clear hC;clear hSw;go_simp;try with_reducible rfl
  simp only[Act.put,za,zb,zc];refine Zm.u 8 ?_ rfl ?_ ?_;rotate_left
  ·intro w9 hSw;clear hSw;go_simp;try with_reducible rfl
  simp only[Act.put,za,zb,zc];refine Zm.u 9 ?_ rfl ?_ ?_;rotate_left
  ·intro w9 hSw;obtain⟨-,z0,z1,z2,z3,z4⟩:=hSw;go_simp;try with_reducible rfl
  simp only[Act.put,za,zb,zc];refine Zm.r 10 rfl (fun K hK=> ?_);go_simp;try rw[hwA]
  refine hK.out _ _ HSA.out (fun hHeld=> ?_);clear hK K;refine Zm.r 11 rfl (fun K hK=> ?_);refine wp_store_mid 144 (.tmp 8) (.tmp 41) rfl wE.heap.size 0 #[.int .i64 u.t.k,.int .i64 (u.at_:Int),.int .i64 (u.to:Int),.int .i64 u.t.n,.string ⟨u.t.s.toArray⟩] (by kernel_rfl) (by kernel_rfl) HTH.out (by kernel_rfl) (by kernel_rfl) ?_;rw[hwT];refine hK.out _ _ HST.out (fun hHeld=> ?_);clear hK K;refine wpAnyH_done (by kernel_rfl) ?_ _;refine NoPanic.normal ?_;clear hwA hwT;have HPT:=zh HST.out.1;have HDT:Hid (Hp wT (w.heap.size+2) #[.int .i64 6,.int .i64 0,.string ⟨#[]⟩,.slice none 0 0,.slice al m ql,.slice none 0 0] 25):=HL.out.hd.below HBT.out;have HRT:Hid (Hp wT (w.heap.size+1) #[.int .i64 0,.int .i64 0,.string ⟨#[]⟩,.slice none 0 0,.slice none 0 0,.slice none 0 0] 25):=(HR.out.keep HL.out.kp (fun e=>by have:=HN.out;rcases e with e|e|e <;> omega)).below HBT.out;have hne5:wE.heap.size≠P:=by have h1:=HN.out;have h2:=HL.out.kp.size;have h3:=HZE.out;omega
  have hq0:=HTT.out.cell 0 rfl;by_cases g2:u.t.k=2
  ·have t2:(u.t.k==2)=true:=by simpa using g2
   obtain⟨rfl,rfl⟩:l'=[]∧rest=r:=by
    have h:=HL1.out;rw[Co.rdL,if_pos g2]at h;cases h;exact⟨rfl,rfl⟩
   obtain⟨w5,hw5⟩:∃w5,wT.setCell ⟨P,1,none⟩ (.int .i64 ((pre.length:Int)+1))=w5:=⟨_,rfl⟩
   have hk5:Keep (fun k=>k=P) wT w5:=by rw[←hw5];exact set_keep _ _ _ _
   have HRS5:Hid (Co.RS w5 P tb xc xs (pre++[u]).length):=by
    have h:=HPT.out.set 1 (.int .i64 ((pre.length:Int)+1));rw[hw5]at h;show Hp _ _ _ _;rw[List.length_append];exact h
   have hn:=HN.out;have HD5:Hid (Hp w5 (w.heap.size+2) #[.int .i64 6,.int .i64 0,.string ⟨#[]⟩,.slice none 0 0,.slice al m ql,.slice none 0 0] 25):=HDT.out.keep hk5 (fun e=>by omega);have HR5:Hid (Hp w5 (w.heap.size+1) #[.int .i64 0,.int .i64 0,.string ⟨#[]⟩,.slice none 0 0,.slice none 0 0,.slice none 0 0] 25):=HRT.out.keep hk5 (fun e=>by omega);have k6:=set6_keep w5 (w.heap.size+1) (.int .i64 6) (.int .i64 0) (.string ⟨#[]⟩) (.slice none 0 0) (.slice al m ql) (.slice none 0 0);have HF:Hid (Co.SPost2 P tb xc xs w (Co.lstD l) rest (.returned (.tuple #[.agg #[.int .i64 6,.int .i64 0,.string ⟨#[]⟩,.slice none 0 0,.slice al m ql,.slice none 0 0],.int .i64 0,.int .i64 0])) (set6 w5 (w.heap.size+1) (.int .i64 6) (.int .i64 0) (.string ⟨#[]⟩) (.slice none 0 0) (.slice al m ql) (.slice none 0 0))):=by
    have hrow:Dt.Row (fun k=>w3.heap.size≤k) wr (.slice al m ql) acc:=by rw[←HL.out.mp];exact HL.out.row.to_row
    have hl:l=acc:=by rw[HL2.out,List.append_nil]
    rw[hl];have h1:Dt.Row (fun k=>w3.heap.size≤k) w5 (.slice al m ql) acc:=(hrow.below HBT.out).keep hk5 (fun b hb _ e=>by omega);have h2:=Rd.rep_row 6 h1;refine⟨_,_,_,pre++[u],rfl,Dt.Rep.mono (fun b hb _=>by omega) _ (Dt.Rep.keep k6 (fun b hb _ e=>by omega) _ h2),by rw[HXS.out];simp,HRS5.out.keep k6 (fun e=>by omega),?_⟩;exact Keep.mono ((((keep_of_below HB3.out).trans (HL.out.kp.le (T:=fun k=>k=P∨w.heap.size≤k) fun k e=>e.imp id (fun e=>by rcases e with e|e <;> omega))).trans ((keep_of_below HBT.out).trans (hk5.le fun k e=> .inl e))).trans (k6.le fun k e=> .inr (by omega))) (fun k hk e=>e.elim id (fun e=>by omega))
   have p1:=HPT.out.cell 1 rfl;have pf1:=HPT.out.frz 1;obtain⟨dd0,dd1,dd2,dd3,dd4,dd5⟩:=HD5.out.c6;obtain⟨rr0,rr1,rr2,rr3,rr4,rr5⟩:=HR5.out.c6;have rrf0:=HR5.out.frz 0;have rrf1:=HR5.out.frz 1;have rrf2:=HR5.out.frz 2;have rrf3:=HR5.out.frz 3;have rrf4:=HR5.out.frz 4;have rrf5:=HR5.out.frz 5;clear g2 hk5 k6 hn;go_wp2;refine bodyPost_ret (v:= .tuple #[.agg #[.int .i64 6,.int .i64 0,.string ⟨#[]⟩,.slice none 0 0,.slice al m ql,.slice none 0 0],.int .i64 0,.int .i64 0]) (by simp[results,Tryz.results146,go_sem, *]) rfl ?_;exact HF.out
  have t2:(u.t.k==2)=false:=by simpa using g2
  obtain⟨d,r2,l2,hd,hl3,rfl⟩:∃d r2 l2,Co.rdD g (u :: r)=some (d,r2)∧Co.rdL g r2=some (l2,rest)∧l'=d :: l2:=by
   have h:=HL1.out;rw[Co.rdL,if_neg g2]at h
   cases hs:Co.rdD g (u :: r)with
   |none=>rw[hs]at h;cases h
   |some q=>
    rw[hs]at h;dsimp only at h
    cases hs2:Co.rdL g q.2 with
    |none=>rw[hs2]at h;cases h
    |some p=>
     rw[hs2]at h;cases h;exact⟨q.1,q.2,p.1,rfl,hs2,rfl⟩
  have t8:(u.t.k==8)=false:=by
   cases g with
   |zero=>rw[Co.rdD]at hd;cases hd
   |succ g=>
    rw[beq_eq_false_iff_ne];intro e;rw[Co.rdD,if_neg (by omega),if_neg (by omega),if_neg (by omega)]at hd;cases hd
  have hcall:=HDD.out g (by omega) (u :: r) r2 pre d wT HXS.out hd HPT.out ((((HSRC.out.below HB3.out).keep HL.out.kp (fun e=>by have:=HN.out;rcases e with e|e|e;exact hne e;omega;omega))).below HBT.out) hne;have hdl:=(Co.rd_len g).1 _ _ _ hd;have HL3:=zh hl3;have HDL:=zh hdl;clear g2 hd hl3 hdl;go_wp2_with fail
  refine hcall.mono ?_;rintro e w6 ⟨vm,vl,vt,pre',rfl,hr6,hx6,hs6,hk6⟩;obtain⟨h1,k1,s1,h2,k2,s2,h3,k3,s3,rfl,rfl,rfl⟩:=hr6.forms;obtain⟨w7,hw7⟩:∃w7,w6.alloc (.cells #[.int .i64 d.k,.int .i64 d.n,.string d.s,.slice h1 k1 s1,.slice h2 k2 s2,.slice h3 k3 s3] 25)=w7:=⟨_,rfl⟩
  obtain⟨hb7,hs7⟩:=new_below hw7;have HB7:=zh hb7;have HQ7:=zh (Hp.new hw7);have HD7:Hid (Hp w7 (w.heap.size+2) #[.int .i64 6,.int .i64 0,.string ⟨#[]⟩,.slice none 0 0,.slice al m ql,.slice none 0 0] 25):=(HDT.out.keep hk6 (fun e=>by have:=HN.out;omega)).below hb7;have HKR:Hid (Keep (fun k=>k=P) wr w6):=(keep_of_below HBT.out).trans hk6;have HR6:Hid (Dt.Rep (fun k=>wr.heap.size≤k) w6 d (.slice h1 k1 s1) (.slice h2 k2 s2) (.slice h3 k3 s3)):=Dt.Rep.mono (fun b hb _=>by have:=HBT.out.size;omega) d hr6;have HX6:=zh hx6;have HS6:=zh hs6;have hW8:w7.alloc (.cells #[.int .i64 d.k,.int .i64 d.n,.string d.s,.slice h1 k1 s1,.slice h2 k2 s2,.slice h3 k3 s3] 25)=w7.alloc (.cells #[.int .i64 d.k,.int .i64 d.n,.string d.s,.slice h1 k1 s1,.slice h2 k2 s2,.slice h3 k3 s3] 25):=rfl;obtain⟨hb8,hs8⟩:=new_below hW8;have HB8:Hid (Below w6.heap.size w6 (w7.alloc (.cells #[.int .i64 d.k,.int .i64 d.n,.string d.s,.slice h1 k1 s1,.slice h2 k2 s2,.slice h3 k3 s3] 25))):=btr hb7 hb8;have HS:Hid (Ap.Src (w7.alloc (.cells #[.int .i64 d.k,.int .i64 d.n,.string d.s,.slice h1 k1 s1,.slice h2 k2 s2,.slice h3 k3 s3] 25)) (.slice (some ⟨w7.heap.size,0,none⟩) 1 1) 1 [.int .i64 d.k,.int .i64 d.n,.string d.s,.slice h1 k1 s1,.slice h2 k2 s2,.slice h3 k3 s3]):=Rd.srcNew hW8;have HRO:Hid ((w7.alloc (.cells #[.int .i64 d.k,.int .i64 d.n,.string d.s,.slice h1 k1 s1,.slice h2 k2 s2,.slice h3 k3 s3] 25)).ownsRow w3.heap.size 25 6 (.slice al m ql) m (Dt.flatP ps)):=by
   have h:=Dt.own_keep (S:=fun k=>k=P) HL.out.row.row (HKR.out.trans ((keep_of_below HB8.out))) (fun k hk e=>by have h1:=(Dt.own_lt HL.out.row.row k hk).1;have:=HN.out;omega);rw[←HL.out.ml]at h;exact h
  have HSZ:Hid (w3.heap.size≤(w7.alloc (.cells #[.int .i64 d.k,.int .i64 d.n,.string d.s,.slice h1 k1 s1,.slice h2 k2 s2,.slice h3 k3 s3] 25)).heap.size):=by have h1:=HL.out.kp.size;have h2:=HKR.out.size;have h3:=HB8.out.size;show w3.heap.size≤_;omega
  have hml:m≤1000000:=by have:=HL.out.mb;omega
  have hm1:m+1≤maxLen:=by unfold maxLen;omega
  have hm2:(m+1)*104≤140737488355328:=by omega
  obtain⟨dd0,dd1,dd2,dd3,dd4,dd5⟩:=HD7.out.c6;have df4:=HD7.out.frz 4;obtain⟨qq0,qq1,qq2,qq3,qq4,qq5⟩:=HQ7.out.c6;clear hcall hr6 hx6 hs6 hk6 hb7 hs7 hW8 hb8 hs8 hq0;have HL4:=zh (show l=(acc++[d])++l2 by rw[HL2.out];simp);have HMB:Hid (m+1+r2.length≤xs.length):=by
   have h1:=HL.out.mb;have h2:=HDL.out;show _≤_;omega
  have HMES:Hid (xs.length - pre'.length<xs.length - pre.length):=by
   have h1:=HDL.out;have h2:xs.length=pre'.length+r2.length:=by rw[HX6.out,List.length_append]
   have h3:xs.length=pre.length+(u :: r).length:=by rw[HXS.out,List.length_append]
   have h4:=HLEN.out;show _<_;omega
  go_wp2_with(at_builtin;refine Ap.list rfl _ _ 23 rfl w3.heap.size 25 i0 _ 6 104 Tryz.underlying23 HI.out HZ0.out HZ1.out HZ2.out rfl (by decide) (.slice al m ql) m (Dt.flatP ps) rfl HRO.out (.slice (some ⟨w7.heap.size,0,none⟩) 1 1) 1 [.int .i64 d.k,.int .i64 d.n,.string d.s,.slice h1 k1 s1,.slice h2 k2 s2,.slice h3 k3 s3] rfl HS.out rfl (by intro u hu;simp only[List.mem_cons,List.not_mem_nil,or_false]at hu;rcases hu with rfl|rfl|rfl|rfl|rfl|rfl <;> rfl) hm1 hm2 HSZ.out ?_;intro v' w9 hown hg hat;obtain⟨al',ql',rfl⟩:=Dt.row_form hown;obtain⟨n1,n2⟩:=Rd.pushK (S:=fun k=>k=P) HL.out.row HL.out.kp.size HKR.out (fun k hk e=>(by have:=HN.out;omega)) (p:=(⟨d,.slice h1 k1 s1,.slice h2 k2 s2,.slice h3 k3 s3⟩:Dt.P)) HR6.out HB8.out (by rw[←HL.out.ml];exact hown) hg hat;have hol:∀k,(Value.slice al m ql).ownBlock=some k→w3.heap.size≤k:=fun k e=>(Dt.own_lt HL.out.row.row k e).1;have HD9:Hid (Hp w9 (w.heap.size+2) #[.int .i64 6,.int .i64 0,.string ⟨#[]⟩,.slice none 0 0,.slice al m ql,.slice none 0 0] 25):=zh (HL.out.hd.keep n2 (fun e=>(by have:=HN.out;rcases e with e|e;omega;(have:=hol _ e;omega))));have HN1:=zh n1;have HN2:=zh n2;have HOL:=zh hol;have HS9:Hid (Co.RS w9 P tb xc xs pre'.length):=zh (((Hp.below HS6.out HB8.out):Hp _ P _ _).keep (Co.grown_keep2 (Below.refl _ _) hg) (fun e=>(by have:=HN.out;have:=hol _ e;omega)));clear hown hg hat n1 n2 hol dd0 dd1 dd2 dd3 dd4 dd5 df4 qq0 qq1 qq2 qq3 qq4 qq5 hw7;have u4:=HD9.out.cell 4 rfl;have uf4:=HD9.out.frz 4)
  have HFIN:Hid (Co.LR P tb xc xs w w3 g l rest (acc++[d]) (ps++[(⟨d,.slice h1 k1 s1,.slice h2 k2 s2,.slice h3 k3 s3⟩:Dt.P)]) pre' r2 al' (m+1) ql' (w9.setCell ⟨w.heap.size+2,4,none⟩ (.slice al' (m+1) ql'))):=by
   have k9:=set_keep w9 (w.heap.size+2) 4 (.slice al' (m+1) ql');have hn:=HN.out;refine⟨⟨l2,HL3.out,HL4.out⟩,HX6.out,HD9.out.set 4 _,HN1.out.keep k9 (fun k hk _ e=>by omega),by rw[List.length_append,←HL.out.ml];rfl,by rw[List.map_append,HL.out.mp];rfl,HS9.out.keep k9 (fun e=>by omega),?_,HMB.out⟩;exact(HL.out.kp.trans (HN2.out.le fun k e=>e.imp id (fun e=> .inr (HOL.out k e)))).trans (k9.le fun k e=> .inr (.inl e))
  clear u4 uf4;go_roundw
  case rel=>exact⟨g,_,_,pre',r2,al',m+1,ql',HFIN,by omega⟩
  case measure=>rw[HFIN.out.rs.left,HL.out.rs.left];exact HMES.out
theorem coSd_any(P tb xc:Nat)(xs:List Lx.PTok)(hx4:xs.length≤1000000)(F:Nat):Co.SdIs P tb xc xs F:=by
 induction F using Nat.strongRecOn with
 |ind F ih=>
  cases F with
  |zero=>
   intro ts rest pre x w hxs hsd;rw[Co.rdD]at hsd;cases hsd
  |succ f=>exact coSd_step P tb xc xs hx4 f (coSl_step P tb xc xs hx4 f (fun g hg=>ih g (by omega)))
end Go.Proofs.YtfjmlfbohenmfaaGreat
