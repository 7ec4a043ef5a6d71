/-
 shuttleref02.sameMarks, Same, at whatever data.
-/
import Derived.Test.YtfjmlfbohenmfaaGreatCoreBBM6
import Derived.Test.YtfjmlfbohenmfaaGreatCoreBBM2
namespace Go.Proofs.YtfjmlfbohenmfaaGreat
open Go.RowKit
namespace Dt
mutual
def eqD:D→D→Bool
 | .mk k n s m l t,.mk k' n' s' m' l' t'=>decide (k=k')&&decide (n=n')&&decide (s.data.toList=s'.data.toList)&&decide (m=m')&&eqDs l l'&&eqDs t t'
def eqDs:List D→List D→Bool
 |[],[]=>true
 |a :: l,b :: r=>eqD a b&&eqDs l r
 |_,_=>false
end
theorem bytes_ext{a b:ByteArray}(h:a.data.toList=b.data.toList):a=b:=by
 obtain⟨⟨x⟩⟩:=a;obtain⟨⟨y⟩⟩:=b;simp at h;rw[h]
mutual
theorem eqD_iff:∀(a b:D),eqD a b=true↔a=b
 | .mk k n s m l t,.mk k' n' s' m' l' t'=>by
  rw[eqD];simp only[Bool.and_eq_true,decide_eq_true_eq];constructor
  ·rintro⟨⟨⟨⟨⟨h1,h2⟩,h3⟩,h4⟩,h5⟩,h6⟩;rw[h1,h2,bytes_ext h3,h4,(eqDs_iff l l').1 h5,(eqDs_iff t t').1 h6]
  ·intro h;cases h;exact⟨⟨⟨⟨⟨rfl,rfl⟩,rfl⟩,rfl⟩,(eqDs_iff _ _).2 rfl⟩,(eqDs_iff _ _).2 rfl⟩
theorem eqDs_iff:∀(a b:List D),eqDs a b=true↔a=b
 |[],[]=>by rw[eqDs];simp
 |a :: l,b :: r=>by
  rw[eqDs,Bool.and_eq_true,eqD_iff a b,eqDs_iff l r];simp
 |[],b :: r=>by simp[eqDs]
 |a :: l,[]=>by simp[eqDs]
end
def sameD(a b:D):Bool:=decide (check a=0)&&decide (check b=0)&&eqD a b
def shp(d:D):Int×Int×List UInt8×List Int×Nat×Nat:=(d.k,d.n,d.s.data.toList,d.m,d.l.length,d.t.length)
mutual
theorem shp_inj:∀(a b:D) (u v:List D),(pre a++u).map shp=(pre b++v).map shp→a=b∧u.map shp=v.map shp
 | .mk k n s m l t,.mk k' n' s' m' l' t',u,v,h=>by
  rw[pre,pre]at h;simp only[List.cons_append,List.map_cons,List.cons.injEq]at h;obtain⟨h1,h2⟩:=h;unfold shp at h1;simp only[D.k,D.n,D.s,D.m,D.l,D.t,Prod.mk.injEq]at h1;obtain⟨e1,e2,e3,e4,e5,e6⟩:=h1;rw[List.append_assoc,List.append_assoc]at h2;obtain⟨f1,f2⟩:=shps_inj l l' (pres t++u) (pres t'++v) e5 h2;obtain⟨f3,f4⟩:=shps_inj t t' u v e6 f2;rw[e1,e2,bytes_ext e3,e4,f1,f3];exact⟨rfl,f4⟩
theorem shps_inj:∀(a b:List D) (u v:List D),a.length=b.length→(pres a++u).map shp=(pres b++v).map shp→a=b∧u.map shp=v.map shp
 |[],[],u,v,_,h=>⟨rfl,by simpa[pres]using h⟩
 |a :: l,b :: r,u,v,hl,h=>by
  rw[pres,pres,List.append_assoc,List.append_assoc]at h;obtain⟨f1,f2⟩:=shp_inj a b (pres l++u) (pres r++v) h;obtain⟨f3,f4⟩:=shps_inj l r u v (by simpa using hl) f2;rw[f1,f3];exact⟨rfl,f4⟩
 |[],b :: r,_,_,hl,_=>by simp at hl
 |a :: l,[],_,_,hl,_=>by simp at hl
end
theorem shp_pre{a b:D}:(pre a).map shp=(pre b).map shp↔a=b:=by
 constructor
 ·intro h;exact(shp_inj a b [] [] (by simpa using h)).1
 ·intro h;rw[h]
theorem pre_pos(a:D):0<(pre a).length:=by cases a;rw[pre];simp
theorem sameD_rows{a b:D}{ls ms:List P}(h1:ls.map P.d=(if check a=0 then pre a else []))(h2:ms.map P.d=(if check b=0 then pre b else [])):sameD a b=true↔ls≠[]∧ls.map (fun p=>shp p.d)=ms.map (fun p=>shp p.d):=by
 have e1:ls.map (fun p=>shp p.d)=(ls.map P.d).map shp:=by rw[List.map_map];rfl
 have e2:ms.map (fun p=>shp p.d)=(ms.map P.d).map shp:=by rw[List.map_map];rfl
 have e3:ls=[]↔ls.map P.d=[]:=by simp
 rw[e1,e2,Ne,e3,h1,h2];unfold sameD;have pa:=pre_pos a;have pb:=pre_pos b;have na:pre a≠[]:=by intro h;rw[h]at pa;simp at pa
 have nb:pre b≠[]:=by intro h;rw[h]at pb;simp at pb
 by_cases ha:check a=0
 ·by_cases hb:check b=0
  ·rw[if_pos ha,if_pos hb,decide_eq_true ha,decide_eq_true hb,shp_pre,←eqD_iff];simp[na]
  ·rw[if_pos ha,if_neg hb,decide_eq_false hb];simp[na]
 ·rw[if_neg ha,decide_eq_false ha];simp
theorem bdrew{n:Nat}{a w:World}(h:Below n a w)(k:Nat):Below n a (w.drewN k):=⟨h.os,h.tape,h.output,h.size,h.block⟩
theorem part_at{w:World}{base:Nat}{v:Value}{ls:List P}(h:w.ownsRow base 25 6 v ls.length (flatP ls))(j:Nat)(hj:j<ls.length):∃g c,v= .slice (some ⟨g,0,none⟩) ls.length c∧g<w.heap.size∧Six w g (j*6) ls[j].d ls[j].vm ls[j].vl ls[j].vt:=by
 rcases h.2 with⟨_,h0⟩|⟨g,cap,cur,rfl,e2,e3,e4⟩
 ·omega
 ·refine⟨g,cap,rfl,(h.lt g rfl).2,?_⟩;have hc:=fun c u hu=>h.cells (g:=g) rfl (j*6+c) u hu
  have hadd:∀k,(⟨g,0,none⟩:Addr).add k=⟨g,k,none⟩:=fun k=>by unfold Addr.add;split <;> simp_all
  simp only[hadd]at hc;have hf:∀c,c<6→(flatP ls)[j*6+c]?=ls[j].cells[c]?:=by
   intro c hc6;have hsplit:ls=ls.take j++ls[j] :: ls.drop (j+1):=by rw[←List.drop_eq_getElem_cons hj,List.take_append_drop]
   have hlen:(flatP (ls.take j)).length=j*6:=by rw[flatP_length,List.length_take,Nat.min_eq_left (by omega)]
   have:flatP ls=flatP (ls.take j)++(ls[j].cells++flatP (ls.drop (j+1))):=by
    conv=>lhs;rw[hsplit]
    unfold flatP;rw[List.flatMap_append,List.flatMap_cons]
   rw[this,List.getElem?_append_right (by omega),hlen,show j*6+c - j*6=c by omega,List.getElem?_append_left (by show c<6;exact hc6)]
  exact⟨hc 0 _ (hf 0 (by omega)),hc 1 _ (hf 1 (by omega)),hc 2 _ (hf 2 (by omega)),hc 3 _ (hf 3 (by omega)),hc 4 _ (hf 4 (by omega)),hc 5 _ (hf 5 (by omega))⟩
end Dt
set_option maxRecDepth 100000 in
set_option maxHeartbeats 4000000 in
theorem sameMarks_any{F G:Nat→Prop}(va vb:Value)(m m':List Int)(w:World)(ha:Dt.IRow F w va m)(hb:Dt.IRow G w vb m')(hl:m.length≤140737488355328)(hl':m'.length≤140737488355328):
  Calls Tryz.prog 62 #[va,vb] w fun e w'=>e= .returned (.bool (decide (m=m')))∧∃k,w'=w.drewN k:=by
 obtain⟨a,c,rfl,hc,h1⟩:=ha;obtain⟨a',c',rfl,hc',h1'⟩:=hb;obtain⟨R,hR⟩:∃R,R=decide (m=m'):=⟨_,rfl⟩
 rw[←hR];have HR:=zh hR;clear hR;by_cases hlen:m.length=m'.length
 case neg=>
  have HF:Hid (R=false):=by show _=_;rw[HR.out];exact decide_eq_false (fun e=>hlen (by rw[e]))
  have hli:((m.length:Int) !=(m'.length:Int))=true:=by simp;omega
  have hli':((m.length:Int)==(m'.length:Int))=false:=by simp;omega
  clear h1 h1' HR hlen;go_enter Tryz.func62,Tryz.ntmps62;go_wp2;go_ret;exact⟨by rw[HF.out];rfl,0,rfl⟩
 have H1:=zh h1;have H1':=zh h1';have HL:=zh hlen;rw[←hlen];clear h1 h1' hlen;go_enter Tryz.func62,Tryz.ntmps62;go_wp2
 go_loopw [5] (fun v wr=>∃j:Nat,v= .int .i64 j∧j≤m.length∧Hid (m.take j=m'.take j)∧Hid (∃k,wr=w.drewN k)) (fun v _=>m.length - (intOf v).toNat)
 case atStart=>exact⟨0,rfl,Nat.zero_le _,rfl,0,rfl⟩
 case round=>
  obtain⟨j,rfl,hj,HT,HBK⟩:=hrel;have HB:Hid (Below w.heap.size w wr):=by
   obtain⟨k,rfl⟩:=HBK.out;exact Dt.bdrew (Below.refl _ _) k
  by_cases hlt:j<m.length
  ·have hlti:(j:Int)<(m.length:Int):=by omega
   have hlt':j<m'.length:=by have:=HL.out;omega
   obtain⟨b,o,rfl,hF,hbw,hcell⟩:=H1.out (by intro e;rw[e]at hlt;simp at hlt);obtain⟨b',o',rfl,hF',hbw',hcell'⟩:=H1'.out (by intro e;rw[e]at hlt';simp at hlt');have q0:=(HB.out.cell (p:=⟨b,o+j,none⟩) hbw).trans (hcell j hlt);have q1:=(HB.out.cell (p:=⟨b',o'+j,none⟩) hbw').trans (hcell' j hlt');have hj0:(0:Int)≤(j:Int):=by omega
   clear hcell hcell' hF hF';by_cases he:m[j]=m'[j]
   ·have HN:Hid (m.take (j+1)=m'.take (j+1)):=by
     show _=_;rw[List.take_succ_eq_append_getElem hlt,List.take_succ_eq_append_getElem hlt',HT.out,he]
    obtain⟨x,hx⟩:∃x,x=m[j]:=⟨_,rfl⟩
    rw[←he]at q1;rw[←hx]at q0 q1;clear he HT hx;go_wp2
    go_quiet (fail)
    go_wp2;go_roundw
    case rel=>exact⟨j+1,by simp,by omega,HN,(by obtain⟨k,hk⟩:=HBK.out;exact⟨_,by rw[hk,World.drewN_drewN]⟩)⟩
    case measure=>simp[intOf];omega
   ·have HF:Hid (R=false):=by
     show _=_;rw[HR.out];refine decide_eq_false (fun e=>he ?_);subst e;rfl
    obtain⟨x,hx⟩:∃x,x=m[j]:=⟨_,rfl⟩
    obtain⟨y,hy⟩:∃y,y=m'[j]:=⟨_,rfl⟩
    rw[←hx,←hy]at he;rw[←hx]at q0;rw[←hy]at q1;have he':(x !=y)=true:=by simpa using he
    have he'':(x==y)=false:=by simpa using he
    clear he HT hx hy HR;go_wp2
    go_quiet (fail)
    go_wp2;go_ret;exact⟨by rw[HF.out];rfl,(by obtain⟨k,hk⟩:=HBK.out;exact⟨_,by rw[hk,World.drewN_drewN]⟩)⟩
  ·obtain rfl:j=m.length:=by omega
   have hge:(m.length:Int)≤(m.length:Int):=by omega
   have HF:Hid (R=true):=by
    show _=_;rw[HR.out];refine decide_eq_true ?_;have:=HT.out;rw[List.take_length,HL.out,List.take_length]at this;exact this
   go_wp2;go_ret;exact⟨by rw[HF.out];rfl,HBK.out⟩
namespace Dt
theorem boxes2(w:World)(x y:D)(a b c d e f:Value):∃w2,(w.alloc (.cells #[.int .i64 x.k,.int .i64 x.n,.string x.s,a,b,c] 25)).alloc (.cells #[.int .i64 y.k,.int .i64 y.n,.string y.s,d,e,f] 25)=w2∧Below w.heap.size w w2∧w2.heap.size=w.heap.size+1+1∧Box w2 w.heap.size x a b c∧Box w2 (w.heap.size+1) y d e f:=by
 refine⟨_,rfl,((Below.refl _ _).alloc (Nat.le_refl _) _).alloc (by rw[World.size_alloc];omega) _,by simp,?_,?_⟩
 ·have h:=six_new w x.k x.n x.s a b c 25;have hb:Below (w.alloc (.cells #[.int .i64 x.k,.int .i64 x.n,.string x.s,a,b,c] 25)).heap.size (w.alloc (.cells #[.int .i64 x.k,.int .i64 x.n,.string x.s,a,b,c] 25)) ((w.alloc (.cells #[.int .i64 x.k,.int .i64 x.n,.string x.s,a,b,c] 25)).alloc (.cells #[.int .i64 y.k,.int .i64 y.n,.string y.s,d,e,f] 25)):=(Below.refl _ _).alloc (Nat.le_refl _) _;have hl:w.heap.size<(w.alloc (.cells #[.int .i64 x.k,.int .i64 x.n,.string x.s,a,b,c] 25)).heap.size:=by rw[World.size_alloc];omega
  exact⟨(hb.cell (p:=⟨w.heap.size,0,none⟩) hl).trans (h 0 (by omega)),(hb.cell (p:=⟨w.heap.size,1,none⟩) hl).trans (h 1 (by omega)),(hb.cell (p:=⟨w.heap.size,2,none⟩) hl).trans (h 2 (by omega)),(hb.cell (p:=⟨w.heap.size,3,none⟩) hl).trans (h 3 (by omega)),(hb.cell (p:=⟨w.heap.size,4,none⟩) hl).trans (h 4 (by omega)),(hb.cell (p:=⟨w.heap.size,5,none⟩) hl).trans (h 5 (by omega))⟩
 ·have h:=six_new (w.alloc (.cells #[.int .i64 x.k,.int .i64 x.n,.string x.s,a,b,c] 25)) y.k y.n y.s d e f 25;rw[World.size_alloc]at h;exact⟨h 0 (by omega),h 1 (by omega),h 2 (by omega),h 3 (by omega),h 4 (by omega),h 5 (by omega)⟩
theorem Box.below{w w':World}{X:Nat}{d:D}{a b c:Value}(h:Box w X d a b c)(hb:Below w.heap.size w w'):Box w' X d a b c:=by
 obtain⟨h0,h1,h2,h3,h4,h5⟩:=h;have hl:=block_lt_of_cell h0;exact⟨(hb.cell (p:=⟨X,0,none⟩) hl).trans h0,(hb.cell (p:=⟨X,1,none⟩) hl).trans h1,(hb.cell (p:=⟨X,2,none⟩) hl).trans h2,(hb.cell (p:=⟨X,3,none⟩) hl).trans h3,(hb.cell (p:=⟨X,4,none⟩) hl).trans h4,(hb.cell (p:=⟨X,5,none⟩) hl).trans h5⟩
theorem own_below{w w':World}{b size n:Nat}{e:TypeId}{v:Value}{xs:List Value}(h:w.ownsRow b e size v n xs)(hb:Below w.heap.size w w'):w'.ownsRow b e size v n xs:=
 own_keep (S:=fun _=>False) h ((Keep.refl _ w).below hb) (fun _ _ h=>h)
theorem pre_le{x:D}{ls:List P}(h:ls.map P.d=(if check x=0 then pre x else [])):∀p∈ls,p.d∈pre x:=by
 intro p hp;have hm:p.d∈ls.map P.d:=List.mem_map_of_mem hp;rw[h]at hm;split at hm
 ·exact hm
 ·simp at hm
mutual
theorem wf_pre:∀(x:D),Wf x→∀y∈pre x,Wf y
 | .mk k n s m l t,h,y,hy=>by
  rw[pre]at hy;rcases List.mem_cons.1 hy with rfl|hy
  ·exact h
  ·rw[Wf]at h;rcases List.mem_append.1 hy with hy|hy
   ·exact wfs_pre l h.2.2.2.2.2.1 y hy
   ·exact wfs_pre t h.2.2.2.2.2.2 y hy
theorem wfs_pre:∀(l:List D),Wfs l→∀y∈pres l,Wf y
 |[],_,y,hy=>by simp[pres]at hy
 |d :: r,h,y,hy=>by
  rw[pres]at hy;rw[Wfs]at h;rcases List.mem_append.1 hy with hy|hy
  ·exact wf_pre d h.1 y hy
  ·exact wfs_pre r h.2 y hy
end
theorem wf_m{x:D}(h:Wf x):x.m.length≤140737488355328:=by cases x;rw[Wf]at h;exact h.2.2.1
end Dt
set_option maxRecDepth 100000 in
set_option maxHeartbeats 8000000 in
theorem rSame_any{F G:Nat→Prop}(x y:Dt.D)(vm vl vt um ul ut:Value)(w:World)(hWx:Dt.Wf x)(hWy:Dt.Wf y)(hRx:Dt.Rep F w x vm vl vt)(hRy:Dt.Rep G w y um ul ut):
  Calls Tryz.prog 31 #[.agg #[.int .i64 x.k,.int .i64 x.n,.string x.s,vm,vl,vt],.agg #[.int .i64 y.k,.int .i64 y.n,.string y.s,um,ul,ut]] w fun e w'=>e= .returned (.bool (Dt.sameD x y))∧Below w.heap.size w w':=by
 obtain⟨a1,n1,q1,a2,n2,q2,a3,n3,q3,rfl,rfl,rfl⟩:=hRx.forms;obtain⟨a1',n1',q1',a2',n2',q2',a3',n3',q3',rfl,rfl,rfl⟩:=hRy.forms;obtain⟨w2,hw2,hb2,hs2,hx2,hy2⟩:=Dt.boxes2 w x y (.slice a1 n1 q1) (.slice a2 n2 q2) (.slice a3 n3 q3) (.slice a1' n1' q1') (.slice a2' n2' q2') (.slice a3' n3' q3');have hx:=rAll_any x _ _ _ w2 hWx (hRx.below hb2);have HRy:=zh (hRy.below hb2);have HY2:=zh hy2;have HS2:=zh hs2;obtain⟨b0,b1,b2,b3,b4,b5⟩:=hx2;obtain⟨R,hR⟩:∃R,R=Dt.sameD x y:=⟨_,rfl⟩
 rw[←hR];have HR:=zh hR;have HWx:=zh hWx;have HWy:=zh hWy;have HB2:=zh hb2;clear hR hRx hRy hy2 hs2 hWx hWy hb2;go_enter Tryz.func31,Tryz.ntmps31;go_wp2_with fail
 refine hx.mono ?_;rintro e w3 ⟨vp,ls,rfl,hown,hrep,hmap,hlen,hb3⟩;have hy:=rAll_any y _ _ _ w3 HWy.out (HRy.out.below hb3);obtain⟨c0,c1,c2,c3,c4,c5⟩:=HY2.out.below hb3;obtain⟨ap,cp,rfl⟩:=Dt.row_form hown;have HO:=zh hown;have HP:=zh hrep;have HM:=zh hmap;have HB3:=zh ((btr HB2.out hb3));clear hx hown hrep hmap hb3 b0 b1 b2 b3 b4 b5 hw2 HRy HY2 HB2;go_wp2_with fail
 refine hy.mono ?_;rintro e w4 ⟨vq,ms,rfl,hown,hrep,hmap,hlen',hb4⟩;obtain⟨aq,cq,rfl⟩:=Dt.row_form hown;have HO':=zh (Dt.own_below HO.out hb4);have HP':=zh (fun p hp=>Dt.Rep.below hb4 (HP.out p hp));have HB4:=zh ((btr HB3.out hb4));have HQ:=zh hown;have HRQ:=zh hrep;have HM':=zh hmap;have HSD:=zh (Dt.sameD_rows HM.out hmap);clear hy hown hrep hmap hb4 c0 c1 c2 c3 c4 c5 HO HP HB3;by_cases hn:ls.length=0
 ·have HF:Hid (R=false):=by
   show _=_;rw[HR.out];cases h:Dt.sameD x y
   ·rfl
   ·exact absurd (List.length_eq_zero_iff.1 hn) (HSD.out.1 h).1
  have hni:((ls.length:Int)==0)=true:=by simpa using hn
  clear hn;go_wp2;go_ret;exact⟨by rw[HF.out];rfl,HB4.out⟩
 have hni:((ls.length:Int)==0)=false:=by rw[beq_eq_false_iff_ne];omega
 by_cases hne:ls.length=ms.length
 case neg=>
  have HF:Hid (R=false):=by
   show _=_;rw[HR.out];cases h:Dt.sameD x y
   ·rfl
   ·exact absurd (by have:=congrArg List.length (HSD.out.1 h).2;simpa using this) hne
  have hei:((ls.length:Int)==(ms.length:Int))=false:=by simp;omega
  have hei':((ls.length:Int) !=(ms.length:Int))=true:=by simp;omega
  clear hne hn;go_wp2;go_ret;exact⟨by rw[HF.out];rfl,HB4.out⟩
 have HE:=zh hne;have HN:=zh hn;rw[←hne];clear hn hne;go_wp2
 go_loopw [7] (fun v wr=>∃j:Nat,v= .int .i64 j∧j≤ls.length∧Hid (∀i (h:i<ls.length) (h':i<ms.length),i<j→Dt.shp ls[i].d=Dt.shp ms[i].d)∧Hid (Below w4.heap.size w4 wr)) (fun v _=>ls.length - (intOf v).toNat)
 case atStart=>exact⟨0,rfl,Nat.zero_le _,fun i _ _ h=>absurd h (by omega),Below.refl _ _⟩
 case round=>
  obtain⟨j,rfl,hj,HT,HB⟩:=hrel;by_cases hlt:j<ls.length
  ·have hlti:(j:Int)<(ls.length:Int):=by omega
   have hj0:(0:Int)≤(j:Int):=by omega
   have hlt':j<ms.length:=by have:=HE.out;omega
   obtain⟨g,c,hv,hg,s0,s1,s2,s3,s4,s5⟩:=Dt.part_at (Dt.own_below HO'.out HB.out) j hlt;obtain⟨g',c',hv',hg',t0,t1,t2,t3,t4,t5⟩:=Dt.part_at (Dt.own_below HQ.out HB.out) j hlt';obtain rfl:ap=some ⟨g,0,none⟩:=by cases hv;rfl
   obtain rfl:aq=some ⟨g',0,none⟩:=by cases hv';rfl
   have HRP:=zh ((HP'.out ls[j] (List.getElem_mem hlt)).below HB.out);have HRP':=zh ((HRQ.out ms[j] (List.getElem_mem hlt')).below HB.out);have hw1:=Dt.wf_pre x HWx.out _ (Dt.pre_le HM.out ls[j] (List.getElem_mem hlt));have hw2':=Dt.wf_pre y HWy.out _ (Dt.pre_le HM'.out ms[j] (List.getElem_mem hlt'));have HSN:Hid (Dt.shp ls[j].d=Dt.shp ms[j].d→∀i (h:i<ls.length) (h':i<ms.length),i<j+1→Dt.shp ls[i].d=Dt.shp ms[i].d):=by
    intro hs i h h' hi;by_cases hij:i=j
    ·subst hij;exact hs
    ·exact HT.out i h h' (by omega)
   have HSF:Hid (Dt.shp ls[j].d≠Dt.shp ms[j].d→R=false):=by
    intro hs;rw[HR.out];cases h:Dt.sameD x y
    ·rfl
    ·refine absurd ?_ hs;have h2:=(HSD.out.1 h).2;have:=congrArg (fun l=>l[j]?) h2;simpa[List.getElem?_map,hlt,hlt']using this
   obtain⟨p,hp⟩:∃p,ls[j]=p:=⟨_,rfl⟩
   obtain⟨q,hq⟩:∃q,ms[j]=q:=⟨_,rfl⟩
   rw[hp]at s0 s1 s2 s3 s4 s5 HRP hw1;rw[hq]at t0 t1 t2 t3 t4 t5 HRP' hw2';rw[hp,hq]at HSN HSF;clear hv hv' hp hq HT;obtain⟨p,pvm,pvl,pvt⟩:=p;obtain⟨q,qvm,qvl,qvt⟩:=q;simp only at s0 s1 s2 s3 s4 s5 t0 t1 t2 t3 t4 t5 HRP HRP' HSN HSF hw1 hw2';have hm1:=((Dt.rep_iff _ _ _ _ _ _).1 HRP.out).1;have hm2:=((Dt.rep_iff _ _ _ _ _ _).1 HRP'.out).1;have hsm:=fun n=>sameMarks_any pvm qvm p.m q.m (wr.drewN n) (hm1.below (Dt.bdrew (Below.refl _ _) n)) (hm2.below (Dt.bdrew (Below.refl _ _) n)) (Dt.wf_m hw1) (Dt.wf_m hw2')
   obtain⟨_,⟨al,cl,rfl,_⟩,⟨at_,ct,rfl,_⟩⟩:=(Dt.rep_iff _ _ _ _ _ _).1 HRP.out;obtain⟨_,⟨al',cl',rfl,_⟩,⟨at',ct',rfl,_⟩⟩:=(Dt.rep_iff _ _ _ _ _ _).1 HRP'.out;obtain⟨am,cm,rfl,_⟩:=hm1;obtain⟨am',cm',rfl,_⟩:=hm2;obtain⟨MB,hMB⟩:∃MB,MB=decide (p.m=q.m):=⟨_,rfl⟩
   rw[←hMB]at hsm;have HMB:=zh hMB;have hSM:=zh hsm;clear hMB hsm;by_cases hk:p.k=q.k
   case neg=>
    have hF:Hid (R=false):=HSF.out (fun e=>hk (by unfold Dt.shp at e;simp only[Prod.mk.injEq]at e;exact e.1));have hb1:(p.k !=q.k)=true:=by simpa using hk
    have hb2:(p.k==q.k)=false:=by simpa using hk
    clear hk;go_wp2_with fail
    go_quiet ((go_at_call 62;exact Calls.quiet_of (hSM.out _)))
    go_wp2;go_ret;exact⟨by rw[hF.out];rfl,HB4.out.trans ((Dt.bdrew HB.out _).mono HB4.out.size)⟩
   have hk1:(p.k !=q.k)=false:=by simpa using hk
   have hk2:(p.k==q.k)=true:=by simpa using hk
   have HKK:=zh hk;clear hk;by_cases hk:p.n=q.n
   case neg=>
    have hF:Hid (R=false):=HSF.out (fun e=>hk (by unfold Dt.shp at e;simp only[Prod.mk.injEq]at e;exact e.2.1));have hb1:(p.n !=q.n)=true:=by simpa using hk
    have hb2:(p.n==q.n)=false:=by simpa using hk
    clear hk;go_wp2_with fail
    go_quiet ((go_at_call 62;exact Calls.quiet_of (hSM.out _)))
    go_wp2;go_ret;exact⟨by rw[hF.out];rfl,HB4.out.trans ((Dt.bdrew HB.out _).mono HB4.out.size)⟩
   have hn1:(p.n !=q.n)=false:=by simpa using hk
   have hn2:(p.n==q.n)=true:=by simpa using hk
   have HKN:=zh hk;clear hk;by_cases hk:p.s.data.toList=q.s.data.toList
   case neg=>
    have hF:Hid (R=false):=HSF.out (fun e=>hk (by unfold Dt.shp at e;simp only[Prod.mk.injEq]at e;exact e.2.2.1));have hq:p.s≠q.s:=fun e=>hk (by rw[e])
    have hb3:decide (p.s=q.s)=false:=by simpa using hq
    have hb4:(p.s.toList==q.s.toList)=false:=by rw[ByteArray.toList_eq,ByteArray.toList_eq];simpa using hk
    have hb5:(p.s.toList !=q.s.toList)=true:=by rw[bne,hb4];rfl
    have hb6:(p.s.data==q.s.data)=false:=by rw[beq_eq_false_iff_ne];intro e;exact hk (by rw[e])
    have hb7:(p.s.data !=q.s.data)=true:=by rw[bne,hb6];rfl
    clear hq;clear hk;go_wp2_with fail
    go_quiet ((go_at_call 62;exact Calls.quiet_of (hSM.out _)))
    go_wp2;go_ret;exact⟨by rw[hF.out];rfl,HB4.out.trans ((Dt.bdrew HB.out _).mono HB4.out.size)⟩
   have HKS:=zh hk;have hse:=Dt.bytes_ext hk;obtain⟨ps,hps⟩:∃ps,ps=p.s:=⟨_,rfl⟩
   rw[←hse]at t2;rw[←hps]at s2 t2;clear hk hse hps;by_cases hk:p.m=q.m
   case neg=>
    have hF:Hid (R=false):=HSF.out (fun e=>hk (by unfold Dt.shp at e;simp only[Prod.mk.injEq]at e;exact e.2.2.2.1));have hmb:MB=false:=by rw[HMB.out];exact decide_eq_false hk
    rw[hmb]at hSM;clear hk;go_wp2_with fail
    go_quiet ((go_at_call 62;exact Calls.quiet_of (hSM.out _)))
    go_wp2;go_ret;exact⟨by rw[hF.out];rfl,HB4.out.trans ((Dt.bdrew HB.out _).mono HB4.out.size)⟩
   have hmb:MB=true:=by rw[HMB.out];exact decide_eq_true hk
   rw[hmb]at hSM;have HKM:=zh hk;clear hk;by_cases hk:p.l.length=q.l.length
   case neg=>
    have hF:Hid (R=false):=HSF.out (fun e=>hk (by unfold Dt.shp at e;simp only[Prod.mk.injEq]at e;exact e.2.2.2.2.1));have hb1:((p.l.length:Int) !=(q.l.length:Int))=true:=by simp;omega
    have hb2:((p.l.length:Int)==(q.l.length:Int))=false:=by rw[beq_eq_false_iff_ne];omega
    clear hk;go_wp2_with fail
    go_quiet ((go_at_call 62;exact Calls.quiet_of (hSM.out _)))
    go_wp2;go_ret;exact⟨by rw[hF.out];rfl,HB4.out.trans ((Dt.bdrew HB.out _).mono HB4.out.size)⟩
   have HKL:=zh hk;rw[←hk]at t4;clear hk;by_cases hk:p.t.length=q.t.length
   case neg=>
    have hF:Hid (R=false):=HSF.out (fun e=>hk (by unfold Dt.shp at e;simp only[Prod.mk.injEq]at e;exact e.2.2.2.2.2));have hb1:((p.t.length:Int) !=(q.t.length:Int))=true:=by simp;omega
    have hb2:((p.t.length:Int)==(q.t.length:Int))=false:=by rw[beq_eq_false_iff_ne];omega
    clear hk;go_wp2_with fail
    go_quiet ((go_at_call 62;exact Calls.quiet_of (hSM.out _)))
    go_wp2;go_ret;exact⟨by rw[hF.out];rfl,HB4.out.trans ((Dt.bdrew HB.out _).mono HB4.out.size)⟩
   have HNX:Hid (∀i (h:i<ls.length) (h':i<ms.length),i<j+1→Dt.shp ls[i].d=Dt.shp ms[i].d):=HSN.out (by unfold Dt.shp;rw[HKK.out,HKN.out,HKS.out,HKM.out,HKL.out,hk]);rw[←hk]at t5;clear hk;go_wp2_with fail
   go_quiet ((go_at_call 62;exact Calls.quiet_of (hSM.out _)))
   go_wp2;go_roundw
   case rel=>exact⟨j+1,by simp,by omega,HNX,Dt.bdrew HB.out _⟩
   case measure=>simp[intOf];omega
  ·obtain rfl:j=ls.length:=by omega
   have hge:(ls.length:Int)≤(ls.length:Int):=by omega
   have HF:Hid (R=true):=by
    show _=_;rw[HR.out];refine HSD.out.2 ⟨fun e=>HN.out (by rw[e];rfl),?_⟩;refine List.ext_getElem (by simpa using HE.out) fun i h1 h2=> ?_
    rw[List.getElem_map,List.getElem_map];exact HT.out i (by simpa using h1) (by simpa using h2) (by simpa using h1)
   go_wp2;go_ret;exact⟨by rw[HF.out];rfl,(btr HB4.out HB.out)⟩
end Go.Proofs.YtfjmlfbohenmfaaGreat
