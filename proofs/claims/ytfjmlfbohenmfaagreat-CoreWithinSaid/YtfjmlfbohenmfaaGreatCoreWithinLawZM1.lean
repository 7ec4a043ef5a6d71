/-
  Several texts of this proof in one: DtEqq, DtSamePq, CoSmallq, CoParamsq, CdFlowq, CdOpsq, CoFormsq, RgBq, DtDownSq, DtDownTq, DtWalkSq, DtAllSq, CdModelq, CdPlainq, CoConstq, CoAloneq, CoAloneFq, CoAlikePq, CoSameq, CoFreeq, CoAlikeLq, CoSetsq.
-/
import Derived.Test.YtfjmlfbohenmfaaGreatDtCheckq
import Derived.Test.YtfjmlfbohenmfaaGreatDtSameq
import Derived.Test.YtfjmlfbohenmfaaGreatMinq
import Derived.Test.YtfjmlfbohenmfaaGreatCoPlainq
import Derived.Test.YtfjmlfbohenmfaaGreatCoAlikeq
import Derived.Test.YtfjmlfbohenmfaaGreatDtSingleq
import Derived.Test.YtfjmlfbohenmfaaGreatMemq
import Derived.RegionTactic
import Derived.BigQuiet
import Derived.IntWalk
import Derived.Test.YtfjmlfbohenmfaaGreatPostq
import Derived.Laws.Tables
import Derived.Laws.Rows
import Derived.Laws.CopyOwn
import Derived.Great.Walk
import Derived.Deep.DeepCutAuto
import Derived.RangeFuncNested
import Derived.OrdersIn
import Derived.Test.YtfjmlfbohenmfaaGreatTbKeepq
import Derived.Test.YtfjmlfbohenmfaaGreatDtOwnq
import Derived.BigFrameIn
import Derived.Sort.CutIn
import Derived.Shelf.Abstract
import Derived.Test.YtfjmlfbohenmfaaGreatDtSingleKq
set_option maxRecDepth 100000
set_option maxHeartbeats 32000000
namespace Go.Proofs.YtfjmlfbohenmfaaGreat
open Go.RowKit
theorem iEqual_any{F G:Nat→Prop}(va vb:Value)(m m':List Int)(w:World)(ha:Dt.IRow F w va m)(hb:Dt.IRow G w vb m')(hl:m.length≤140737488355328)(_hl':m'.length≤140737488355328):
  Calls Tryz.prog 25 #[va,vb] w fun e w'=>e= .returned (.bool (decide (m=m')))∧Below w.heap.size w w':=by
 obtain⟨a,c,rfl,_,hc⟩:=ha;obtain⟨a',c',rfl,_,hc'⟩:=hb;obtain⟨R,hR⟩:∃R,R=decide (m=m'):=⟨_,rfl⟩
 rw[←hR];by_cases hlen:m.length=m'.length
 case neg=>
  have hne:((m.length:Int) !=(m'.length:Int))=true:=by simpa using fun h=>hlen (by omega)
  have HR:Hid (R=false):=by show _=_;rw[hR];exact decide_eq_false (fun e=>hlen (by rw[e]))
  clear hc hc' hR hlen;go_enter Tryz.func25,Tryz.ntmps25;go_wp2;go_ret;exact⟨by rw[HR.out];rfl,Below.refl _ _⟩
 have hne:((m.length:Int) !=(m'.length:Int))=false:=by simp[hlen]
 have H0:Hid (R=decide (m.drop 0=m'.drop 0)):=by show _=_;rw[List.drop_zero,List.drop_zero];exact hR
 have HC:=hd hc;have HC':=hd hc';have HL:=hd hlen;clear hc hc' hR hlen;go_enter Tryz.func25,Tryz.ntmps25;go_wp2
 go_loopw [13] (fun v wr=>∃k:Nat,v= .int .i64 k∧k≤m.length∧Hid (R=decide (m.drop k=m'.drop k))∧∃q,wr=w.drewN q) (fun v _=>m.length - (intOf v).toNat)
 case atStart=>exact⟨0,rfl,by omega,H0,0,rfl⟩
 case round=>
  obtain⟨k,rfl,hk,HR,q,rfl⟩:=hrel;by_cases hlt:k<m.length
  ·have hlti:(k:Int)<(m.length:Int):=by omega
   have hlt':k<m'.length:=by have:=HL.out;omega
   have hlti':(k:Int)<(m'.length:Int):=by omega
   obtain⟨b,o,rfl,_,hb,hcell⟩:=HC.out (by intro h0;rw[h0]at hlt;simp at hlt);obtain⟨b',o',rfl,_,hb',hcell'⟩:=HC'.out (by intro h0;rw[h0]at hlt';simp at hlt');have x0:=hcell k hlt;have y0:=hcell' k hlt';have hr:=HR.out;rw[List.drop_eq_getElem_cons hlt,List.drop_eq_getElem_cons hlt']at hr;obtain⟨x,hx⟩:∃x,m[k]=x:=⟨_,rfl⟩
   obtain⟨y,hy⟩:∃y,m'[k]=y:=⟨_,rfl⟩
   rw[hx]at x0 hr;rw[hy]at y0 hr;clear hx hy hcell hcell';by_cases hxy:x=y
   ·have hxe:(x !=y)=false:=by simp[hxy]
    have HN:Hid (R=decide (m.drop (k+1)=m'.drop (k+1))):=by show _=_;rw[hr];simp[hxy]
    clear hr;go_wp2
    go_quiet (fail)
    go_wp2;go_roundw
    case rel=>exact⟨k+1,by simp,by omega,HN,_,rfl⟩
    case measure=>simp[intOf];omega
   ·have hxe:(x !=y)=true:=by simpa using hxy
    have HN:Hid (R=false):=by show _=_;rw[hr];simp[hxy]
    clear hr hxy;go_wp2
    go_quiet (fail)
    go_wp2;go_ret;exact⟨by rw[HN.out];rfl,⟨rfl,rfl,rfl,Nat.le_refl _,fun _ _=>rfl⟩⟩
  ·have hge:(m.length:Int)≤(k:Int):=by omega
   have HN:Hid (R=true):=by show _=_;rw[HR.out,List.drop_eq_nil_of_le (by omega),List.drop_eq_nil_of_le (by have:=HL.out;omega)];rfl
   go_wp2;go_ret;exact⟨by rw[HN.out];rfl,⟨rfl,rfl,rfl,Nat.le_refl _,fun _ _=>rfl⟩⟩
namespace Dt
def EqC(y:D):Prop:=∀(F G:Nat→Prop) (z:D) (vm vl vt um ul ut:Value) (w:World),Wf y→Wf z→Rep F w y vm vl vt→Rep G w z um ul ut→
 Calls Tryz.prog 97 #[.agg #[.int .i64 y.k,.int .i64 y.n,.string y.s,vm,vl,vt],.agg #[.int .i64 z.k,.int .i64 z.n,.string z.s,um,ul,ut]] w fun e w'=>e= .returned (.bool (eqD y z))∧Below w.heap.size w w'
theorem six_of'(w:World)(x:D)(vm vl vt:Value)(t:TypeId):Six (w.alloc (.cells #[.int .i64 x.k,.int .i64 x.n,.string x.s,vm,vl,vt] t)) w.heap.size 0 x vm vl vt:=by
 have h:=six_new w x.k x.n x.s vm vl vt t;exact⟨h 0 (by omega),h 1 (by omega),h 2 (by omega),h 3 (by omega),h 4 (by omega),h 5 (by omega)⟩
theorem eqDs_len:∀(l r:List D),l.length≠r.length→eqDs l r=false
 |[],[],h=>absurd rfl h
 |[],_ :: _,_=>rfl
 |_ :: _,[],_=>rfl
 |a :: l,b :: r,h=>by rw[eqDs,eqDs_len l r (by simpa using h)];simp
end Dt
theorem eqFunc_any{F G:Nat→Prop}(va vb:Value)(l r:List Dt.D)(w:World)(ha:Dt.Row F w va l)(hb:Dt.Row G w vb r)(hl:l.length≤140737488355328)(_hl':r.length≤140737488355328)(hW:Dt.Wfs l)(hW':Dt.Wfs r)(hE:∀y∈l,Dt.EqC y):
  Calls Tryz.prog 116 #[va,vb,.func (.func 97) #[] #[]] w fun e w'=>e= .returned (.bool (Dt.eqDs l r))∧Below w.heap.size w w':=by
 obtain⟨a,c,rfl,_,hc⟩:=ha;obtain⟨a',c',rfl,_,hc'⟩:=hb;obtain⟨R,hR⟩:∃R,R=Dt.eqDs l r:=⟨_,rfl⟩
 rw[←hR];by_cases hlen:l.length=r.length
 case neg=>
  have hne:((l.length:Int) !=(r.length:Int))=true:=by simpa using fun h=>hlen (by omega)
  have HR:Hid (R=false):=by show _=_;rw[hR];exact Dt.eqDs_len _ _ hlen
  clear hc hc' hR hlen hE;go_enter Tryz.func116,Tryz.ntmps116;go_wp2;go_ret;exact⟨by rw[HR.out];rfl,Below.refl _ _⟩
 have hne:((l.length:Int) !=(r.length:Int))=false:=by simp[hlen]
 have H0:Hid (R=Dt.eqDs (l.drop 0) (r.drop 0)):=by show _=_;rw[List.drop_zero,List.drop_zero];exact hR
 have HC:=hd hc;have HC':=hd hc';have HL:=hd hlen;have HW:=hd hW;have HW':=hd hW';have HE:=hd hE;clear hc hc' hR hlen hE hW hW';go_enter Tryz.func116,Tryz.ntmps116;go_wp2
 go_loopw [17] (fun v wr=>∃k:Nat,v= .int .i64 k∧k≤l.length∧Hid (R=Dt.eqDs (l.drop k) (r.drop k))∧Hid (Below w.heap.size w wr)) (fun v _=>l.length - (intOf v).toNat)
 case atStart=>exact⟨0,rfl,by omega,H0,Below.refl _ _⟩
 case round=>
  obtain⟨k,rfl,hk,HR,HB⟩:=hrel;by_cases hlt:k<l.length
  ·have hlti:(k:Int)<(l.length:Int):=by omega
   have hlt':k<r.length:=by have:=HL.out;omega
   have hlti':(k:Int)<(r.length:Int):=by omega
   obtain⟨b,o,hao,hFb,hbl,hreps⟩:=HC.out (by intro h0;rw[h0]at hlt;simp at hlt);obtain⟨b',o',hao',hFb',hbl',hreps'⟩:=HC'.out (by intro h0;rw[h0]at hlt';simp at hlt');subst hao hao';have hkp:Keep (fun _=>False) w wr:=(Keep.refl _ w).below HB.out;obtain⟨vm,vl,vt,hs,hrp⟩:=(Dt.Reps.keep hkp (fun k hk _ h=>h) _ hFb hbl hreps).at k hlt;obtain⟨um,ul,ut,hs',hrp'⟩:=(Dt.Reps.keep hkp (fun k hk _ h=>h) _ hFb' hbl' hreps').at k hlt';obtain⟨a1,n1,c1,a2,n2,c2,a3,n3,c3,rfl,rfl,rfl⟩:=hrp.forms;obtain⟨d1,p1,q1,d2,p2,q2,d3,p3,q3,rfl,rfl,rfl⟩:=hrp'.forms;have hr:=HR.out;rw[List.drop_eq_getElem_cons hlt,List.drop_eq_getElem_cons hlt',Dt.eqDs]at hr;have hy:=HE.out l[k] (List.getElem_mem hlt);have hwf:=HW.out.at k hlt;have hwf':=HW'.out.at k hlt';obtain⟨y,hyy⟩:∃y,l[k]=y:=⟨_,rfl⟩
   obtain⟨z,hzz⟩:∃z,r[k]=z:=⟨_,rfl⟩
   rw[hyy]at hs hrp hr hy hwf;rw[hzz]at hs' hrp' hr hwf';obtain⟨y0,y1,y2,y3,y4,y5⟩:=hs;obtain⟨wc,hwc⟩:∃wc,wr.alloc (.cells #[.int .i64 y.k,.int .i64 y.n,.string y.s,.slice a1 n1 c1,.slice a2 n2 c2,.slice a3 n3 c3] 25)=wc:=⟨_,rfl⟩
   have hbc:Below wr.heap.size wr wc:=by rw[←hwc];exact(Below.refl _ _).alloc (Nat.le_refl _) _
   obtain⟨z0,z1,z2,z3,z4,z5⟩:=hs'.keep (S:=fun _=>False) ((Keep.refl _ _).below hbc) (Nat.lt_of_lt_of_le hbl' HB.out.size) id;obtain⟨wd,hwd⟩:∃wd,wc.alloc (.cells #[.int .i64 z.k,.int .i64 z.n,.string z.s,.slice d1 p1 q1,.slice d2 p2 q2,.slice d3 p3 q3] 25)=wd:=⟨_,rfl⟩
   have hbd:Below wc.heap.size wc wd:=by rw[←hwd];exact(Below.refl _ _).alloc (Nat.le_refl _) _
   have hcall:=hy F G z _ _ _ _ _ _ wd hwf hwf' ((hrp.below hbc).below hbd) ((hrp'.below hbc).below hbd);obtain⟨V,hV⟩:∃V,Dt.eqD y z=V:=⟨_,rfl⟩
   rw[hV]at hcall hr;have HCALL:=hd hcall;have HBD:Hid (Below w.heap.size w wd):=((btr HB.out hbc)).trans (hbd.mono (Nat.le_trans HB.out.size hbc.size));have HRR:=hd hr;have HBD2:=hd hbd;have hltc:wr.heap.size<wc.heap.size:=by rw[←hwc,World.size_alloc];omega
   clear hcall hr hy hwf hwf' hrp hrp' hreps hreps' hkp hyy hzz hbc hbd hFb hFb' hbl hbl' hV;obtain⟨YB,hYB⟩:∃YB,wr.heap.size=YB:=⟨_,rfl⟩
   obtain⟨ZB,hZB⟩:∃ZB,wc.heap.size=ZB:=⟨_,rfl⟩
   have hsy:Dt.Six wd YB 0 y (.slice a1 n1 c1) (.slice a2 n2 c2) (.slice a3 n3 c3):=by
    have h:=Dt.six_of' wr y (.slice a1 n1 c1) (.slice a2 n2 c2) (.slice a3 n3 c3) 25;rw[hwc,hYB]at h;exact h.keep (S:=fun _=>False) ((Keep.refl _ _).below HBD2.out) (by rw[←hYB];exact hltc) id
   have hsz:Dt.Six wd ZB 0 z (.slice d1 p1 q1) (.slice d2 p2 q2) (.slice d3 p3 q3):=by
    have h:=Dt.six_of' wc z (.slice d1 p1 q1) (.slice d2 p2 q2) (.slice d3 p3 q3) 25;rw[hwd,hZB]at h;exact h
   obtain⟨s0,s1,s2,s3,s4,s5⟩:=hsy;obtain⟨t0,t1,t2,t3,t4,t5⟩:=hsz;simp only[Nat.zero_add]at s0 s1 s2 s3 s4 s5 t0 t1 t2 t3 t4 t5;clear hltc
   cases V with
   |false=>
    have HN:Hid (R=false):=by show _=_;rw[HRR.out];rfl
    clear HRR;go_wp2_with(go_at_call 97;refine HCALL.out.mono ?_;rintro e w9 ⟨rfl,hb9⟩;have HB9:=hd (btr HBD.out hb9);clear hb9 HCALL HBD HBD2 hwc hwd hYB hZB s0 s1 s2 s3 s4 s5 t0 t1 t2 t3 t4 t5 y0 y1 y2 y3 y4 y5 z0 z1 z2 z3 z4 z5)
    go_ret;exact⟨by rw[HN.out];rfl,HB9.out⟩
   |true=>
    have HN:Hid (R=Dt.eqDs (l.drop (k+1)) (r.drop (k+1))):=by show _=_;rw[HRR.out];rfl
    clear HRR;go_wp2_with(go_at_call 97;refine HCALL.out.mono ?_;rintro e w9 ⟨rfl,hb9⟩;have HB9:=hd (btr HBD.out hb9);clear hb9 HCALL HBD HBD2 hwc hwd hYB hZB s0 s1 s2 s3 s4 s5 t0 t1 t2 t3 t4 t5 y0 y1 y2 y3 y4 y5 z0 z1 z2 z3 z4 z5)
    go_roundw
    case rel=>exact⟨k+1,by simp,by omega,HN,HB9⟩
    case measure=>simp[intOf];omega
  ·have hge:(l.length:Int)≤(k:Int):=by omega
   have HN:Hid (R=true):=by show _=_;rw[HR.out,List.drop_eq_nil_of_le (by omega),List.drop_eq_nil_of_le (by have:=HL.out;omega)];rfl
   go_wp2;go_ret;exact⟨by rw[HN.out];rfl,HB.out⟩
theorem equal_step(x:Dt.D)(hl:∀y∈x.l,Dt.EqC y)(ht:∀y∈x.t,Dt.EqC y):Dt.EqC x:=by
 intro F G z vm vl vt um ul ut w hW hW' hR hR';obtain⟨w1,hw1⟩:∃w1,w.alloc (.cells #[.int .i64 x.k,.int .i64 x.n,.string x.s,vm,vl,vt] 25)=w1:=⟨_,rfl⟩
 obtain⟨w2,hw2⟩:∃w2,w1.alloc (.cells #[.int .i64 z.k,.int .i64 z.n,.string z.s,um,ul,ut] 25)=w2:=⟨_,rfl⟩
 have hb1:Below w.heap.size w w1:=by rw[←hw1];exact(Below.refl _ _).alloc (Nat.le_refl _) _
 have hb2:Below w1.heap.size w1 w2:=by rw[←hw2];exact(Below.refl _ _).alloc (Nat.le_refl _) _
 have hz1:w1.heap.size=w.heap.size+1:=by rw[←hw1,World.size_alloc]
 have hz2:w2.heap.size=w.heap.size+2:=by rw[←hw2,World.size_alloc,hz1]
 have hsx:Dt.Six w2 w.heap.size 0 x vm vl vt:=by
  have h:=Dt.six_of' w x vm vl vt 25;rw[hw1]at h;exact h.keep (S:=fun _=>False) ((Keep.refl _ _).below hb2) (by omega) id
 obtain⟨Z,hZ⟩:∃Z,w1.heap.size=Z:=⟨_,rfl⟩
 have hsz:Dt.Six w2 Z 0 z um ul ut:=by
  have h:=Dt.six_of' w1 z um ul ut 25;rw[hw2,hZ]at h;exact h
 have HB:=hd (hb1.trans (hb2.mono (by omega)));have HR:=hd ((hR.below hb1).below hb2);have HR':=hd ((hR'.below hb1).below hb2);have h3:=(Dt.rep_iff F w2 x vm vl vt).1 HR.out;have h3':=(Dt.rep_iff G w2 z um ul ut).1 HR'.out;have hm:=iEqual_any vm um x.m z.m w2 h3.1 h3'.1 (Dt.wf_m hW) (Dt.wf_m hW');have hLc:=fun u (hu:Below w2.heap.size w2 u)=>eqFunc_any vl ul x.l z.l u (((Dt.rep_iff F u x vm vl vt).1 (HR.out.below hu)).2.1) (((Dt.rep_iff G u z um ul ut).1 (HR'.out.below hu)).2.1) (Dt.wf_len hW).1 (Dt.wf_len hW').1 (Dt.wf_l hW) (Dt.wf_l hW') hl
 have hTc:=fun u (hu:Below w2.heap.size w2 u)=>eqFunc_any vt ut x.t z.t u (((Dt.rep_iff F u x vm vl vt).1 (HR.out.below hu)).2.2) (((Dt.rep_iff G u z um ul ut).1 (HR'.out.below hu)).2.2) (Dt.wf_len hW).2 (Dt.wf_len hW').2 (Dt.wf_t hW) (Dt.wf_t hW') ht
 obtain⟨x0,x1,x2,x3,x4,x5⟩:=hsx;obtain⟨z0,z1,z2,z3,z4,z5⟩:=hsz;have HSX:Hid (Dt.Six w2 w.heap.size 0 x vm vl vt):=⟨x0,x1,x2,x3,x4,x5⟩
 have HSZ:Hid (Dt.Six w2 Z 0 z um ul ut):=⟨z0,z1,z2,z3,z4,z5⟩
 simp only[Nat.zero_add]at x0 x1 x2 x3 x4 x5 z0 z1 z2 z3 z4 z5;have hev:Dt.eqD x z=(decide (x.k=z.k)&&decide (x.n=z.n)&&decide (x.s.data.toList=z.s.data.toList)&&decide (x.m=z.m)&&Dt.eqDs x.l z.l&&Dt.eqDs x.t z.t):=by
  cases x;cases z;rw[Dt.eqD];rfl
 obtain⟨a1,n1,c1,a2,n2,c2,a3,n3,c3,rfl,rfl,rfl⟩:=hR.forms;obtain⟨d1,p1,q1,d2,p2,q2,d3,p3,q3,rfl,rfl,rfl⟩:=hR'.forms;have HM:=hd hm;have HLC:=hd hLc;have HTC:=hd hTc;have HEV:=hd hev;have HZ2:Hid (w.heap.size<w2.heap.size∧Z<w2.heap.size):=⟨by omega,by omega⟩
 clear hm hLc hTc hev h3 h3' hR hR' hW hW' hb1 hb2 hl ht hz1 hz2;by_cases k1:x.k=z.k
 case neg=>
  have b1:(x.k==z.k)=false:=by simpa using k1
  have HN:Hid (Dt.eqD x z=false):=by show _=_;rw[HEV.out];simp[k1]
  clear k1;go_enter Tryz.func97,Tryz.ntmps97;go_wp2_with(fail)
  go_ret;exact⟨by rw[HN.out];rfl,HB.out⟩
 have b1:(x.k==z.k)=true:=by simpa using k1
 have K1:=hd k1;clear k1;by_cases k2:x.n=z.n
 case neg=>
  have b2:(x.n==z.n)=false:=by simpa using k2
  have HN:Hid (Dt.eqD x z=false):=by show _=_;rw[HEV.out];simp[K1.out,k2]
  clear k2;go_enter Tryz.func97,Tryz.ntmps97;go_wp2_with(fail)
  go_ret;exact⟨by rw[HN.out];rfl,HB.out⟩
 have b2:(x.n==z.n)=true:=by simpa using k2
 have K2:=hd k2;clear k2;by_cases k3:x.s.data.toList=z.s.data.toList
 case neg=>
  have b3:(x.s.data==z.s.data)=false:=by rw[beq_eq_false_iff_ne];intro e;exact k3 (by rw[e])
  have b3b:decide (x.s=z.s)=false:=by simpa using fun e=>k3 (by rw[e])
  have b3c:(x.s.toList==z.s.toList)=false:=by rw[ByteArray.toList_eq,ByteArray.toList_eq];simpa using k3
  have b3d:(x.s==z.s)=false:=b3;have HN:Hid (Dt.eqD x z=false):=by show _=_;rw[HEV.out];simp[K1.out,K2.out,k3]
  clear k3;go_enter Tryz.func97,Tryz.ntmps97;go_wp2_with(fail)
  go_ret;exact⟨by rw[HN.out];rfl,HB.out⟩
 have b3:(x.s.data==z.s.data)=true:=by rw[Dt.bytes_ext k3];simp
 have b3b:decide (x.s=z.s)=true:=decide_eq_true (Dt.bytes_ext k3);have b3c:(x.s.toList==z.s.toList)=true:=by rw[Dt.bytes_ext k3];simp
 have b3d:(x.s==z.s)=true:=b3;have K3:=hd k3;clear k3;by_cases k4:x.m=z.m
 case neg=>
  have b4:decide (x.m=z.m)=false:=decide_eq_false k4;have HN:Hid (Dt.eqD x z=false):=by show _=_;rw[HEV.out];simp[K1.out,K2.out,K3.out,k4]
  clear k4;go_enter Tryz.func97,Tryz.ntmps97;go_wp2_with(first|(go_at_call 25;refine HM.out.mono ?_;clear x0 x1 x2 x3 x4 x5 z0 z1 z2 z3 z4 z5;rintro e w3 ⟨rfl,hb3⟩;have HB3:=hd hb3;clear hb3 hw1 hw2;obtain⟨x0,x1,x2,x3,x4,x5⟩:=HSX.out.keep (S:=fun _=>False) ((Keep.refl _ _).below HB3.out) HZ2.out.1 id;obtain⟨z0,z1,z2,z3,z4,z5⟩:=HSZ.out.keep (S:=fun _=>False) ((Keep.refl _ _).below HB3.out) HZ2.out.2 id;simp only[Nat.zero_add]at x0 x1 x2 x3 x4 x5 z0 z1 z2 z3 z4 z5))
  go_ret;exact⟨by rw[HN.out];rfl,(btr HB.out HB3.out)⟩
 have b4:decide (x.m=z.m)=true:=decide_eq_true k4;have K4:=hd k4;clear k4;by_cases k5:Dt.eqDs x.l z.l=true
 case neg=>
  have b5:Dt.eqDs x.l z.l=false:=by simpa using k5
  have HN:Hid (Dt.eqD x z=false):=by show _=_;rw[HEV.out];simp[K1.out,K2.out,K3.out,K4.out,k5]
  clear k5;go_enter Tryz.func97,Tryz.ntmps97;go_wp2_with(first|(go_at_call 25;refine HM.out.mono ?_;clear x0 x1 x2 x3 x4 x5 z0 z1 z2 z3 z4 z5;rintro e w3 ⟨rfl,hb3⟩;have HB3:=hd hb3;clear hb3 hw1 hw2;obtain⟨x0,x1,x2,x3,x4,x5⟩:=HSX.out.keep (S:=fun _=>False) ((Keep.refl _ _).below HB3.out) HZ2.out.1 id;obtain⟨z0,z1,z2,z3,z4,z5⟩:=HSZ.out.keep (S:=fun _=>False) ((Keep.refl _ _).below HB3.out) HZ2.out.2 id;simp only[Nat.zero_add]at x0 x1 x2 x3 x4 x5 z0 z1 z2 z3 z4 z5)|(go_at_call 116;with_reducible refine(HLC.out _ HB3.out).mono ?_;clear x0 x1 x2 x3 x4 x5 z0 z1 z2 z3 z4 z5;rintro e w4 ⟨rfl,hb4⟩;have HB4:=hd ((btr HB3.out hb4));clear hb4;obtain⟨x0,x1,x2,x3,x4,x5⟩:=HSX.out.keep (S:=fun _=>False) ((Keep.refl _ _).below HB4.out) HZ2.out.1 id;obtain⟨z0,z1,z2,z3,z4,z5⟩:=HSZ.out.keep (S:=fun _=>False) ((Keep.refl _ _).below HB4.out) HZ2.out.2 id;simp only[Nat.zero_add]at x0 x1 x2 x3 x4 x5 z0 z1 z2 z3 z4 z5))
  go_ret;exact⟨by rw[HN.out];rfl,(btr HB.out HB4.out)⟩
 have b5:Dt.eqDs x.l z.l=true:=k5;have K5:=hd k5;clear k5;by_cases k6:Dt.eqDs x.t z.t=true
 case neg=>
  have b6:Dt.eqDs x.t z.t=false:=by simpa using k6
  have HN:Hid (Dt.eqD x z=false):=by show _=_;rw[HEV.out];simp[K1.out,K2.out,K3.out,K4.out,K5.out,k6]
  clear k6;go_enter Tryz.func97,Tryz.ntmps97;go_wp2_with(first|(go_at_call 25;refine HM.out.mono ?_;clear x0 x1 x2 x3 x4 x5 z0 z1 z2 z3 z4 z5;rintro e w3 ⟨rfl,hb3⟩;have HB3:=hd hb3;clear hb3 hw1 hw2;obtain⟨x0,x1,x2,x3,x4,x5⟩:=HSX.out.keep (S:=fun _=>False) ((Keep.refl _ _).below HB3.out) HZ2.out.1 id;obtain⟨z0,z1,z2,z3,z4,z5⟩:=HSZ.out.keep (S:=fun _=>False) ((Keep.refl _ _).below HB3.out) HZ2.out.2 id;simp only[Nat.zero_add]at x0 x1 x2 x3 x4 x5 z0 z1 z2 z3 z4 z5)|(go_at_call 116;with_reducible refine(HLC.out _ HB3.out).mono ?_;clear x0 x1 x2 x3 x4 x5 z0 z1 z2 z3 z4 z5;rintro e w4 ⟨rfl,hb4⟩;have HB4:=hd ((btr HB3.out hb4));clear hb4;obtain⟨x0,x1,x2,x3,x4,x5⟩:=HSX.out.keep (S:=fun _=>False) ((Keep.refl _ _).below HB4.out) HZ2.out.1 id;obtain⟨z0,z1,z2,z3,z4,z5⟩:=HSZ.out.keep (S:=fun _=>False) ((Keep.refl _ _).below HB4.out) HZ2.out.2 id;simp only[Nat.zero_add]at x0 x1 x2 x3 x4 x5 z0 z1 z2 z3 z4 z5)|(go_at_call 116;with_reducible refine(HTC.out _ HB4.out).mono ?_;clear x0 x1 x2 x3 x4 x5 z0 z1 z2 z3 z4 z5;rintro e w5 ⟨rfl,hb5⟩;have HB5:=hd ((btr HB4.out hb5));clear hb5))
  go_ret;exact⟨by rw[HN.out];rfl,(btr HB.out HB5.out)⟩
 have b6:Dt.eqDs x.t z.t=true:=k6;have K6:=hd k6;clear k6;have HN:Hid (Dt.eqD x z=true):=by show _=_;rw[HEV.out];simp[K1.out,K2.out,K3.out,K4.out,K5.out,K6.out]
 go_enter Tryz.func97,Tryz.ntmps97;go_wp2_with(first|(go_at_call 25;refine HM.out.mono ?_;clear x0 x1 x2 x3 x4 x5 z0 z1 z2 z3 z4 z5;rintro e w3 ⟨rfl,hb3⟩;have HB3:=hd hb3;clear hb3 hw1 hw2;obtain⟨x0,x1,x2,x3,x4,x5⟩:=HSX.out.keep (S:=fun _=>False) ((Keep.refl _ _).below HB3.out) HZ2.out.1 id;obtain⟨z0,z1,z2,z3,z4,z5⟩:=HSZ.out.keep (S:=fun _=>False) ((Keep.refl _ _).below HB3.out) HZ2.out.2 id;simp only[Nat.zero_add]at x0 x1 x2 x3 x4 x5 z0 z1 z2 z3 z4 z5)|(go_at_call 116;with_reducible refine(HLC.out _ HB3.out).mono ?_;clear x0 x1 x2 x3 x4 x5 z0 z1 z2 z3 z4 z5;rintro e w4 ⟨rfl,hb4⟩;have HB4:=hd ((btr HB3.out hb4));clear hb4;obtain⟨x0,x1,x2,x3,x4,x5⟩:=HSX.out.keep (S:=fun _=>False) ((Keep.refl _ _).below HB4.out) HZ2.out.1 id;obtain⟨z0,z1,z2,z3,z4,z5⟩:=HSZ.out.keep (S:=fun _=>False) ((Keep.refl _ _).below HB4.out) HZ2.out.2 id;simp only[Nat.zero_add]at x0 x1 x2 x3 x4 x5 z0 z1 z2 z3 z4 z5)|(go_at_call 116;with_reducible refine(HTC.out _ HB4.out).mono ?_;clear x0 x1 x2 x3 x4 x5 z0 z1 z2 z3 z4 z5;rintro e w5 ⟨rfl,hb5⟩;have HB5:=hd ((btr HB4.out hb5));clear hb5))
 go_ret;exact⟨by rw[HN.out];rfl,(btr HB.out HB5.out)⟩
mutual
theorem Dt.equal_any:∀x:Dt.D,Dt.EqC x
 | .mk k n s m l t=>equal_step (.mk k n s m l t) (Dt.equals_any l) (Dt.equals_any t)
theorem Dt.equals_any:∀(l:List Dt.D) (y:Dt.D),y∈l→Dt.EqC y
 |[],_,h=>absurd h (by simp)
 |x :: r,y,h=>(List.mem_cons.1 h).elim (fun e=>by rw[e];exact Dt.equal_any x) (fun h'=>Dt.equals_any r y h')
end
theorem dSame_any{F G:Nat→Prop}(x z:Dt.D)(vm vl vt um ul ut:Value)(w:World)(hW:Dt.Wf x)(hW':Dt.Wf z)(hR:Dt.Rep F w x vm vl vt)(hR':Dt.Rep G w z um ul ut):
  Calls Tryz.prog 69 #[.agg #[.int .i64 x.k,.int .i64 x.n,.string x.s,vm,vl,vt],.agg #[.int .i64 z.k,.int .i64 z.n,.string z.s,um,ul,ut]] w fun e w'=>e= .returned (.bool (Dt.sameD x z))∧Below w.heap.size w w':=by
 obtain⟨w1,hw1⟩:∃w1,w.alloc (.cells #[.int .i64 x.k,.int .i64 x.n,.string x.s,vm,vl,vt] 25)=w1:=⟨_,rfl⟩
 obtain⟨w2,hw2⟩:∃w2,w1.alloc (.cells #[.int .i64 z.k,.int .i64 z.n,.string z.s,um,ul,ut] 25)=w2:=⟨_,rfl⟩
 have hb1:Below w.heap.size w w1:=by rw[←hw1];exact(Below.refl _ _).alloc (Nat.le_refl _) _
 have hb2:Below w1.heap.size w1 w2:=by rw[←hw2];exact(Below.refl _ _).alloc (Nat.le_refl _) _
 have hz1:w1.heap.size=w.heap.size+1:=by rw[←hw1,World.size_alloc]
 have hz2:w2.heap.size=w.heap.size+2:=by rw[←hw2,World.size_alloc,hz1]
 have hsx:Dt.Six w2 w.heap.size 0 x vm vl vt:=by
  have h:=Dt.six_of' w x vm vl vt 25;rw[hw1]at h;exact h.keep (S:=fun _=>False) ((Keep.refl _ _).below hb2) (by omega) id
 obtain⟨Z,hZ⟩:∃Z,w1.heap.size=Z:=⟨_,rfl⟩
 have hsz:Dt.Six w2 Z 0 z um ul ut:=by
  have h:=Dt.six_of' w1 z um ul ut 25;rw[hw2,hZ]at h;exact h
 have HB:=hd (hb1.trans (hb2.mono (by omega)));have HR:=hd ((hR.below hb1).below hb2);have HR':=hd ((hR'.below hb1).below hb2);have hc:=fun u (hu:Below w2.heap.size w2 u)=>dCheck_any x vm vl vt u hW (HR.out.below hu)
 have hc':=fun u (hu:Below w2.heap.size w2 u)=>dCheck_any z um ul ut u hW' (HR'.out.below hu)
 have he:=fun u (hu:Below w2.heap.size w2 u)=>Dt.equal_any x F G z vm vl vt um ul ut u hW hW' (HR.out.below hu) (HR'.out.below hu)
 obtain⟨x0,x1,x2,x3,x4,x5⟩:=hsx;obtain⟨z0,z1,z2,z3,z4,z5⟩:=hsz;have HSX:Hid (Dt.Six w2 w.heap.size 0 x vm vl vt):=⟨x0,x1,x2,x3,x4,x5⟩
 have HSZ:Hid (Dt.Six w2 Z 0 z um ul ut):=⟨z0,z1,z2,z3,z4,z5⟩
 simp only[Nat.zero_add]at x0 x1 x2 x3 x4 x5 z0 z1 z2 z3 z4 z5;obtain⟨a1,n1,c1,a2,n2,c2,a3,n3,c3,rfl,rfl,rfl⟩:=hR.forms;obtain⟨d1,p1,q1,d2,p2,q2,d3,p3,q3,rfl,rfl,rfl⟩:=hR'.forms;obtain⟨S,hS⟩:∃S,S=Dt.sameD x z:=⟨_,rfl⟩
 rw[←hS];unfold Dt.sameD at hS;obtain⟨C,hC⟩:∃C,C=Dt.check x:=⟨_,rfl⟩
 obtain⟨C',hC'⟩:∃C',C'=Dt.check z:=⟨_,rfl⟩
 obtain⟨E,hE⟩:∃E,E=Dt.eqD x z:=⟨_,rfl⟩
 rw[←hC]at hc;rw[←hC']at hc';rw[←hE]at he;rw[←hC,←hC',←hE]at hS;have HC:=hd hc;have HC':=hd hc';have HE:=hd he;have HZ2:Hid (w.heap.size<w2.heap.size∧Z<w2.heap.size):=⟨by omega,by omega⟩
 clear hc hc' he hR hR' hW hW' hb1 hb2 hz1 hz2 hC hC' hE;by_cases k1:C=0
 case neg=>
  have b1:(C==0)=false:=by simpa using k1
  have HN:Hid (S=false):=by show _=_;rw[hS];simp[k1]
  clear k1 hS;go_enter Tryz.func69,Tryz.ntmps69;go_wp2_with(first|(go_at_call 58;with_reducible refine(HC.out _ (Below.refl _ _)).mono ?_;clear x0 x1 x2 x3 x4 x5 z0 z1 z2 z3 z4 z5;rintro e w3 ⟨rfl,hb3⟩;have HB3:=hd hb3;clear hb3 hw1 hw2;obtain⟨x0,x1,x2,x3,x4,x5⟩:=HSX.out.keep (S:=fun _=>False) ((Keep.refl _ _).below HB3.out) HZ2.out.1 id;obtain⟨z0,z1,z2,z3,z4,z5⟩:=HSZ.out.keep (S:=fun _=>False) ((Keep.refl _ _).below HB3.out) HZ2.out.2 id;simp only[Nat.zero_add]at x0 x1 x2 x3 x4 x5 z0 z1 z2 z3 z4 z5)|fail)
  go_ret;exact⟨by rw[HN.out];rfl,(btr HB.out HB3.out)⟩
 have b1:(C==0)=true:=by simpa using k1
 have K1:=hd k1;clear k1;by_cases k2:C'=0
 case neg=>
  have b2:(C'==0)=false:=by simpa using k2
  have HN:Hid (S=false):=by show _=_;rw[hS];simp[k2]
  clear k2 hS;go_enter Tryz.func69,Tryz.ntmps69;go_wp2_with(first|(go_at_call 58;with_reducible refine(HC.out _ (Below.refl _ _)).mono ?_;clear x0 x1 x2 x3 x4 x5 z0 z1 z2 z3 z4 z5;rintro e w3 ⟨rfl,hb3⟩;have HB3:=hd hb3;clear hb3 hw1 hw2;obtain⟨x0,x1,x2,x3,x4,x5⟩:=HSX.out.keep (S:=fun _=>False) ((Keep.refl _ _).below HB3.out) HZ2.out.1 id;obtain⟨z0,z1,z2,z3,z4,z5⟩:=HSZ.out.keep (S:=fun _=>False) ((Keep.refl _ _).below HB3.out) HZ2.out.2 id;simp only[Nat.zero_add]at x0 x1 x2 x3 x4 x5 z0 z1 z2 z3 z4 z5)|(go_at_call 58;with_reducible refine(HC'.out _ HB3.out).mono ?_;clear x0 x1 x2 x3 x4 x5 z0 z1 z2 z3 z4 z5;rintro e w4 ⟨rfl,hb4⟩;have HB4:=hd ((btr HB3.out hb4));clear hb4;obtain⟨x0,x1,x2,x3,x4,x5⟩:=HSX.out.keep (S:=fun _=>False) ((Keep.refl _ _).below HB4.out) HZ2.out.1 id;obtain⟨z0,z1,z2,z3,z4,z5⟩:=HSZ.out.keep (S:=fun _=>False) ((Keep.refl _ _).below HB4.out) HZ2.out.2 id;simp only[Nat.zero_add]at x0 x1 x2 x3 x4 x5 z0 z1 z2 z3 z4 z5)|fail)
  go_ret;exact⟨by rw[HN.out];rfl,(btr HB.out HB4.out)⟩
 have b2:(C'==0)=true:=by simpa using k2
 have HN:Hid (S=E):=by show _=_;rw[hS];simp[K1.out,k2]
 clear k2 hS;go_enter Tryz.func69,Tryz.ntmps69;go_wp2_with(first|(go_at_call 58;with_reducible refine(HC.out _ (Below.refl _ _)).mono ?_;clear x0 x1 x2 x3 x4 x5 z0 z1 z2 z3 z4 z5;rintro e w3 ⟨rfl,hb3⟩;have HB3:=hd hb3;clear hb3 hw1 hw2;obtain⟨x0,x1,x2,x3,x4,x5⟩:=HSX.out.keep (S:=fun _=>False) ((Keep.refl _ _).below HB3.out) HZ2.out.1 id;obtain⟨z0,z1,z2,z3,z4,z5⟩:=HSZ.out.keep (S:=fun _=>False) ((Keep.refl _ _).below HB3.out) HZ2.out.2 id;simp only[Nat.zero_add]at x0 x1 x2 x3 x4 x5 z0 z1 z2 z3 z4 z5)|(go_at_call 58;with_reducible refine(HC'.out _ HB3.out).mono ?_;clear x0 x1 x2 x3 x4 x5 z0 z1 z2 z3 z4 z5;rintro e w4 ⟨rfl,hb4⟩;have HB4:=hd ((btr HB3.out hb4));clear hb4;obtain⟨x0,x1,x2,x3,x4,x5⟩:=HSX.out.keep (S:=fun _=>False) ((Keep.refl _ _).below HB4.out) HZ2.out.1 id;obtain⟨z0,z1,z2,z3,z4,z5⟩:=HSZ.out.keep (S:=fun _=>False) ((Keep.refl _ _).below HB4.out) HZ2.out.2 id;simp only[Nat.zero_add]at x0 x1 x2 x3 x4 x5 z0 z1 z2 z3 z4 z5)|(go_at_call 97;with_reducible refine(HE.out _ HB4.out).mono ?_;clear x0 x1 x2 x3 x4 x5 z0 z1 z2 z3 z4 z5;rintro e w5 ⟨rfl,hb5⟩;have HB5:=hd ((btr HB4.out hb5));clear hb5)|fail)
 go_ret;exact⟨by rw[HN.out];rfl,(btr HB.out HB5.out)⟩
end Go.Proofs.YtfjmlfbohenmfaaGreat
namespace Go.Proofs.YtfjmlfbohenmfaaGreat
open Go.RowKit
attribute [local go_sem] Oper.semAt_some
namespace Co
open Dt
theorem none_B(d:D):((d.k==0)&&((d.n==0)&&(d.s.toList.isEmpty&&(d.m.length+d.l.length+d.t.length==0))))=none_ d:=by
 cases d with
 |mk k n s m l t=>
  show((k==0)&&((n==0)&&(s.toList.isEmpty&&(m.length+l.length+t.length==0))))=(decide (k=0)&&decide (n=0)&&s.data.toList.isEmpty&&m.isEmpty&&l.isEmpty&&t.isEmpty)
  rw[ByteArray.toList_eq];cases m <;> cases l <;> cases t <;> simp[Bool.beq_eq_decide_eq,Bool.and_assoc] <;> rfl
theorem wf_lens{d:D}(h:Dt.Wf d):d.m.length≤140737488355328∧d.l.length≤140737488355328∧d.t.length≤140737488355328∧d.s.size≤140737488355328:=by
 cases d with
 |mk k n s m l t=>
  rw[Dt.Wf]at h;exact⟨h.2.2.1,h.2.2.2.1,h.2.2.2.2.1,h.2.1⟩
end Co
theorem zeroC_any{F:Nat→Prop}(d:Dt.D)(vm vl vt:Value)(w:World)(hW:Dt.Wf d)(h:Dt.Rep F w d vm vl vt):
  Calls Tryz.prog 68 #[.agg #[.int .i64 d.k,.int .i64 d.n,.string d.s,vm,vl,vt]] w fun e w'=>e= .returned (.bool (Co.none_ d))∧Below w.heap.size w w':=by
 obtain⟨⟨am,cm,rfl,_⟩,⟨al,cl,rfl,_⟩,⟨at_,ct,rfl,_⟩⟩:=(Dt.rep_iff _ _ _ _ _ _).1 h;obtain⟨h1,h2,h3,-⟩:=Co.wf_lens hW;have hB:=Co.none_B d;obtain⟨R,hR⟩:∃R,R=Co.none_ d:=⟨_,rfl⟩
 rw[←hR]at hB ⊢;obtain⟨dk,e0⟩:∃x,d.k=x:=⟨_,rfl⟩
 obtain⟨dn,e1⟩:∃x,d.n=x:=⟨_,rfl⟩
 obtain⟨ds,e2⟩:∃x,d.s=x:=⟨_,rfl⟩
 obtain⟨lm,e3⟩:∃x,d.m.length=x:=⟨_,rfl⟩
 obtain⟨ll,e4⟩:∃x,d.l.length=x:=⟨_,rfl⟩
 obtain⟨lt,e5⟩:∃x,d.t.length=x:=⟨_,rfl⟩
 rw[e0,e1,e2,e3,e4,e5]at hB;rw[e3]at h1;rw[e4]at h2;rw[e5]at h3;rw[e0,e1,e2,e3,e4,e5];have hs3:(((lm:Int)+(ll:Int)+(lt:Int))==0)=(lm+ll+lt==0):=by
  rw[Bool.eq_iff_iff];simp;omega
 obtain⟨E,hE⟩:∃E,E=(lm+ll+lt==0):=⟨_,rfl⟩
 rw[←hE]at hs3 hB;have HB:=hd hB;clear hE hR hB e0 e1 e2 e3 e4 e5 h;go_enter Tryz.func68,Tryz.ntmps68;go_wp2
 all_goals
  go_ret;exact⟨by rw[←HB.out];simp_all,(Below.refl _ _).alloc (Nat.le_refl _) _⟩
theorem noneC_any{F:Nat→Prop}(d:Dt.D)(vm vl vt:Value)(w:World)(hW:Dt.Wf d)(h:Dt.Rep F w d vm vl vt):
  Calls Tryz.prog 93 #[.agg #[.int .i64 d.k,.int .i64 d.n,.string d.s,vm,vl,vt]] w fun e w'=>e= .returned (.bool (Co.none_ d))∧Below w.heap.size w w':=by
 obtain⟨⟨am,cm,rfl,_⟩,⟨al,cl,rfl,_⟩,⟨at_,ct,rfl,_⟩⟩:=(Dt.rep_iff _ _ _ _ _ _).1 h;obtain⟨h1,h2,h3,-⟩:=Co.wf_lens hW;have hB:=Co.none_B d;obtain⟨R,hR⟩:∃R,R=Co.none_ d:=⟨_,rfl⟩
 rw[←hR]at hB ⊢;obtain⟨dk,e0⟩:∃x,d.k=x:=⟨_,rfl⟩
 obtain⟨dn,e1⟩:∃x,d.n=x:=⟨_,rfl⟩
 obtain⟨ds,e2⟩:∃x,d.s=x:=⟨_,rfl⟩
 obtain⟨lm,e3⟩:∃x,d.m.length=x:=⟨_,rfl⟩
 obtain⟨ll,e4⟩:∃x,d.l.length=x:=⟨_,rfl⟩
 obtain⟨lt,e5⟩:∃x,d.t.length=x:=⟨_,rfl⟩
 rw[e0,e1,e2,e3,e4,e5]at hB;rw[e3]at h1;rw[e4]at h2;rw[e5]at h3;rw[e0,e1,e2,e3,e4,e5];have hs3:(((lm:Int)+(ll:Int)+(lt:Int))==0)=(lm+ll+lt==0):=by
  rw[Bool.eq_iff_iff];simp;omega
 obtain⟨E,hE⟩:∃E,E=(lm+ll+lt==0):=⟨_,rfl⟩
 rw[←hE]at hs3 hB;have HB:=hd hB;clear hE hR hB e0 e1 e2 e3 e4 e5 h;go_enter Tryz.func93,Tryz.ntmps93;go_wp2
 all_goals
  go_ret;exact⟨by rw[←HB.out];simp_all,(Below.refl _ _).alloc (Nat.le_refl _) _⟩
theorem varC_any(n:Int)(w:World):
  Calls Tryz.prog 83 #[.int .i64 n] w fun e w'=>e= .returned (.bool (Co.var n))∧w=w':=by
 obtain⟨R,hR⟩:∃R,R=Co.var n:=⟨_,rfl⟩
 have HR:Hid (R=(decide (1≤n)&&decide (n≤1048576))):=hR;rw[←hR];clear hR;go_enter Tryz.func83,Tryz.ntmps83;go_wp2
 all_goals
  go_ret;exact⟨by rw[HR.out];first|(simp_all;done)|(simp_all;omega),rfl⟩
theorem numC_any(n:Int)(w:World):
  Calls Tryz.prog 96 #[.int .i64 n] w fun e w'=>e= .returned (.bool (Co.var n))∧w=w':=by
 obtain⟨R,hR⟩:∃R,R=Co.var n:=⟨_,rfl⟩
 have HR:Hid (R=(decide (1≤n)&&decide (n≤1048576))):=hR;rw[←hR];clear hR;go_enter Tryz.func96,Tryz.ntmps96;go_wp2
 all_goals
  go_ret;exact⟨by rw[HR.out];first|(simp_all;done)|(simp_all;omega),rfl⟩
namespace Co
def IdxIs(l:List Int)(s:Int)(x:Int):Prop:=(x= -1∧s∉l)∨∃k:Nat,x=k∧∃h:k<l.length,l[k]=s∧s∉l.take k
theorem IdxIs.at{l:List Int}{x:Int}{i:Nat}(hi:i<l.length)(h:IdxIs l l[i] x):(x !=(i:Int))=(l.take i).contains l[i]:=by
 rcases h with⟨_,h⟩|⟨k,rfl,hk,h1,h2⟩
 ·exact absurd (List.getElem_mem hi) h
 ·by_cases hki:k<i
  ·have e1:((k:Int) !=(i:Int))=true:=by simp;omega
   have e2:l[i]∈l.take i:=by
    rw[←h1];exact List.mem_take_iff_getElem.2 ⟨k,by omega,rfl⟩
   rw[e1];exact(List.contains_iff_mem.2 e2).symm
  ·by_cases hik:i<k
   ·exact absurd (List.mem_take_iff_getElem.2 ⟨i,by omega,rfl⟩) h2
   ·obtain rfl:k=i:=by omega
    rw[show((k:Int) !=(k:Int))=false by simp];simpa using h2
theorem not_take{l:List Int}{n y:Int}{k:Nat}(hk:k<l.length)(hy:l[k]=y)(h:n∉l.take k)(hne:¬y=n):n∉l.take (k+1):=by
 rw[List.take_succ_eq_append_getElem hk,hy];intro hm;rcases List.mem_append.1 hm with hm|hm
 ·exact h hm
 ·exact hne (List.mem_singleton.1 hm).symm
theorem contains_no{l:List Int}{n:Int}(h:n∉l):l.contains n=false:=by simpa using h
end Co
theorem indexI_any{F:Nat→Prop}(v:Value)(l:List Int)(s:Int)(w:World)(h:Dt.IRow F w v l)(hl:l.length≤140737488355328):
  Calls Tryz.prog 52 #[v,.int .i64 s] w fun e w'=>(∃x:Int,e= .returned (.int .i64 x)∧Co.IdxIs l s x)∧w=w':=by
 obtain⟨a,c,rfl,_,hc⟩:=h;have HC:=hd hc;clear hc;go_enter Tryz.func52,Tryz.ntmps52;go_wp2
 go_loop [8] (fun v=>∃k:Nat,v= .int .i64 k∧k≤l.length∧Hid (s∉l.take k)) (fun v=>l.length - (intOf v).toNat)
 case atStart=>exact⟨0,rfl,by omega,by show s∉_;simp⟩
 case round=>
  obtain⟨k,rfl,hk,HR⟩:=hrel;by_cases hlt:k<l.length
  ·have hlti:(k:Int)<(l.length:Int):=by omega
   obtain⟨b,o,rfl,_,_,hcell⟩:=HC.out (by intro h0;rw[h0]at hlt;simp at hlt);have x0:=hcell k hlt;obtain⟨y,hy⟩:∃y,l[k]=y:=⟨_,rfl⟩
   rw[hy]at x0;have HY:=hd hy;clear hy hcell;by_cases hxy:s=y
   ·subst hxy;have HN:Hid (Co.IdxIs l s (k:Int)):= .inr ⟨k,rfl,hlt,HY.out,HR.out⟩;go_wp2;go_ret;exact⟨⟨_,rfl,HN.out⟩,rfl⟩
   ·have HN:Hid (s∉l.take (k+1)):=Co.not_take hlt HY.out HR.out (fun e=>hxy e.symm);have hyx:(s==y)=false:=by simpa using hxy
    have hyx2:(y==s)=false:=by simpa using fun e=>hxy (Eq.symm e)
    clear hxy;go_wp2
    go_round
    case rel=>exact⟨k+1,by simp,by omega,HN⟩
    case measure=>simp[intOf];omega
  ·have hge:(l.length:Int)≤(k:Int):=by omega
   have HN:Hid (s∉l):=by have h:=HR.out;rw[List.take_of_length_le (by omega)]at h;exact h
   go_wp2;go_ret;exact⟨⟨-1,rfl,.inl ⟨rfl,HN.out⟩⟩,rfl⟩
theorem inI_any{F:Nat→Prop}(v:Value)(l:List Int)(s:Int)(w:World)(h:Dt.IRow F w v l)(hl:l.length≤140737488355328):
  Calls Tryz.prog 67 #[v,.int .i64 s] w fun e w'=>e= .returned (.bool (l.contains s))∧w=w':=by
 obtain⟨a,c,rfl,_,hc⟩:=h;have HC:=hd hc;obtain⟨R,hR⟩:∃R,R=l.contains s:=⟨_,rfl⟩
 rw[←hR];have HR0:=hd hR;clear hc hR;go_enter Tryz.func67,Tryz.ntmps67;go_wp2
 go_loop [5] (fun v=>∃k:Nat,v= .int .i64 k∧k≤l.length∧Hid (s∉l.take k)) (fun v=>l.length - (intOf v).toNat)
 case atStart=>exact⟨0,rfl,by omega,by show s∉_;simp⟩
 case round=>
  obtain⟨k,rfl,hk,HR⟩:=hrel;by_cases hlt:k<l.length
  ·have hlti:(k:Int)<(l.length:Int):=by omega
   obtain⟨b,o,rfl,_,_,hcell⟩:=HC.out (by intro h0;rw[h0]at hlt;simp at hlt);have x0:=hcell k hlt;obtain⟨y,hy⟩:∃y,l[k]=y:=⟨_,rfl⟩
   rw[hy]at x0;have HY:=hd hy;clear hy hcell;by_cases hxy:y=s
   ·subst hxy;have HN:Hid (R=true):=by show R=true;rw[HR0.out,←HY.out];exact List.contains_iff_mem.2 (List.getElem_mem hlt)
    go_wp2;go_ret;exact⟨by rw[HN.out];rfl,rfl⟩
   ·have HN:Hid (s∉l.take (k+1)):=Co.not_take hlt HY.out HR.out hxy;have hyx:(y==s)=false:=by simpa using hxy
    clear hxy;go_wp2
    go_round
    case rel=>exact⟨k+1,by simp,by omega,HN⟩
    case measure=>simp[intOf];omega
  ·have hge:(l.length:Int)≤(k:Int):=by omega
   have HN:Hid (R=false):=by
    have h:=HR.out;rw[List.take_of_length_le (by omega)]at h;show R=false;rw[HR0.out];exact Co.contains_no h
   go_wp2;go_ret;exact⟨by rw[HN.out];rfl,rfl⟩
namespace Co
def okP(pre:List Int):List Int→Bool
 |[]=>true
 |x :: r=>var x&& !pre.contains x&&okP (pre++[x]) r
theorem okP_eq:∀(l pre:List Int),okP pre l=(l.all var&&once l&&l.all (fun x=> !pre.contains x))
 |[],pre=>rfl
 |x :: r,pre=>by
  rw[okP,okP_eq r (pre++[x]),List.all_cons,List.all_cons,once];have e:(r.all fun y=> !(pre++[x]).contains y)=((r.all fun y=> !pre.contains y)&& !r.contains x):=by
   induction r with
   |nil=>rfl
   |cons y r ih=>
    rw[List.all_cons,List.all_cons,ih,List.contains_cons];have e1:(pre++[x]).contains y=(pre.contains y||(y==x)):=by
     rw[Bool.eq_iff_iff];simp
    rw[e1];have e2:(x==y)=(y==x):=by rw[Bool.eq_iff_iff];simp;exact eq_comm
    rw[e2];cases pre.contains y <;> cases (y==x) <;> cases (r.all fun y=> !pre.contains y) <;> cases r.contains x <;> rfl
  rw[e];cases var x <;> cases pre.contains x <;> cases r.all var <;> cases once r <;> cases (r.all fun y=> !pre.contains y) <;> cases r.contains x <;> rfl
theorem okP_nil(l:List Int):okP [] l=(l.all var&&once l):=by
 rw[okP_eq];have:(l.all fun x=> !([]:List Int).contains x)=true:=by rw[List.all_eq_true];intro x _;rfl
 rw[this,Bool.and_true]
theorem params_ok{n:Int}{p:List Int}(h1:p.length≤32)(h2:n=0∨(n=1∧p≠[])):params n p=okP [] p:=by
 unfold params;rw[okP_nil,decide_eq_true h1];have:(decide (n=0)||(decide (n=1)&& !p.isEmpty))=true:=by
  rcases h2 with rfl|⟨rfl,h⟩
  ·rfl
  ·cases p with
   |nil=>exact absurd rfl h
   |cons=>rfl
 rw[this,Bool.true_and,Bool.true_and]
theorem params_no{n:Int}{p:List Int}(h:¬ (p.length≤32∧(n=0∨(n=1∧p≠[])))):params n p=false:=by
 unfold params;by_cases h1:p.length≤32
 ·have h2:¬ (n=0∨(n=1∧p≠[])):=fun e=>h ⟨h1,e⟩
  have:(decide (n=0)||(decide (n=1)&& !p.isEmpty))=false:=by
   rw[decide_eq_false (fun e=>h2 (.inl e))];by_cases h3:n=1
   ·cases p with
    |nil=>simp
    |cons=>exact absurd (.inr ⟨h3,by simp⟩) h2
   ·rw[decide_eq_false h3];rfl
  rw[this];simp
 ·rw[decide_eq_false h1];rfl
theorem okP_at{p:List Int}{k:Nat}(h:k<p.length):okP (p.take k) (p.drop k)=(var p[k]&& !(p.take k).contains p[k]&&okP (p.take (k+1)) (p.drop (k+1))):=by
 rw[List.drop_eq_getElem_cons h,okP,List.take_succ_eq_append_getElem h]
theorem okP_end(p:List Int):okP (p.take p.length) (p.drop p.length)=true:=by rw[List.drop_length];rfl
end Co
theorem paramsC_any{F:Nat→Prop}(ck n dk dn:Int)(s ds:ByteArray)(vm vl vt vp vk:Value)(p:List Int)(w:World)(hP:Dt.IRow F w vp p)(hl:p.length≤140737488355328):
  Calls Tryz.prog 91 #[.agg #[.int .i64 ck,.int .i64 n,.string s,.int .i64 dk,.int .i64 dn,.string ds,vm,vl,vt,vp,vk]] w fun e w'=>e= .returned (.bool (Co.params n p))∧Below w.heap.size w w':=by
 obtain⟨a,c,rfl,hlc,hc⟩:=hP;have HPR:Hid (Dt.IRow F w (.slice a p.length c) p):=⟨a,c,rfl,hlc,hc⟩
 have HLC:=hd hlc;obtain⟨w1,hw1⟩:∃w1,w.alloc (.cells #[.int .i64 ck,.int .i64 n,.string s,.int .i64 dk,.int .i64 dn,.string ds,vm,vl,vt,.slice a p.length c,vk] 28)=w1:=⟨_,rfl⟩
 obtain⟨hb1,hs1⟩:=new_below hw1;have h1:=Hp.new hw1;have HP1:Hid (Dt.IRow F w1 (.slice a p.length c) p):=HPR.out.keep (keep_of_below (S:=fun _=>False) hb1) (fun _ _ _ h=>h);have HB:=hd hb1;have c1:=h1.cell 1 rfl;have c9:=h1.cell 9 rfl;obtain⟨R,hR⟩:∃R,R=Co.params n p:=⟨_,rfl⟩
 rw[←hR];have HR:=hd hR;obtain⟨N,hN⟩:∃N,p.length=N:=⟨_,rfl⟩
 rw[hN]at hw1 c9 HP1 hl;have HN:=hd hN;rw[hN];clear hb1 hs1 h1 hc HPR hR hN hlc;by_cases g1:32<N
 ·have b1:decide ((32:Int)<(N:Int))=true:=decide_eq_true (by omega);have HF:Hid (R=false):=by show R=false;rw[HR.out];refine Co.params_no ?_;rw[HN.out];omega
  go_enter Tryz.func91,Tryz.ntmps91;go_wp2;go_ret;exact⟨by rw[HF.out];rfl,HB.out⟩
 have b1:decide ((32:Int)<(N:Int))=false:=decide_eq_false (by omega);by_cases g2:n<0
 ·have b2:decide (n<0)=true:=decide_eq_true g2;have HF:Hid (R=false):=by show R=false;rw[HR.out];refine Co.params_no ?_;rw[HN.out];omega
  go_enter Tryz.func91,Tryz.ntmps91;go_wp2;go_ret;exact⟨by rw[HF.out];rfl,HB.out⟩
 have b2:decide (n<0)=false:=decide_eq_false g2;by_cases g3:1<n
 ·have b3:decide (1<n)=true:=decide_eq_true g3;have HF:Hid (R=false):=by show R=false;rw[HR.out];refine Co.params_no ?_;rw[HN.out];omega
  go_enter Tryz.func91,Tryz.ntmps91;go_wp2;go_ret;exact⟨by rw[HF.out];rfl,HB.out⟩
 have b3:decide (1<n)=false:=decide_eq_false g3;by_cases g4:(N:Int)<n
 ·have b4:decide ((N:Int)<n)=true:=decide_eq_true g4;have HF:Hid (R=false):=by
   show R=false;rw[HR.out];refine Co.params_no (fun h=> ?_);rw[HN.out]at h;rcases h.2 with e|⟨e,e2⟩
   ·omega
   ·have:p.length≠0:=fun e3=>e2 (List.length_eq_zero_iff.1 e3)
    rw[HN.out]at this;omega
  clear g1 g2 g3 g4;go_enter Tryz.func91,Tryz.ntmps91;go_wp2;go_ret;exact⟨by rw[HF.out];rfl,HB.out⟩
 have b4:decide ((N:Int)<n)=false:=decide_eq_false g4;have HR0:Hid (R=Co.okP (p.take 0) (p.drop 0)):=by
  show R=_;rw[HR.out,List.take_zero,List.drop_zero];refine Co.params_ok (by rw[HN.out];omega) ?_;by_cases e:n=0
  ·exact .inl e
  ·refine .inr ⟨by omega,fun e2=> ?_⟩;have:=HN.out;rw[e2]at this;simp at this;omega
 have hN32:N≤32:=by omega
 clear g1 g2 g3 g4;go_enter Tryz.func91,Tryz.ntmps91;go_wp2;clear b1 b2 b3 b4
 go_loop [30] (fun v=>∃k:Nat,v= .int .i64 k∧k≤N∧Hid (R=Co.okP (p.take k) (p.drop k))) (fun v=>N - (intOf v).toNat)
 case atStart=>exact⟨0,rfl,by omega,HR0⟩
 case round=>
  obtain⟨k,rfl,hk,HRk⟩:=hrel;by_cases hlt:k<N
  ·have hlti:(k:Int)<(N:Int):=by omega
   have hlp:k<p.length:=by rw[HN.out];exact hlt
   obtain⟨_,_,he,_,hc⟩:=HP1.out;injection he with he1 he2 he3
   subst he1;clear he2 he3;obtain⟨b,o,rfl,_,_,hcell⟩:=hc (by intro h0;rw[h0]at hlp;simp at hlp);have x0:=hcell k hlp;obtain⟨x,hx⟩:∃x,p[k]=x:=⟨_,rfl⟩
   have hst:=HRk.out;rw[Co.okP_at hlp,hx]at hst;rw[hx]at x0;have hv:=fun W=>varC_any x W
   have hi:=indexI_any (.slice (some ⟨b,o,none⟩) N c) p x w1 HP1.out (by rw[HN.out];omega);have HX:=hd hx;have HST:=hd hst;clear hc hcell hx hst;cases hvx:Co.var x
   ·rw[hvx]at hv;have HF:Hid (R=false):=by show R=false;rw[HST.out,hvx];rfl
    clear hvx hi;go_wp2_with(go_at_call 83;refine(hv _).mono ?_;rintro e w2 ⟨rfl,rfl⟩)
    go_ret;exact⟨by rw[HF.out];rfl,HB.out⟩
   ·rw[hvx]at hv;have HVX:=hd hvx;clear hvx;have hi2:Calls Tryz.prog 52 #[.slice (some ⟨b,o,none⟩) N c,.int .i64 x] w1 fun e w'=>(∃y:Int,e= .returned (.int .i64 y)∧(y !=(k:Int))=(p.take k).contains x)∧w1=w':=hi.mono fun e w' h=>by
     obtain⟨⟨y,e1,e2⟩,e3⟩:=h;have hat:=Co.IdxIs.at hlp (HX.out.symm▸e2);rw[HX.out]at hat;exact⟨⟨y,e1,hat⟩,e3⟩
    clear hi;cases hcx:(p.take k).contains x
    ·rw[hcx]at hi2;have HN1:Hid (R=Co.okP (p.take (k+1)) (p.drop (k+1))):=by
      show R=_;rw[HST.out,hcx,HVX.out];rfl
     clear hcx;go_wp2_with(first
      |(go_at_call 83;refine(hv _).mono ?_;rintro e w2 ⟨rfl,rfl⟩)
      |(go_at_call 52;refine hi2.mono ?_;rintro e w2 ⟨⟨y,rfl,hy⟩,rfl⟩))
     go_round
     case rel=>exact⟨k+1,by simp,by omega,HN1⟩
     case measure=>simp[intOf];omega
    ·rw[hcx]at hi2;have HF:Hid (R=false):=by
      show R=false;rw[HST.out,hcx];simp
     clear hcx;go_wp2_with(first
      |(go_at_call 83;refine(hv _).mono ?_;rintro e w2 ⟨rfl,rfl⟩)
      |(go_at_call 52;refine hi2.mono ?_;rintro e w2 ⟨⟨y,rfl,hy⟩,rfl⟩))
     go_ret;exact⟨by rw[HF.out];rfl,HB.out⟩
  ·have hge:(N:Int)≤(k:Int):=by omega
   have HF:Hid (R=true):=by
    show R=true;have:=HRk.out;rw[show k=p.length by rw[HN.out];omega,Co.okP_end]at this;exact this
   go_wp2;go_ret;exact⟨by rw[HF.out];rfl,HB.out⟩
namespace Co
theorem irow_take{F:Nat→Prop}{w:World}{b o c:Nat}{p:List Int}(h:Dt.IRow F w (.slice (some ⟨b,o,none⟩) p.length c) p){k:Nat}(hk:k<p.length):Dt.IRow F w (.slice (some ⟨b,o,none⟩) k c) (p.take k):=by
 obtain⟨a',c',e1,e2,e3⟩:=h;injection e1 with e4 e5 e6
 subst e4 e6;have hl:(p.take k).length=k:=by rw[List.length_take];omega
 refine⟨_,c,by rw[hl],by omega,fun hn=> ?_⟩;obtain⟨b',o',e7,e8,e9,e10⟩:=e3 (by intro e;rw[e]at hk;simp at hk);cases e7;refine⟨b,o,rfl,e8,e9,fun j hj=> ?_⟩;rw[hl]at hj;rw[e10 j (by omega)];simp
theorem qsame{P:Program}{f:FuncId}{args:Array Value}{w:World}{n:Nat}{v:Value}(h:Calls P f args (w.drewN n) fun e w'=>e= .returned v∧w.drewN n=w'):Calls P f args (w.drewN n) fun e w''=>e= .returned v∧∃m,w''=w.drewN m:=
 h.mono fun _ _ ⟨he,hm⟩=>⟨he,n,hm.symm⟩
theorem drewN_below(w:World)(n:Nat):Below w.heap.size w (w.drewN n):=⟨rfl,rfl,rfl,Nat.le_refl _,fun _ _=>rfl⟩
end Co
theorem paramsR_any{F:Nat→Prop}(ck n dk dn:Int)(s ds:ByteArray)(vm vl vt vp vk:Value)(p:List Int)(w:World)(hP:Dt.IRow F w vp p)(hl:p.length≤140737488355328):
  Calls Tryz.prog 94 #[.agg #[.int .i64 ck,.int .i64 n,.string s,.int .i64 dk,.int .i64 dn,.string ds,vm,vl,vt,vp,vk]] w fun e w'=>e= .returned (.bool (Co.params n p))∧Below w.heap.size w w':=by
 obtain⟨a,c,rfl,hlc,hc⟩:=hP;have HPR:Hid (Dt.IRow F w (.slice a p.length c) p):=⟨a,c,rfl,hlc,hc⟩
 have HLC:=hd hlc;obtain⟨w1,hw1⟩:∃w1,w.alloc (.cells #[.int .i64 ck,.int .i64 n,.string s,.int .i64 dk,.int .i64 dn,.string ds,vm,vl,vt,.slice a p.length c,vk] 28)=w1:=⟨_,rfl⟩
 obtain⟨hb1,hs1⟩:=new_below hw1;have h1:=Hp.new hw1;have HP1:Hid (Dt.IRow F w1 (.slice a p.length c) p):=HPR.out.keep (keep_of_below (S:=fun _=>False) hb1) (fun _ _ _ h=>h);have HB:=hd hb1;have c1:=h1.cell 1 rfl;have c9:=h1.cell 9 rfl;obtain⟨R,hR⟩:∃R,R=Co.params n p:=⟨_,rfl⟩
 rw[←hR];have HR:=hd hR;obtain⟨N,hN⟩:∃N,p.length=N:=⟨_,rfl⟩
 rw[hN]at hw1 c9 HP1 hl h1;have H1:=hd h1;have HN:=hd hN;rw[hN];clear hb1 hs1 h1 hc HPR hR hN hlc;by_cases g1:32<N
 ·have b1:decide ((32:Int)<(N:Int))=true:=decide_eq_true (by omega);have HF:Hid (R=false):=by show R=false;rw[HR.out];refine Co.params_no ?_;rw[HN.out];omega
  go_enter Tryz.func94,Tryz.ntmps94;go_wp2;go_ret;exact⟨by rw[HF.out];rfl,HB.out⟩
 have b1:decide ((32:Int)<(N:Int))=false:=decide_eq_false (by omega);have HB1:Hid (Below w1.heap.size w1 w1):=Below.refl _ _;have hN32:N≤32:=by omega
 clear g1;by_cases g2:n=0
 ·subst g2;have b2:((0:Int) !=0)=false:=rfl;have HR0:Hid (R=Co.okP (p.take 0) (p.drop 0)):=by
   show R=_;rw[HR.out,List.take_zero,List.drop_zero];refine Co.params_ok (by rw[HN.out];omega) (.inl rfl)
  go_enter Tryz.func94,Tryz.ntmps94;go_wp2;clear hw1;clear b1 b2
  go_loopw [3] (fun v wr=>∃k:Nat,v= .int .i64 k∧k≤N∧Hid (R=Co.okP (p.take k) (p.drop k))∧Hid (Below w1.heap.size w1 wr)) (fun v _=>N - (intOf v).toNat)
  case atStart=>exact⟨0,rfl,by omega,HR0,HB1⟩
  case round=>
   clear HB1 c1 c9;obtain⟨k,rfl,hk,HRk,HBr⟩:=hrel;have c1:=(H1.out.below HBr.out).cell 1 rfl;have c9:=(H1.out.below HBr.out).cell 9 rfl;by_cases hlt:k<N
   ·have hlti:(k:Int)<(N:Int):=by omega
    have hlp:k<p.length:=by rw[HN.out];exact hlt
    have hrow:=HP1.out.keep (keep_of_below (S:=fun _=>False) HBr.out) (fun _ _ _ h=>h);have HRW:=hd hrow;obtain⟨_,_,he,_,hc⟩:=hrow;injection he with he1 he2 he3
    subst he1;clear he2 he3;obtain⟨b,o,rfl,_,_,hcell⟩:=hc (by intro h0;rw[h0]at hlp;simp at hlp);have x0:=hcell k hlp;obtain⟨x,hx⟩:∃x,p[k]=x:=⟨_,rfl⟩
    have hst:=HRk.out;rw[Co.okP_at hlp,hx]at hst;rw[hx]at x0;have hv:=fun W=>numC_any x W
    have hi:=fun n=>inI_any (.slice (some ⟨b,o,none⟩) k c) (p.take k) x (wr.drewN n) ((Co.irow_take (by have:=HRW.out;rw[←HN.out]at this;exact this) hlp).keep (keep_of_below (S:=fun _=>False) (Co.drewN_below wr n)) (fun _ _ _ h=>h)) (by rw[List.length_take];omega)
    have HX:=hd hx;have HST:=hd hst;have b6:decide ((k:Int)<(N:Int))=true:=decide_eq_true hlti;have hkc:(k:Int)≤(c:Int):=by have:=HLC.out;rw[HN.out]at this;omega
    have hkn:k≤c:=by omega
    have hk0:(0:Int)≤(k:Int):=by omega
    clear hc hcell hx hst;cases hvx:Co.var x
    ·rw[hvx]at hv;have HF:Hid (R=false):=by show R=false;rw[HST.out,hvx];rfl
     clear hvx hi;go_wp2
     go_quiet ((go_at_call 96;refine Co.qsame (hv _)))
     go_wp2;go_ret;exact⟨by rw[HF.out];rfl,HB.out.trans ((HBr.out.mono HB.out.size).trans ⟨rfl,rfl,rfl,Nat.le_refl _,fun _ _=>rfl⟩)⟩
    ·rw[hvx]at hv;have HVX:=hd hvx;clear hvx;cases hcx:(p.take k).contains x
     ·rw[hcx]at hi;have HN1:Hid (R=Co.okP (p.take (k+1)) (p.drop (k+1))):=by
       show R=_;rw[HST.out,hcx,HVX.out];rfl
      clear hcx;go_wp2
      go_quiet (first
       |(go_at_call 96;refine Co.qsame (hv _))
       |(go_at_call 67;refine Co.qsame (hi _)))
      go_wp2;go_roundw
      case rel=>exact⟨k+1,by simp,by omega,HN1,HBr.out.trans ⟨rfl,rfl,rfl,Nat.le_refl _,fun _ _=>rfl⟩⟩
      case measure=>simp[intOf];omega
     ·rw[hcx]at hi;have HF:Hid (R=false):=by
       show R=false;rw[HST.out,hcx];simp
      clear hcx;go_wp2
      go_quiet (first
       |(go_at_call 96;refine Co.qsame (hv _))
       |(go_at_call 67;refine Co.qsame (hi _)))
      go_wp2;go_ret;exact⟨by rw[HF.out];rfl,HB.out.trans ((HBr.out.mono HB.out.size).trans ⟨rfl,rfl,rfl,Nat.le_refl _,fun _ _=>rfl⟩)⟩
   ·have hge:(N:Int)≤(k:Int):=by omega
    have HF:Hid (R=true):=by
     show R=true;have:=HRk.out;rw[show k=p.length by rw[HN.out];omega,Co.okP_end]at this;exact this
    go_wp2;go_ret;exact⟨by rw[HF.out];rfl,(btr HB.out HBr.out)⟩
 have b2:(n !=0)=true:=by simpa using g2
 by_cases g3:n=1
 ·subst g3;have b3:((1:Int) !=1)=false:=rfl;by_cases g4:N=0
  ·have b4:((N:Int)==0)=true:=by simpa using g4
   have HF:Hid (R=false):=by
    show R=false;rw[HR.out];refine Co.params_no (fun h=> ?_);rcases h.2 with e|⟨e,e2⟩
    ·omega
    ·exact e2 (List.length_eq_zero_iff.1 (by rw[HN.out];exact g4))
   clear g4;go_enter Tryz.func94,Tryz.ntmps94;go_wp2;go_ret;exact⟨by rw[HF.out];rfl,HB.out⟩
  have b4:((N:Int)==0)=false:=by simpa using g4
  have HR0:Hid (R=Co.okP (p.take 0) (p.drop 0)):=by
   show R=_;rw[HR.out,List.take_zero,List.drop_zero];refine Co.params_ok (by rw[HN.out];omega) (.inr ⟨rfl,fun e=>g4 (by rw[←HN.out,e];rfl)⟩)
  clear g4;go_enter Tryz.func94,Tryz.ntmps94;go_wp2;clear hw1;clear b1 b2 b3 b4
  go_loopw [3] (fun v wr=>∃k:Nat,v= .int .i64 k∧k≤N∧Hid (R=Co.okP (p.take k) (p.drop k))∧Hid (Below w1.heap.size w1 wr)) (fun v _=>N - (intOf v).toNat)
  case atStart=>exact⟨0,rfl,by omega,HR0,HB1⟩
  case round=>
   clear HB1 c1 c9;obtain⟨k,rfl,hk,HRk,HBr⟩:=hrel;have c1:=(H1.out.below HBr.out).cell 1 rfl;have c9:=(H1.out.below HBr.out).cell 9 rfl;by_cases hlt:k<N
   ·have hlti:(k:Int)<(N:Int):=by omega
    have hlp:k<p.length:=by rw[HN.out];exact hlt
    have hrow:=HP1.out.keep (keep_of_below (S:=fun _=>False) HBr.out) (fun _ _ _ h=>h);have HRW:=hd hrow;obtain⟨_,_,he,_,hc⟩:=hrow;injection he with he1 he2 he3
    subst he1;clear he2 he3;obtain⟨b,o,rfl,_,_,hcell⟩:=hc (by intro h0;rw[h0]at hlp;simp at hlp);have x0:=hcell k hlp;obtain⟨x,hx⟩:∃x,p[k]=x:=⟨_,rfl⟩
    have hst:=HRk.out;rw[Co.okP_at hlp,hx]at hst;rw[hx]at x0;have hv:=fun W=>numC_any x W
    have hi:=fun n=>inI_any (.slice (some ⟨b,o,none⟩) k c) (p.take k) x (wr.drewN n) ((Co.irow_take (by have:=HRW.out;rw[←HN.out]at this;exact this) hlp).keep (keep_of_below (S:=fun _=>False) (Co.drewN_below wr n)) (fun _ _ _ h=>h)) (by rw[List.length_take];omega)
    have HX:=hd hx;have HST:=hd hst;have b6:decide ((k:Int)<(N:Int))=true:=decide_eq_true hlti;have hkc:(k:Int)≤(c:Int):=by have:=HLC.out;rw[HN.out]at this;omega
    have hkn:k≤c:=by omega
    have hk0:(0:Int)≤(k:Int):=by omega
    clear hc hcell hx hst;cases hvx:Co.var x
    ·rw[hvx]at hv;have HF:Hid (R=false):=by show R=false;rw[HST.out,hvx];rfl
     clear hvx hi;go_wp2
     go_quiet ((go_at_call 96;refine Co.qsame (hv _)))
     go_wp2;go_ret;exact⟨by rw[HF.out];rfl,HB.out.trans ((HBr.out.mono HB.out.size).trans ⟨rfl,rfl,rfl,Nat.le_refl _,fun _ _=>rfl⟩)⟩
    ·rw[hvx]at hv;have HVX:=hd hvx;clear hvx;cases hcx:(p.take k).contains x
     ·rw[hcx]at hi;have HN1:Hid (R=Co.okP (p.take (k+1)) (p.drop (k+1))):=by
       show R=_;rw[HST.out,hcx,HVX.out];rfl
      clear hcx;go_wp2
      go_quiet (first
       |(go_at_call 96;refine Co.qsame (hv _))
       |(go_at_call 67;refine Co.qsame (hi _)))
      go_wp2;go_roundw
      case rel=>exact⟨k+1,by simp,by omega,HN1,HBr.out.trans ⟨rfl,rfl,rfl,Nat.le_refl _,fun _ _=>rfl⟩⟩
      case measure=>simp[intOf];omega
     ·rw[hcx]at hi;have HF:Hid (R=false):=by
       show R=false;rw[HST.out,hcx];simp
      clear hcx;go_wp2
      go_quiet (first
       |(go_at_call 96;refine Co.qsame (hv _))
       |(go_at_call 67;refine Co.qsame (hi _)))
      go_wp2;go_ret;exact⟨by rw[HF.out];rfl,HB.out.trans ((HBr.out.mono HB.out.size).trans ⟨rfl,rfl,rfl,Nat.le_refl _,fun _ _=>rfl⟩)⟩
   ·have hge:(N:Int)≤(k:Int):=by omega
    have HF:Hid (R=true):=by
     show R=true;have:=HRk.out;rw[show k=p.length by rw[HN.out];omega,Co.okP_end]at this;exact this
    go_wp2;go_ret;exact⟨by rw[HF.out];rfl,(btr HB.out HBr.out)⟩
 have b3:(n !=1)=true:=by simpa using g3
 have HF:Hid (R=false):=by
  show R=false;rw[HR.out];refine Co.params_no (fun h=> ?_);rcases h.2 with e|⟨e,e2⟩
  ·exact g2 e
  ·exact g3 e
 clear g2 g3;go_enter Tryz.func94,Tryz.ntmps94;go_wp2;go_ret;exact⟨by rw[HF.out];rfl,HB.out⟩
end Go.Proofs.YtfjmlfbohenmfaaGreat
namespace Go.Proofs.YtfjmlfbohenmfaaGreat
namespace Cd
def g(ah:List Int)(j:Nat):Int:=ah.getD j (-1)
end Cd
end Go.Proofs.YtfjmlfbohenmfaaGreat
namespace Go.Proofs.YtfjmlfbohenmfaaGreat
open Go.RowKit
attribute [local go_sem] Oper.semAt_some
namespace Cd
def runBuilds(P:Program):List Oper→Act→Option Act
 |[],a=>some a
 |o :: r,a=>match o.guard,o.op with
  |none,.build t parts=>match P.built t (parts.map fun(i,x)=>(i,a.eval x)).toList with
   |some cells=>runBuilds P r (a.put o.dst (.agg cells))
   |none=>none
  |_,_=>none
theorem wpList_builds{P:Program}{ops:Array Oper}{Q:Exit→Act→World→Prop}{w:World}(r:List Oper):∀(l:List Oper) (a a':Act),runBuilds P l a=some a'→wpList P ops Q r a' w→wpList P ops Q (l++r) a w
 |[],a,a',h,k=>by cases h;exact k
 |o :: l,a,a',h,k=>by
  unfold runBuilds at h;split at h
  ·rename_i t parts hg ho;split at h
   ·rename_i cells hc;exact wpList_buildTo hg t parts ho _ rfl cells hc (wpList_builds r l _ a' h k)
   ·cases h
  ·cases h
theorem wpList_buildsTo{β:Type}{P:Program}{ops:Array Oper}{Q:Exit→Act→World→Prop}{w:World}(n:Nat){l:List Oper}{a:Act}(x:Nat)(vx:Value)(g:Act→β)(vy:β)
  (h:(runBuilds P (l.take n) a).map (fun a=>(a.eval (.tmp x),g a))=some (vx,vy))
  (k:∀a',a'.eval (.tmp x)=vx→g a'=vy→wpList P ops Q (l.drop n) a' w):wpList P ops Q l a w:=by
 cases hb:runBuilds P (l.take n) a with
 |none=>rw[hb]at h;cases h
 |some a'=>
  rw[hb]at h;simp at h;have:=wpList_builds (l.drop n) (l.take n) a a' hb (k a' h.1 h.2)
  rwa [List.take_append_drop]at this
end Cd
namespace Co
def fmRows:List (List UInt8×Int×Int×Int):=[
 ([],0,0,0),
 ([99,111,110,115,116],4,0,0),
 ([108,111,99,97,108],1,0,0),
 ([103,108,111,98,97,108],2,0,0),
 ([115,101,116],1,1,1),
 ([97,115,115,105,103,110],2,1,1),
 ([100,101,102,105,110,101],2,1,1),
 ([105,102],0,3,3),
 ([108,97,109,98,100,97],8,1,1),
 ([115,101,113],0,1,(-1)),
 ([99,97,108,108],0,1,(-1))]
def rowCells(r:List UInt8×Int×Int×Int):List Value:=[.string ⟨r.1.toArray⟩,.int .i64 r.2.1,.int .i64 r.2.2.1,.int .i64 r.2.2.2]
def zeroRow:List UInt8×Int×Int×Int:=([],0,0,0)
def flatRows(l:List (List UInt8×Int×Int×Int)):List Value:=l.flatMap rowCells
def fm(k:Int):List UInt8×Int×Int×Int:=if 1≤k∧k≤10 then fmRows.getD k.toNat zeroRow else zeroRow
def fmV(k:Int):Value:= .agg #[.string ⟨(fm k).1.toArray⟩,.int .i64 (fm k).2.1,.int .i64 (fm k).2.2.1,.int .i64 (fm k).2.2.2]
def isKind(k:Int):Bool:=decide (1≤k)&&decide (k≤10)
theorem kf_cases{k:Nat}(h1:1≤k)(h2:k≤10):k=1∨k=2∨k=3∨k=4∨k=5∨k=6∨k=7∨k=8∨k=9∨k=10:=by omega
theorem fm_at{k:Nat}(h1:1≤k)(h2:k≤10):∀i,i<4→(flatRows fmRows)[k*4+i]?=[Value.string ⟨(fm (k:Int)).1.toArray⟩,.int .i64 (fm (k:Int)).2.1,.int .i64 (fm (k:Int)).2.2.1,.int .i64 (fm (k:Int)).2.2.2][i]?:=by
 intro i hi;obtain rfl|rfl|rfl|rfl:i=0∨i=1∨i=2∨i=3:=by omega
 all_goals
  rcases kf_cases h1 h2 with rfl|rfl|rfl|rfl|rfl|rfl|rfl|rfl|rfl|rfl
  all_goals rfl
theorem four_below{w w2:World}(h:Below w.heap.size w w2)(a b c d:Value):Below w.heap.size w ((((w2.setCell ⟨w.heap.size,0,none⟩ a).setCell ⟨w.heap.size,1,none⟩ b).setCell ⟨w.heap.size,2,none⟩ c).setCell ⟨w.heap.size,3,none⟩ d):=
 (((h.setCell (p:=⟨w.heap.size,0,none⟩) (Nat.le_refl _) a).setCell (p:=⟨w.heap.size,1,none⟩) (Nat.le_refl _) b).setCell (p:=⟨w.heap.size,2,none⟩) (Nat.le_refl _) c).setCell (p:=⟨w.heap.size,3,none⟩) (Nat.le_refl _) d
end Co
theorem forms_yes(k:Nat)(hk1:1≤k)(hk2:k≤10)(w:World):Calls Tryz.prog 49 #[.int .i64 (k:Int)] w fun e w'=>e= .returned (.tuple #[Co.fmV (k:Int),.bool true])∧Below w.heap.size w w':=by
 have HR:=hd (Co.fm_at hk1 hk2);obtain⟨w1,hw1⟩:∃w1,w.alloc (.cells #[.string ⟨#[]⟩,.int .i64 0,.int .i64 0,.int .i64 0] 88)=w1:=⟨_,rfl⟩
 obtain⟨hb1,hs1⟩:=new_below hw1;have hh1:=Hp.new hw1;have HB1:=hd hb1;have HS1:=hd hs1;have HH1:=hd hh1;clear hb1 hs1 hh1;go_enter Tryz.func49,Tryz.ntmps49;go_upto_region 1 with(fail)
 clear hw1;refine wp_region_list ?_;refine Cd.wpList_buildsTo 11 15 (.agg (Co.flatRows Co.fmRows).toArray) (fun a=>(a.eval (.tmp 0),a.eval (.tmp 2),a.eval (.tmp 3),a.tmps.size,a.defers)) (.int .i64 (k:Int),.pointer (some ⟨w.heap.size,0,none⟩),.bool false,26,[]) (by kernel_rfl) ?_;intro a' h21 hg;simp only[Prod.mk.injEq]at hg;obtain⟨h0,h2,h3,hsz,hdf⟩:=hg;have hheap:(w1.alloc (.cells (Co.flatRows (List.replicate 11 Co.zeroRow)).toArray 108)).heap[w1.heap.size]?=some (.cells (Co.flatRows (List.replicate 11 Co.zeroRow)).toArray 108 (0,0)):=heap_alloc_new w1 _;change wpList _ _ _ (_ :: _ :: []) a' _;refine Great.wpList_runTo rfl _ rfl (.pointer (some ⟨w1.heap.size,0,none⟩)) (w1.alloc (.cells (Co.flatRows (List.replicate 11 Co.zeroRow)).toArray 108)) (by kernel_rfl) ?_;have h4:(a'.put (some 4) (.pointer (some ⟨w1.heap.size,0,none⟩))).eval (.tmp 4)= .pointer (some ⟨w1.heap.size,0,none⟩):=by
  show(a'.tmps.setIfInBounds 4 _).getD 4 undef=_;simp[hsz]
 have h21':(a'.put (some 4) (.pointer (some ⟨w1.heap.size,0,none⟩))).eval (.tmp 15)= .agg (Co.flatRows Co.fmRows).toArray:=by
  rw[←h21];show(a'.tmps.setIfInBounds 4 _).getD 15 undef=a'.tmps.getD 15 undef;simp[Array.getD_eq_getD_getElem?,Array.getElem?_setIfInBounds]
 refine wpList_store_row rfl 108 (.tmp 4) (.tmp 15) rfl w1.heap.size (Co.flatRows Co.fmRows).toArray h4 h21' _ _ hheap (by kernel_rfl) (by kernel_rfl) (by kernel_rfl) ?_;have hset:=setRow_heap (w1.alloc (.cells (Co.flatRows (List.replicate 11 Co.zeroRow)).toArray 108)) w1.heap.size _ (Co.flatRows Co.fmRows).toArray _ _ hheap;obtain⟨w2,hw2⟩:∃w2,(w1.alloc (.cells (Co.flatRows (List.replicate 11 Co.zeroRow)).toArray 108)).setRow w1.heap.size (Co.flatRows Co.fmRows).toArray=w2:=⟨_,rfl⟩
 have hb2:Below w1.heap.size w1 w2:=by rw[←hw2];exact below_setRow ((Below.refl _ w1).alloc (Nat.le_refl _) _) (Nat.le_refl _) _
 rw[hw2]at hset ⊢;refine wpList_nil ?_;clear hheap hw2;obtain⟨⟨l⟩,df⟩:=a';simp only at hdf;subst hdf
 match l,hsz with
 |[x0,x1,x2,x3,x4,x5,x6,x7,x8,x9,x10,x11,x12,x13,x14,x15,x16,x17,x18,x19,x20,x21,x22,x23,x24,x25],_=>
  have e0:x0= .int .i64 (k:Int):=h0;have e2:x2= .pointer (some ⟨w.heap.size,0,none⟩):=h2;have e3:x3= .bool false:=h3;subst e0 e2 e3;clear h0 h2 h3 h4 h21 h21';simp only[Act.put,Zm.a,Zm.b,Zm.c];rw[HS1.out]at hset ⊢;have hh2:=HH1.out.keep (S:=fun _=>False) (keep_of_below hb2) id;obtain⟨r0,r1,r2,r3⟩:=hh2.c4;have f0:=hh2.frz 0;have f1:=hh2.frz 1;have f2:=hh2.frz 2;have f3:=hh2.frz 3;have HB2:=hd ((btr HB1.out hb2));have hc:∀i v,[Value.string ⟨(Co.fm (k:Int)).1.toArray⟩,.int .i64 (Co.fm (k:Int)).2.1,.int .i64 (Co.fm (k:Int)).2.2.1,.int .i64 (Co.fm (k:Int)).2.2.2][i]?=some v→i<4→w2.cell? ⟨w.heap.size+1,k*4+i,none⟩=some v:=fun i v hv hi=>by
   unfold World.cell?;rw[hset];show(Co.flatRows Co.fmRows).toArray[k*4+i]?=some v;rw[List.getElem?_toArray,HR.out i hi,hv]
  have c0:w2.cell? ⟨w.heap.size+1,k*4,none⟩=some (.string ⟨(Co.fm (k:Int)).1.toArray⟩):=hc 0 _ rfl (by omega);have c1:=hc 1 _ rfl (by omega);have c2:=hc 2 _ rfl (by omega);have c3:=hc 3 _ rfl (by omega);have hk1i:¬ ((k:Int)<1):=by omega
  have hk2i:¬ (11≤(k:Int)):=by omega
  have hk3i:(k:Int)<11:=by omega
  have hk0i:(0:Int)≤(k:Int):=by omega
  obtain⟨o,ho⟩:∃o,o=Co.fm (k:Int):=⟨_,rfl⟩
  have HO:Hid (Co.fmV (k:Int)= .agg #[.string ⟨o.1.toArray⟩,.int .i64 o.2.1,.int .i64 o.2.2.1,.int .i64 o.2.2.2]):=by show _=_;rw[ho];rfl
  rw[←ho]at c0 c1 c2 c3;obtain⟨o0,o1,o2,o3⟩:=o;simp only at c0 c1 c2 c3 HO;obtain⟨z0,hz0⟩:∃z0:ByteArray,⟨o0.toArray⟩=z0:=⟨_,rfl⟩
  rw[hz0]at c0 HO;clear hc hset hb2 hh2 ho hk1 hk2 hz0;go_wp2;refine bodyPost_ret (v:= .tuple #[Co.fmV (k:Int),.bool true]) ?_ rfl ?_
  ·rw[HO.out];simp[results,Tryz.results49,go_sem,r0,r1,r2,r3]
  exact⟨rfl,Co.four_below HB2.out _ _ _ _⟩
theorem forms_no(n:Int)(hn:n<1∨10<n)(w:World):Calls Tryz.prog 49 #[.int .i64 n] w fun e w'=>e= .returned (.tuple #[Co.fmV n,.bool false])∧Below w.heap.size w w':=by
 have HV:Hid (Co.fmV n= .agg #[.string ⟨#[]⟩,.int .i64 0,.int .i64 0,.int .i64 0]):=by
  show _=_;have e:Co.fm n=Co.zeroRow:=by unfold Co.fm;rw[if_neg (by omega)]
  unfold Co.fmV;rw[e]
  rfl
 have HN:=hd hn;clear hn;obtain⟨w1,hw1⟩:∃w1,w.alloc (.cells #[.string ⟨#[]⟩,.int .i64 0,.int .i64 0,.int .i64 0] 88)=w1:=⟨_,rfl⟩
 obtain⟨hb1,hs1⟩:=new_below hw1;have hh1:=Hp.new hw1;have HB1:=hd hb1;have HS1:=hd hs1;have HH1:=hd hh1;clear hb1 hs1 hh1;go_enter Tryz.func49,Tryz.ntmps49;go_upto_region 1 with(fail)
 clear hw1;refine wp_region_list ?_;refine Cd.wpList_buildsTo 11 15 (.agg (Co.flatRows Co.fmRows).toArray) (fun a=>(a.eval (.tmp 0),a.eval (.tmp 2),a.eval (.tmp 3),a.tmps.size,a.defers)) (.int .i64 n,.pointer (some ⟨w.heap.size,0,none⟩),.bool false,26,[]) (by kernel_rfl) ?_;intro a' h21 hg;simp only[Prod.mk.injEq]at hg;obtain⟨h0,h2,h3,hsz,hdf⟩:=hg;have hheap:(w1.alloc (.cells (Co.flatRows (List.replicate 11 Co.zeroRow)).toArray 108)).heap[w1.heap.size]?=some (.cells (Co.flatRows (List.replicate 11 Co.zeroRow)).toArray 108 (0,0)):=heap_alloc_new w1 _;change wpList _ _ _ (_ :: _ :: []) a' _;refine Great.wpList_runTo rfl _ rfl (.pointer (some ⟨w1.heap.size,0,none⟩)) (w1.alloc (.cells (Co.flatRows (List.replicate 11 Co.zeroRow)).toArray 108)) (by kernel_rfl) ?_;have h4:(a'.put (some 4) (.pointer (some ⟨w1.heap.size,0,none⟩))).eval (.tmp 4)= .pointer (some ⟨w1.heap.size,0,none⟩):=by
  show(a'.tmps.setIfInBounds 4 _).getD 4 undef=_;simp[hsz]
 have h21':(a'.put (some 4) (.pointer (some ⟨w1.heap.size,0,none⟩))).eval (.tmp 15)= .agg (Co.flatRows Co.fmRows).toArray:=by
  rw[←h21];show(a'.tmps.setIfInBounds 4 _).getD 15 undef=a'.tmps.getD 15 undef;simp[Array.getD_eq_getD_getElem?,Array.getElem?_setIfInBounds]
 refine wpList_store_row rfl 108 (.tmp 4) (.tmp 15) rfl w1.heap.size (Co.flatRows Co.fmRows).toArray h4 h21' _ _ hheap (by kernel_rfl) (by kernel_rfl) (by kernel_rfl) ?_;have hset:=setRow_heap (w1.alloc (.cells (Co.flatRows (List.replicate 11 Co.zeroRow)).toArray 108)) w1.heap.size _ (Co.flatRows Co.fmRows).toArray _ _ hheap;obtain⟨w2,hw2⟩:∃w2,(w1.alloc (.cells (Co.flatRows (List.replicate 11 Co.zeroRow)).toArray 108)).setRow w1.heap.size (Co.flatRows Co.fmRows).toArray=w2:=⟨_,rfl⟩
 have hb2:Below w1.heap.size w1 w2:=by rw[←hw2];exact below_setRow ((Below.refl _ w1).alloc (Nat.le_refl _) _) (Nat.le_refl _) _
 rw[hw2]at hset ⊢;refine wpList_nil ?_;clear hheap hw2;obtain⟨⟨l⟩,df⟩:=a';simp only at hdf;subst hdf
 match l,hsz with
 |[x0,x1,x2,x3,x4,x5,x6,x7,x8,x9,x10,x11,x12,x13,x14,x15,x16,x17,x18,x19,x20,x21,x22,x23,x24,x25],_=>
  have e0:x0= .int .i64 n:=h0;have e2:x2= .pointer (some ⟨w.heap.size,0,none⟩):=h2;have e3:x3= .bool false:=h3;subst e0 e2 e3;clear h0 h2 h3 h4 h21 h21';simp only[Act.put,Zm.a,Zm.b,Zm.c];rw[HS1.out]at hset ⊢;have hh2:=HH1.out.keep (S:=fun _=>False) (keep_of_below hb2) id;obtain⟨r0,r1,r2,r3⟩:=hh2.c4;have f0:=hh2.frz 0;have f1:=hh2.frz 1;have f2:=hh2.frz 2;have f3:=hh2.frz 3;have HB2:=hd ((btr HB1.out hb2));clear hset hb2 hh2;by_cases hn1:n<1
  ·have hn1':decide (n<1)=true:=decide_eq_true hn1;go_wp2;refine bodyPost_ret (v:= .tuple #[Co.fmV n,.bool false]) ?_ rfl ?_
   ·rw[HV.out];simp[results,Tryz.results49,go_sem,r0,r1,r2,r3]
   exact⟨rfl,Co.four_below HB2.out _ _ _ _⟩
  ·have hn2:11≤n:=by have:=HN.out;omega
   have hn1':decide (n<1)=false:=decide_eq_false hn1;clear hn1;go_wp2;refine bodyPost_ret (v:= .tuple #[Co.fmV n,.bool false]) ?_ rfl ?_
   ·rw[HV.out];simp[results,Tryz.results49,go_sem,r0,r1,r2,r3]
   exact⟨rfl,Co.four_below HB2.out _ _ _ _⟩
theorem forms_any(n:Int)(w:World):Calls Tryz.prog 49 #[.int .i64 n] w fun e w'=>e= .returned (.tuple #[Co.fmV n,.bool (Co.isKind n)])∧Below w.heap.size w w':=by
 by_cases h:n<1∨10<n
 ·rw[show Co.isKind n=false by unfold Co.isKind;rw[←Bool.decide_and];exact decide_eq_false (by omega)];exact forms_no n h w
 ·obtain⟨k,rfl⟩:∃k:Nat,n=(k:Int):=⟨n.toNat,by omega⟩
  rw[show Co.isKind (k:Int)=true by unfold Co.isKind;rw[←Bool.decide_and];exact decide_eq_true (by omega)];exact forms_yes k (by omega) (by omega) w
end Go.Proofs.YtfjmlfbohenmfaaGreat
namespace Go.Proofs.YtfjmlfbohenmfaaGreat
open Go.RowKit
namespace Rb
def BelFrom{β:Type}(B:Nat)(J:β→World→Prop):Prop:=∀s W W',J s W→B≤W.heap.size→Below B W W'→J s W'
def SeqStopsB{α:Type}(F:Fence)(n:Nat)(P:Program)(g:Nat)(lb:Array Value)(encs:α→Array Value)(Kp:World→World→Prop)(V:α→World→Prop)(S Sp:List α→Prop)(N:Nat)(w:World):Prop:=
 ∀(l:Nat) (J Jx:List α→World→Prop) (W:World),Below w.heap.size w W→w.heap.size+2≤W.heap.size→BelFrom W.heap.size J→BelFrom W.heap.size Jx→
  (∀ pre x W1, J pre W1 → V x W1 → pre.length < N → YieldAt F (n - 1) P l (encs x) W1 fun e W' =>
   (e= .returned (.bool true)∧J (pre++[x]) W'∧Kp W1 W')∨(e= .returned (.bool false)∧Jx (pre++[x]) W'∧Kp W1 W'))→
  J [] W→
  CallsIn F n P g (#[.func (.yield l) #[] #[]]++lb) W fun e W'=>(∃v,e= .returned v)∧((∃xs,S xs∧J xs W')∨(∃pre,Sp pre∧Jx pre W'))
def ownPostB{α:Type}(B:Nat)(Kp:World→World→Prop)(I:List α→World→Prop)(Ix:Code→List α→World→Prop)(xs:List α)(W:World):Exit→Act→World→Prop
 | .normal,_,W'=>KeepsFrom B W W'∧Kp W W'∧I xs W'
 | .ret,_,W'=>KeepsFrom B W W'∧Kp W W'∧Ix .ret xs W'
 | .exit id,_,W'=>KeepsFrom B W W'∧Kp W W'∧Ix (.exit id) xs W'
 | .goto t,_,W'=>KeepsFrom B W W'∧Kp W W'∧Ix (.goto t) xs W'
 | .panic _,_,_=>False
 | .outgrown,_,_=>False
variable {F:Fence} {n:Nat} {P:Program} {w:World}
theorem wpIn_rangeB{α:Type}{g:Operand}{ps:Array Tmp}{assign body:Code}{Q:Exit→Act→World→Prop}{a:Act}{w:World}
  (hro:F.round=none) (h1:1≤n) {gf:Nat} {lb:Array Value} (hg:a.eval g= .func (.func gf) #[] lb) (hFg:F.fn gf) (eg:∀args w,(callFunc gf args).run P w= .ok (.enter gf args) w)
  {encs:α→Array Value} {Kp:World→World→Prop} {V:α→World→Prop} {S Sp:List α→Prop} {N:Nat} {w0:World} (hseq:SeqStopsB F (n - 1) P gf lb encs Kp V S Sp N w0)
  (hKt:∀ {A B C:World},Kp A B→Kp B C→Kp A C) (hKb:∀(W:World) (o o':Obj),W.heap[w.heap.size+1]?=some o→o.isCells=false→Kp W (W.putObj (w.heap.size+1) o')) (hb0:Below w0.heap.size w0 w) (hps:∀x,(encs x).size=ps.size)
  (I:List α→World→Prop) (Ix:Code→List α→World→Prop) (hI:OwnFrom w.heap.size I) (hIx:∀c,OwnFrom w.heap.size (Ix c)) (hIB:BelFrom (w.heap.size+2) I) (hIxB:∀c,BelFrom (w.heap.size+2) (Ix c)) (h0:I [] w) (Ax:List α→α→Act→World→Prop) (hAx:∀pre x a',OwnFrom w.heap.size (fun(_:Unit) W=>Ax pre x a' W))
  (hassign : ∀ (l : Nat) (pre : List α) (x : α) (W : World) (K : Act → World → Prop), I pre W → V x W → (∀ a' W', KeepsFrom w.heap.size W W' → Kp W W' → Ax pre x a' W' → K a' W') →
   assign.wpIn (F.inRound l) (n - 1 - 1) P (Exit.then K (fun _ _ _=>False)) {tmps:=(ps.zip (encs x)).foldl (fun t (p,v)=>t.setIfInBounds p v) a.tmps,defers:=[]} W)
  (hbody:∀(l:Nat) (pre:List α) (x:α) (a':Act) (W:World),w.heap.size≤l→(∃r,W.heap[l]?=some (.loop r))→Ax pre x a' W→pre.length<N→body.wpIn (F.inRound l) (n - 1 - 1) P (ownPostB w.heap.size Kp I Ix (pre++[x]) W) a' W)
  (hdone:∀(D:Nat) (xs:List α) (W:World),w.heap.size≤D→S xs→I xs W→W.heap[D]?=some (.deferred (some []))→Q .normal {a with defers:= {target:= .collected D,args:=#[]} :: a.defers} W)
  (hstop:∀(D:Nat) (c:Code) (pre:List α) (W:World),w.heap.size≤D→Sp pre→Ix c pre W→W.heap[D]?=some (.deferred (some []))→c.wpIn F n P Q {a with defers:= {target:= .collected D,args:=#[]} :: a.defers} W):
  (Code.rangeFunc g ps assign body).wpIn F n P Q a w:=by
 refine wpIn_rangeFunc ?_;intro fn hfn;rw[hro];obtain⟨rec,hrec⟩:∃rec:LoopState→Option Code→Loop,rec=fun st pe=> {state:=st,pending:=pe,fn,tmps:=a.tmps,params:=ps,assign,body,defers:=w.heap.size}:=⟨_,rfl⟩
 obtain⟨U,hU⟩:∃U,(w.alloc (.deferred (some []))).alloc (.loop (rec .ready none))=U:=⟨_,rfl⟩
 have hs:U.heap.size=w.heap.size+2:=by rw[←hU];simp
 have hlr:U.heap[w.heap.size+1]?=some (.loop (rec .ready none)):=by
  have:=World.alloc_heap_new (w.alloc (.deferred (some []))) (.loop (rec .ready none));rw[World.size_alloc]at this;rw[←hU];exact this
 have hld:U.heap[w.heap.size]?=some (.deferred (some [])):=by
  rw[←hU];exact(Below.heap_alloc _ _ _ (by simp)).trans (World.alloc_heap_new w _)
 have hbw:Below w.heap.size w U:=by rw[←hU];exact((Below.refl _ w).alloc (Nat.le_refl _) _).alloc (by simp) _
 have hIU:I [] U:=by rw[←hU];exact hI.alloc _ (hI.alloc _ h0)
 refine⟨w.heap.size+1,[{target:= .collected w.heap.size,args:=#[]}],U,{target:= .fn (.func gf) lb,args:=#[.func (.yield (w.heap.size+1)) #[] #[]]},U,gf,#[.func (.yield (w.heap.size+1)) #[] #[]]++lb,U,?_,?_,?_,?_,fun _=>h1,?_⟩
 ·rw[←hU,hrec];exact run_enterLoop_outer _ _ _ _ _
 ·simp only[resolve,hg];simp[go_sem]
 ·intro f' hf';simp[Target.leads]at hf';subst hf';exact hFg
 ·simp[invoke,go_sem,eg]
 refine(hseq (w.heap.size+1) (fun pre W=>(I pre W∧W.heap[w.heap.size+1]?=some (.loop (rec .ready none)))∧W.heap[w.heap.size]?=some (.deferred (some [])))
  (fun pre W=>∃c,(Ix c pre W∧W.heap[w.heap.size+1]?=some (.loop (rec .done (some c))))∧W.heap[w.heap.size]?=some (.deferred (some []))) U ((btr hb0 hbw)) (by have:=hb0.size;omega)
  (fun s A B h hle hb=>⟨⟨hIB s A B h.1.1 (by omega) (hb.mono (by omega)),(hb.block _ (by omega)).trans h.1.2⟩,(hb.block _ (by omega)).trans h.2⟩)
  (fun s A B h hle hb => by
   obtain⟨c,⟨h2,h3⟩,h4⟩:=h;exact⟨c,⟨hIxB c s A B h2 (by omega) (hb.mono (by omega)),(hb.block _ (by omega)).trans h3⟩,(hb.block _ (by omega)).trans h4⟩)
  ?_ ⟨⟨hIU,hlr⟩,hld⟩).mono ?_
 ·rintro pre x X ⟨⟨hi,hl⟩,hd⟩ hv hlen;have hy:=run_yield (P:=P) (args:=encs x) hl (by rw[hrec];exact hps x);rw[hrec]at hy;refine⟨fn,_,assign,body,hy,roundIn_of_wpIn hfn (hassign _ pre x X _ hi hv ?_)⟩;intro a' Y hkf hkp hax;have hl2:Y.heap[w.heap.size+1]?=some (.loop (rec .ready none)):=hkf.same _ _ (by omega) hl rfl;have hd2:Y.heap[w.heap.size]?=some (.deferred (some [])):=hkf.same _ _ (Nat.le_refl _) hd rfl;have hlt2:=(Array.getElem?_eq_some_iff.1 hl2).1;refine⟨_,run_beginRound hl2 (by rw[hrec]),?_⟩;obtain⟨busy,hbusy⟩:∃b:Obj,b= .loop {rec .ready none with state:= .busy}:=⟨_,rfl⟩
  rw[←hbusy];have hl3:(Y.putObj (w.heap.size+1) busy).heap[w.heap.size+1]?=some busy:=World.putObj_heap_same hlt2;have hd3:(Y.putObj (w.heap.size+1) busy).heap[w.heap.size]?=some (.deferred (some [])):=(World.putObj_heap_other (by omega)).trans hd2;have hk3:Kp Y (Y.putObj (w.heap.size+1) busy):=hKb _ _ _ hl2 rfl;refine wpIn_mono (hbody _ pre x a' _ (by omega) ⟨_,hl3.trans (by rw[hbusy])⟩ ((hAx pre x a').putObj (s:=()) _ hax (by omega) hl2 rfl) hlen) ?_;have fin:∀(jump:Option Code) (Z:World),KeepsFrom w.heap.size (Y.putObj (w.heap.size+1) busy) Z→
    (Instr.endRound (w.heap.size+1) jump).run P Z= .ok (.bool jump.isNone) (Z.putObj (w.heap.size+1) (.loop (rec (if jump.isNone then .ready else .done) jump)))∧Z.heap[w.heap.size+1]?=some busy∧
    (Z.putObj (w.heap.size+1) (.loop (rec (if jump.isNone then .ready else .done) jump))).heap[w.heap.size+1]?=some (.loop (rec (if jump.isNone then .ready else .done) jump))∧
    (Z.putObj (w.heap.size+1) (.loop (rec (if jump.isNone then .ready else .done) jump))).heap[w.heap.size]?=some (.deferred (some [])):=fun jump Z hz=>by
   have h4:Z.heap[w.heap.size+1]?=some busy:=hz.same _ _ (by omega) hl3 (by rw[hbusy];rfl);have h5:=run_endRound (P:=P) jump (h4.trans (by rw[hbusy]));rw[hrec]at h5 ⊢;exact⟨h5,h4,World.putObj_heap_same (Array.getElem?_eq_some_iff.1 h4).1,(World.putObj_heap_other (by omega)).trans (hz.same _ _ (Nat.le_refl _) hd3 rfl)⟩
  have hbc:busy.isCells=false∧True:=by rw[hbusy];exact⟨rfl,trivial⟩
  intro e a3 Z hp
  cases e with
  |normal=>
   obtain⟨h4,h5,h6⟩:=hp;obtain⟨g1,g2,g3,g4⟩:=fin none Z h4;exact⟨_,_,g1,.inl ⟨rfl,⟨⟨hI.putObj _ h6 (by omega) g2 hbc.1,g3⟩,g4⟩,hKt hkp (hKt (hKt hk3 h5) (hKb _ _ _ g2 hbc.1))⟩⟩
  |ret=>
   obtain⟨h4,h5,h6⟩:=hp;obtain⟨g1,g2,g3,g4⟩:=fin (some .ret) Z h4;exact⟨_,_,g1,.inr ⟨rfl,⟨.ret,⟨(hIx _).putObj _ h6 (by omega) g2 hbc.1,g3⟩,g4⟩,hKt hkp (hKt (hKt hk3 h5) (hKb _ _ _ g2 hbc.1))⟩⟩
  |exit id=>
   obtain⟨h4,h5,h6⟩:=hp;obtain⟨g1,g2,g3,g4⟩:=fin (some (.exit id)) Z h4;exact⟨_,_,g1,.inr ⟨rfl,⟨.exit id,⟨(hIx _).putObj _ h6 (by omega) g2 hbc.1,g3⟩,g4⟩,hKt hkp (hKt (hKt hk3 h5) (hKb _ _ _ g2 hbc.1))⟩⟩
  |goto t=>
   obtain⟨h4,h5,h6⟩:=hp;obtain⟨g1,g2,g3,g4⟩:=fin (some (.goto t)) Z h4;exact⟨_,_,g1,.inr ⟨rfl,⟨.goto t,⟨(hIx _).putObj _ h6 (by omega) g2 hbc.1,g3⟩,g4⟩,hKt hkp (hKt (hKt hk3 h5) (hKb _ _ _ g2 hbc.1))⟩⟩
  |panic ch=>exact hp.elim
  |outgrown=>exact hp.elim
 ·rintro e X ⟨⟨v,rfl⟩,⟨xs,hS,⟨hi,hl⟩,hd⟩|⟨pre,hS,c,⟨hi,hl⟩,hd⟩⟩
  ·have h5:=run_endLoop (P:=P) hl (by rw[hrec];simp);rw[hrec]at h5;exact⟨none,_,h5,hdone _ xs _ (Nat.le_refl _) hS (hI.putObj _ hi (by omega) hl rfl) ((World.putObj_heap_other (by omega)).trans hd)⟩
  ·have h5:=run_endLoop (P:=P) hl (by rw[hrec];simp);rw[hrec]at h5;exact⟨some c,_,h5,hstop _ c pre _ (Nat.le_refl _) hS ((hIx c).putObj _ hi (by omega) hl rfl) ((World.putObj_heap_other (by omega)).trans hd)⟩
end Rb
namespace Dt
def encP(p:P):Array Value:=#[.agg #[.int .i64 p.d.k,.int .i64 p.d.n,.string p.d.s,p.vm,p.vl,p.vt]]
def VP(p:P)(w:World):Prop:=Rep (fun _=>True) w p.d p.vm p.vl p.vt
theorem round_wide{n m l:Nat}{P:Program}{f:FuncId}{tmps:Array Value}{assign body:Code}{w:World}{R:Ending→World→Prop}(h:RoundIn Fence.wide n P l f tmps assign body w R):RoundIn Fence.wide m P l f tmps assign body w R:=
 ⟨h.1,fun c cs _=>h.2 c cs (room_wide _)⟩
theorem yield_wide{n m l:Nat}{P:Program}{args:Array Value}{w:World}{R:Ending→World→Prop}(h:YieldAt Fence.wide n P l args w R):YieldAt Fence.wide m P l args w R:=by
 obtain⟨fn,tmps,assign,body,hy,hR⟩:=h;exact⟨fn,tmps,assign,body,hy,round_wide hR⟩
abbrev seeF(y:Nat):Value:= .func (.func 151) #[] #[.pointer (some ⟨y,0,none⟩)]
theorem eqlIn_seeF(d y:Nat)(w:World):(Op.equalIn (d+1) 105 (seeF y) .nilFunc).run Tryz.prog w= .ok false w:=by
 simp[Op.equalIn,run_underlying Tryz.underlying105]
theorem neq_seeF(y:Nat)(w:World):(binOp .neq 105 (seeF y) .nilFunc).run Tryz.prog w= .ok (.bool true) w:=by
 have h:=eqlIn_seeF 9999 y w;have h2:(Op.equal 105 (seeF y) .nilFunc).run Tryz.prog w= .ok false w:=h;show((do pure (.bool (!(←Op.equal 105 (seeF y) .nilFunc))):Sem Value)).run _ _=_;rw[Sem.run_bind,h2]
 rfl
def Ch(p d t:Nat)(lb:Nat→Prop)(k:Nat):Prop:=k=p∨k=d∨k=t∨lb k
structure Apt(p d s t u y:Nat)(lb:Nat→Prop)(B0:Nat):Prop where
 pd:p≠d
 ps:p≠s
 pt:p≠t
 pu:p≠u
 py:p≠y
 pb:¬lb p
 ds:d≠s
 dt:d≠t
 du:d≠u
 dy:d≠y
 db:¬lb d
 ts:t≠s
 tu:t≠u
 ty:t≠y
 tb:¬lb t
 sb:¬lb s
 ub:¬lb u
 yb:¬lb y
 gp:B0≤p
 gd:B0≤d
 gt:B0≤t
structure EnvS(w:World)(p d s t u y l a:Nat)(sp:Bool):Prop where
 cp:w.cell? ⟨p,0,none⟩=some (.int .i64 (a:Int))
 cd:∃b:Int,w.cell? ⟨d,0,none⟩=some (.int .i64 b)
 cs:w.cell? ⟨s,0,none⟩=some (seeF y)
 ct:w.cell? ⟨t,0,none⟩=some (.bool sp)
 cu:w.cell? ⟨u,0,none⟩=some (downF p d s t u)
 cy:w.cell? ⟨y,0,none⟩=some (.func (.yield l) #[] #[])
 fp:w.frozen? ⟨p,0,none⟩=false
 fd:w.frozen? ⟨d,0,none⟩=false
 ft:w.frozen? ⟨t,0,none⟩=false
theorem EnvS.keep{S:Nat→Prop}{w w':World}{p d s t u y l a:Nat}{sp:Bool}(h:EnvS w p d s t u y l a sp)(hk:Keep S w w')(hp:¬S p)(hd:¬S d)(hs:¬S s)(ht:¬S t)(hu:¬S u)(hy:¬S y):EnvS w' p d s t u y l a sp:=by
 obtain⟨b,hb⟩:=h.cd;exact⟨(hk.cell 0 (block_lt_of_cell h.cp) hp).trans h.cp,⟨b,(hk.cell 0 (block_lt_of_cell hb) hd).trans hb⟩,(hk.cell 0 (block_lt_of_cell h.cs) hs).trans h.cs,(hk.cell 0 (block_lt_of_cell h.ct) ht).trans h.ct,(hk.cell 0 (block_lt_of_cell h.cu) hu).trans h.cu,(hk.cell 0 (block_lt_of_cell h.cy) hy).trans h.cy,(hk.frozen 0 (block_lt_of_cell h.cp) hp).trans h.fp,(hk.frozen 0 (block_lt_of_cell hb) hd).trans h.fd,(hk.frozen 0 (block_lt_of_cell h.ct) ht).trans h.ft⟩
theorem EnvS.below{w w':World}{p d s t u y l a:Nat}{sp:Bool}(h:EnvS w p d s t u y l a sp)(hb:Below w.heap.size w w'):EnvS w' p d s t u y l a sp:=
 h.keep (S:=fun _=>False) ((Keep.refl _ w).below hb) id id id id id id
theorem EnvS.round{w w':World}{p d s t u y l a:Nat}{lb:Nat→Prop}{B0:Nat}{sp:Bool}(h:EnvS w p d s t u y l a sp)(g:Apt p d s t u y lb B0)(hk:Keep lb w w'):EnvS w' p d s t u y l a sp:=
 h.keep hk g.pb g.db g.sb g.tb g.ub g.yb
theorem EnvS.count{w:World}{p d s t u y l a:Nat}{lb:Nat→Prop}{B0:Nat}{sp:Bool}(h:EnvS w p d s t u y l a sp)(g:Apt p d s t u y lb B0)(a':Nat)(v b':Int)(hv:v=(a':Int)):EnvS ((w.setCell ⟨p,0,none⟩ (.int .i64 v)).setCell ⟨d,0,none⟩ (.int .i64 b')) p d s t u y l a' sp:=by
 subst hv;obtain⟨b,hb⟩:=h.cd;have n:∀ {x y:Nat},x≠y→(⟨x,0,none⟩:Addr)≠⟨y,0,none⟩:=fun hxy e=>by cases e;exact hxy rfl
 have o:∀ {z:Nat} {v:Value},p≠z→d≠z→w.cell? ⟨z,0,none⟩=some v→((w.setCell ⟨p,0,none⟩ (.int .i64 (a':Int))).setCell ⟨d,0,none⟩ (.int .i64 b')).cell? ⟨z,0,none⟩=some v:=fun h1 h2 h3=>
  (World.cell?_setCell_other _ _ _ _ (n h2)).trans ((World.cell?_setCell_other _ _ _ _ (n h1)).trans h3)
 refine⟨?_,⟨b',?_⟩,o g.ps g.ds h.cs,o g.pt g.dt h.ct,o g.pu g.du h.cu,o g.py g.dy h.cy,?_,?_,?_⟩
 ·exact(World.cell?_setCell_other _ _ _ _ (n (Ne.symm g.pd))).trans (World.cell?_setCell_same' _ _ _ (by rw[h.cp];rfl))
 ·exact World.cell?_setCell_same' _ _ _ (by rw[World.cell?_setCell_other _ _ _ _ (n g.pd),hb];rfl)
 ·rw[World.frozen?_setCell,World.frozen?_setCell];exact h.fp
 ·rw[World.frozen?_setCell,World.frozen?_setCell];exact h.fd
 ·rw[World.frozen?_setCell,World.frozen?_setCell];exact h.ft
theorem EnvS.stop{w:World}{p d s t u y l a:Nat}{lb:Nat→Prop}{B0:Nat}{sp:Bool}(h:EnvS w p d s t u y l a sp)(g:Apt p d s t u y lb B0)(sp':Bool):EnvS (w.setCell ⟨t,0,none⟩ (.bool sp')) p d s t u y l a sp':=by
 obtain⟨b,hb⟩:=h.cd;have n:∀ {x y:Nat},x≠y→(⟨x,0,none⟩:Addr)≠⟨y,0,none⟩:=fun hxy e=>by cases e;exact hxy rfl
 have o:∀ {z:Nat} {v:Value},t≠z→w.cell? ⟨z,0,none⟩=some v→(w.setCell ⟨t,0,none⟩ (.bool sp')).cell? ⟨z,0,none⟩=some v:=fun h1 h3=>(World.cell?_setCell_other _ _ _ _ (n h1)).trans h3
 exact⟨o (Ne.symm g.pt) h.cp,⟨b,o (Ne.symm g.dt) hb⟩,o g.ts h.cs,World.cell?_setCell_same' _ _ _ (by rw[h.ct];rfl),o g.tu h.cu,o g.ty h.cy,by rw[World.frozen?_setCell];exact h.fp,by rw[World.frozen?_setCell];exact h.fd,by rw[World.frozen?_setCell];exact h.ft⟩
def Mid(J Jx:List P→World→Prop)(x:D)(pre0:List P)(p d s t u y l:Nat)(lb:Nat→Prop)(done:List D)(q:Nat)(sp:Bool)(w3 wr:World):Prop:=
 Keep (Ch p d t lb) w3 wr∧((sp=false∧EnvS wr p d s t u y l q false∧∃xs:List P,xs.map P.d=done∧J (pre0++xs) wr)∨(sp=true∧(∃a',EnvS wr p d s t u y l a' true)∧∃xs:List P,xs.map P.d<+:pre x∧Jx (pre0++xs) wr))
def DPost(J Jx:List P→World→Prop)(x:D)(pre0:List P)(p d s t u y l:Nat)(lb:Nat→Prop)(q:Nat)(w:World)(e:Ending)(w':World):Prop:=e= .returned (.int .i64 0)∧∃sp,Mid J Jx x pre0 p d s t u y l lb (pre x) q sp w w'
def DownS(n:Nat)(J Jx:List P→World→Prop)(N l:Nat)(lb:Nat→Prop)(B0:Nat)(x:D):Prop:=∀(F:Nat→Prop) (deep a:Nat) (vm vl vt:Value) (w:World) (p d s t u y:Nat) (pre0:List P),Wf x→Fine x→Rep F w x vm vl vt→(∀k,F k→¬Ch p d t lb k)→EnvS w p d s t u y l a false→Apt p d s t u y lb B0→B0≤w.heap.size→deep≤65→a≤4096→(chk x deep a).1=0→J pre0 w→pre0.length+(pre x).length≤N→
 CallsIn Fence.wide n Tryz.prog 104 #[.agg #[.int .i64 x.k,.int .i64 x.n,.string x.s,vm,vl,vt],.int .i64 (deep:Int),.pointer (some ⟨p,0,none⟩),.pointer (some ⟨d,0,none⟩),.pointer (some ⟨s,0,none⟩),.pointer (some ⟨t,0,none⟩),.pointer (some ⟨u,0,none⟩)] w
  (DPost J Jx x pre0 p d s t u y l lb (chk x deep a).2 w)
end Dt
theorem see_in(n m l y:Nat)(hm:1≤m){R:Ending→World→Prop}{F:Nat→Prop}(x:Dt.D)(vm vl vt:Value)(w:World)(hW:Dt.Wf x)(hFi:Dt.Fine x)(hR:Dt.Rep F w x vm vl vt)(hy:w.cell? ⟨y,0,none⟩=some (.func (.yield l) #[] #[]))
  (hY:∀p:Dt.P,p.d=x→∀W1,Below w.heap.size w W1→Dt.VP p W1→YieldAt Fence.wide n Tryz.prog l (Dt.encP p) W1 R) (hB:∀e W,R e W→∃b,e= .returned (.bool b)):
  CallsIn Fence.wide m Tryz.prog 151 #[.agg #[.int .i64 x.k,.int .i64 x.n,.string x.s,vm,vl,vt],.pointer (some ⟨y,0,none⟩)] w R:=by
 obtain⟨a1,n1,q1,a2,n2,q2,a3,n3,q3,rfl,rfl,rfl⟩:=hR.forms;obtain⟨w1,hw1⟩:∃w1,w.alloc (.cells #[.int .i64 x.k,.int .i64 x.n,.string x.s,.slice a1 n1 q1,.slice a2 n2 q2,.slice a3 n3 q3] 25)=w1:=⟨_,rfl⟩
 have hb1:Below w.heap.size w w1:=by rw[←hw1];exact(Below.refl _ _).alloc (Nat.le_refl _) _
 have hbx:=Dt.six_new w x.k x.n x.s (.slice a1 n1 q1) (.slice a2 n2 q2) (.slice a3 n3 q3) 25;rw[hw1]at hbx;have b0:=hbx 0 (by omega);have b1:=hbx 1 (by omega);have b2:=hbx 2 (by omega);have b3:=hbx 3 (by omega);have b4:=hbx 4 (by omega);have b5:=hbx 5 (by omega);simp only[List.getElem?_toArray,List.getElem?_cons_zero,List.getElem?_cons_succ]at b0 b1 b2 b3 b4 b5;have hRR:=hR.below hb1;have hown:=fun u (hu:Below w1.heap.size w1 u)=>Dt.own_any x F _ _ _ u hW hFi (hRR.below hu)
 have HY:=hd hY;have HB:=hd hb1;have HYC:=hd hy;have HBL:=hd hB;clear hY hb1 hy hbx hW hFi hR hB;refine callsIn_of_wp Tryz.func151 rfl trivial ?_ rfl;simp only[Tryz.ntmps151,List.size_toArray,List.length_cons,List.length_nil,Nat.reduceAdd,Nat.reduceSub,Array.replicate_succ,Array.replicate_zero,List.push_toArray,List.append_toArray,List.nil_append,List.cons_append]
 gi_wp2
 have HOW:=hd hown;have HYB:Hid (∀W,Below w1.heap.size w1 W→W.cell? ⟨y,0,none⟩=some (.func (.yield l) #[] #[])):=fun W hb=>(((btr HB.out hb)).cell (p:=⟨y,0,none⟩) (block_lt_of_cell HYC.out)).trans HYC.out
 have yc:=HYB.out w1 (Below.refl _ _);clear hown hw1;refine wpIn_region_any (by kernel_rfl) ?_;have HBD:Hid (Below w1.heap.size w1 w1.drew):=(Below.refl _ w1).drew;refine wpAnyIn_ready (rs:=[0,1]) (by kernel_rfl) (by simp) ?_;refine AllReadyIn.cons rfl (fun K hK=> ?_) ?_
 ·go_simp
  first|(refine hK _ _ ?_;clear hK K)|skip
  try simp only[Act.put,Zm.a,Zm.b,Zm.c]
  refine wpAnyIn_ready (rs:=[1]) (by kernel_rfl) (by simp) ?_;refine AllReadyIn.cons rfl (fun K hK=> ?_) AllReadyIn.nil;go_simp
  first|(refine hK _ _ ?_;clear hK K)|skip
  try simp only[Act.put,Zm.a,Zm.b,Zm.c]
  refine wpAnyIn_ready (rs:=[2]) (by kernel_rfl) (by simp) ?_;refine AllReadyIn.cons rfl (fun K hK=> ?_) AllReadyIn.nil;go_simp;refine⟨trivial,?_⟩
  gi_at_call 81
  refine(callsIn_wide.2 (HOW.out _ HBD.out)).mono ?_;rintro e W5 ⟨⟨um,ul,ut,rfl,hr2⟩,hb5⟩;obtain⟨c1,m1,r1,c2,m2,r2,c3,m3,r3,rfl,rfl,rfl⟩:=hr2.forms;have hb15:=btr HBD.out hb5;have yc5:=HYB.out W5 hb15;obtain⟨fn,tmps,assign,body,hy,hR⟩:=Dt.yield_wide (m:=m) (HY.out ⟨x,.slice c1 m1 r1,.slice c2 m2 r2,.slice c3 m3 r3⟩ rfl W5 ((btr HB.out hb15)) (Dt.Rep.mono (fun _ _ _=>trivial) _ hr2));unfold Dt.encP at hy;dsimp only at hy;clear hb15 hb5 hr2;dsimp only
  first|(refine hK _ _ ?_;clear hK K)|skip
  try simp only[Act.put,Zm.a,Zm.b,Zm.c]
  refine wpAnyIn_ready (rs:=[3]) (by kernel_rfl) (by simp) ?_;refine AllReadyIn.cons rfl (fun K hK=> ?_) AllReadyIn.nil;go_simp;refine(Dt.round_wide hR).mono ?_;rintro e W6 hRW;obtain⟨b6,rfl⟩:=HBL.out _ _ hRW;have HRW:=hd hRW;clear hR hy hRW;dsimp only
  first|(refine hK _ _ ?_;clear hK K)|skip
  try simp only[Act.put,Zm.a,Zm.b,Zm.c]
  refine wpAnyIn_ready (rs:=[4]) (by kernel_rfl) (by simp) ?_;refine AllReadyIn.cons rfl (fun K hK=> ?_) AllReadyIn.nil;go_simp
  first|(refine hK _ _ ?_;clear hK K)|skip
  try simp only[Act.put,Zm.a,Zm.b,Zm.c]
  refine wpAnyIn_done (by kernel_rfl) ?_ _
  gi_wp2
  exact HRW.out
 refine AllReadyIn.cons rfl (fun K hK=> ?_) AllReadyIn.nil;go_simp
 first|(refine hK _ _ ?_;clear hK K)|skip
 try simp only[Act.put,Zm.a,Zm.b,Zm.c]
 refine wpAnyIn_ready (rs:=[0,2]) (by kernel_rfl) (by simp) ?_;refine AllReadyIn.cons rfl (fun K hK=> ?_) ?_
 ·go_simp
  first|(refine hK _ _ ?_;clear hK K)|skip
  try simp only[Act.put,Zm.a,Zm.b,Zm.c]
  refine wpAnyIn_ready (rs:=[2]) (by kernel_rfl) (by simp) ?_;refine AllReadyIn.cons rfl (fun K hK=> ?_) AllReadyIn.nil;go_simp;refine⟨trivial,?_⟩
  gi_at_call 81
  refine(callsIn_wide.2 (HOW.out _ HBD.out)).mono ?_;rintro e W5 ⟨⟨um,ul,ut,rfl,hr2⟩,hb5⟩;obtain⟨c1,m1,r1,c2,m2,r2,c3,m3,r3,rfl,rfl,rfl⟩:=hr2.forms;have hb15:=btr HBD.out hb5;have yc5:=HYB.out W5 hb15;obtain⟨fn,tmps,assign,body,hy,hR⟩:=Dt.yield_wide (m:=m) (HY.out ⟨x,.slice c1 m1 r1,.slice c2 m2 r2,.slice c3 m3 r3⟩ rfl W5 ((btr HB.out hb15)) (Dt.Rep.mono (fun _ _ _=>trivial) _ hr2));unfold Dt.encP at hy;dsimp only at hy;clear hb15 hb5 hr2;dsimp only
  first|(refine hK _ _ ?_;clear hK K)|skip
  try simp only[Act.put,Zm.a,Zm.b,Zm.c]
  refine wpAnyIn_ready (rs:=[3]) (by kernel_rfl) (by simp) ?_;refine AllReadyIn.cons rfl (fun K hK=> ?_) AllReadyIn.nil;go_simp;refine(Dt.round_wide hR).mono ?_;rintro e W6 hRW;obtain⟨b6,rfl⟩:=HBL.out _ _ hRW;have HRW:=hd hRW;clear hR hy hRW;dsimp only
  first|(refine hK _ _ ?_;clear hK K)|skip
  try simp only[Act.put,Zm.a,Zm.b,Zm.c]
  refine wpAnyIn_ready (rs:=[4]) (by kernel_rfl) (by simp) ?_;refine AllReadyIn.cons rfl (fun K hK=> ?_) AllReadyIn.nil;go_simp
  first|(refine hK _ _ ?_;clear hK K)|skip
  try simp only[Act.put,Zm.a,Zm.b,Zm.c]
  refine wpAnyIn_done (by kernel_rfl) ?_ _
  gi_wp2
  exact HRW.out
 refine AllReadyIn.cons rfl (fun K hK=> ?_) AllReadyIn.nil;go_simp;refine⟨trivial,?_⟩
 gi_at_call 81
 refine(callsIn_wide.2 (HOW.out _ HBD.out)).mono ?_;rintro e W5 ⟨⟨um,ul,ut,rfl,hr2⟩,hb5⟩;obtain⟨c1,m1,r1,c2,m2,r2,c3,m3,r3,rfl,rfl,rfl⟩:=hr2.forms;have hb15:=btr HBD.out hb5;have yc5:=HYB.out W5 hb15;obtain⟨fn,tmps,assign,body,hy,hR⟩:=Dt.yield_wide (m:=m) (HY.out ⟨x,.slice c1 m1 r1,.slice c2 m2 r2,.slice c3 m3 r3⟩ rfl W5 ((btr HB.out hb15)) (Dt.Rep.mono (fun _ _ _=>trivial) _ hr2));unfold Dt.encP at hy;dsimp only at hy;clear hb15 hb5 hr2;dsimp only
 first|(refine hK _ _ ?_;clear hK K)|skip
 try simp only[Act.put,Zm.a,Zm.b,Zm.c]
 refine wpAnyIn_ready (rs:=[0]) (by kernel_rfl) (by simp) ?_;refine AllReadyIn.cons rfl (fun K hK=> ?_) AllReadyIn.nil;go_simp
 first|(refine hK _ _ ?_;clear hK K)|skip
 try simp only[Act.put,Zm.a,Zm.b,Zm.c]
 refine wpAnyIn_ready (rs:=[3]) (by kernel_rfl) (by simp) ?_;refine AllReadyIn.cons rfl (fun K hK=> ?_) AllReadyIn.nil;go_simp;refine(Dt.round_wide hR).mono ?_;rintro e W6 hRW;obtain⟨b6,rfl⟩:=HBL.out _ _ hRW;have HRW:=hd hRW;clear hR hy hRW;dsimp only
 first|(refine hK _ _ ?_;clear hK K)|skip
 try simp only[Act.put,Zm.a,Zm.b,Zm.c]
 refine wpAnyIn_ready (rs:=[4]) (by kernel_rfl) (by simp) ?_;refine AllReadyIn.cons rfl (fun K hK=> ?_) AllReadyIn.nil;go_simp
 first|(refine hK _ _ ?_;clear hK K)|skip
 try simp only[Act.put,Zm.a,Zm.b,Zm.c]
 refine wpAnyIn_done (by kernel_rfl) ?_ _
 gi_wp2
 exact HRW.out
namespace Dt
theorem chks_head{L:List D}{deep q j:Nat}(hj:j<L.length)(h:(chks (L.drop j) deep q).1=0):(chk L[j] deep q).1=0∧chks (L.drop j) deep q=chks (L.drop (j+1)) deep (chk L[j] deep q).2:=by
 have h2:=chks_drop (deep:=deep) (q:=q) hj;by_cases e:(chk L[j] deep q).1=0
 ·rw[if_pos e]at h2;exact⟨e,h2⟩
 ·rw[if_neg e]at h2;rw[h2]at h;exact absurd h e
theorem fine_l{d:D}(h:Fine d):Fines d.l:=by cases d;rw[Fine]at h;exact h.2.2.2.1
theorem fine_t{d:D}(h:Fine d):Fines d.t:=by cases d;rw[Fine]at h;exact h.2.2.2.2
def AtS(x:D)(deep a:Nat)(M:Int×Nat)(i q:Nat):Prop:=(i=0∧q=a+1∧(chks x.l (deep+1) q).1=0)∨(i=1∧chks x.l (deep+1) (a+1)=(0,q)∧(chks x.t (deep+1) q).1=0)∨(i=2∧M=(0,q))
theorem genS2{w2:World}{p d s t u y l a:Nat}{lb:Nat→Prop}{B0:Nat}{v b':Int}{sp:Bool}(h:EnvS w2 p d s t u y l a sp)(g:Apt p d s t u y lb B0)(hv:v=((a+1:Nat):Int)):
  Hid (EnvS ((w2.setCell ⟨p,0,none⟩ (.int .i64 v)).setCell ⟨d,0,none⟩ (.int .i64 b')) p d s t u y l (a+1) sp∧Keep (Ch p d t lb) w2 ((w2.setCell ⟨p,0,none⟩ (.int .i64 v)).setCell ⟨d,0,none⟩ (.int .i64 b'))∧
   ((w2.setCell ⟨p,0,none⟩ (.int .i64 v)).setCell ⟨d,0,none⟩ (.int .i64 b')).heap.size=w2.heap.size∧Below B0 w2 ((w2.setCell ⟨p,0,none⟩ (.int .i64 v)).setCell ⟨d,0,none⟩ (.int .i64 b'))):=
 ⟨h.count g (a+1) v b' hv,((Keep.refl (Ch p d t lb) w2).setCell (B:=p) (.inl rfl) 0 _).setCell (B:=d) (.inr (.inl rfl)) 0 _,by simp[World.setCell],((Below.refl B0 w2).setCell (p:=⟨p,0,none⟩) g.gp _).setCell (p:=⟨d,0,none⟩) g.gd _⟩
def doneS(x:D)(i:Nat):List D:=if i=0 then [x]else if i=1 then x :: pres x.l else x :: (pres x.l++pres x.t)
theorem doneS_two(x:D):doneS x 2=pre x:=by simp[doneS,pre_eq]
theorem pres_take_all{l:List D}{j:Nat}(h:l.length≤j):pres (l.take j)=pres l:=by rw[List.take_of_length_le h]
theorem preOne(y:D):0<(pre y).length:=by simp[pre_eq]
theorem mid_see{J Jx:List P→World→Prop}{x:D}{pre0:List P}{p d s t u y l:Nat}{lb:Nat→Prop}{B0 q:Nat}{w w3 W1:World}{hx:P}(sp:Bool)(hE:EnvS w3 p d s t u y l q false)(g:Apt p d s t u y lb B0)(hK:Keep (Ch p d t lb) w w3)(hk1:Keep lb w3 W1)
  (hd:hx.d=x) (hz:B0≤w3.heap.size) (hJ:Rb.BelFrom B0 J) (hJx:Rb.BelFrom B0 Jx) (h:if sp then Jx (pre0++[hx]) W1 else J (pre0++[hx]) W1):
  Mid J Jx x pre0 p d s t u y l lb [x] q sp w (W1.setCell ⟨t,0,none⟩ (.bool sp)):=by
 have hz1:B0≤W1.heap.size:=Nat.le_trans hz hk1.size;have hb:Below B0 W1 (W1.setCell ⟨t,0,none⟩ (.bool sp)):=(Below.refl B0 W1).setCell (p:=⟨t,0,none⟩) g.gt _;have hE':=(hE.round g hk1).stop g sp;have hk:Keep (Ch p d t lb) w (W1.setCell ⟨t,0,none⟩ (.bool sp)):=(hK.trans (hk1.mono (fun k _ h=> .inr (.inr (.inr h))))).setCell (B:=t) (.inr (.inr (.inl rfl))) 0 _
 cases sp with
 |false=>exact⟨hk,.inl ⟨rfl,hE',[hx],by simp[hd],hJ _ _ _ h hz1 hb⟩⟩
 |true=>exact⟨hk,.inr ⟨rfl,⟨q,hE'⟩,[hx],by rw[pre_eq];simp[hd],hJx _ _ _ h hz1 hb⟩⟩
theorem Mid.below{J Jx:List P→World→Prop}{x:D}{pre0:List P}{p d s t u y l:Nat}{lb:Nat→Prop}{B0 q:Nat}{sp:Bool}{done:List D}{w3 wr w':World}(h:Mid J Jx x pre0 p d s t u y l lb done q sp w3 wr)(hJ:Rb.BelFrom B0 J)(hJx:Rb.BelFrom B0 Jx)(hz:B0≤wr.heap.size)(hb:Below wr.heap.size wr w'):
  Mid J Jx x pre0 p d s t u y l lb done q sp w3 w':=by
 obtain⟨hk,⟨hs,hE,xs,hm,hj⟩|⟨hs,⟨a',hE⟩,xs,hm,hj⟩⟩:=h
 ·exact⟨hk.below hb,.inl ⟨hs,hE.below hb,xs,hm,hJ _ _ _ hj hz (hb.mono hz)⟩⟩
 ·exact⟨hk.below hb,.inr ⟨hs,⟨a',hE.below hb⟩,xs,hm,hJx _ _ _ hj hz (hb.mono hz)⟩⟩
theorem Mid.child{J Jx:List P→World→Prop}{x y:D}{pre0 xs:List P}{p d s t u yb l:Nat}{lb:Nat→Prop}{q':Nat}{sp':Bool}{done:List D}{w3 wc w7:World}(hK:Keep (Ch p d t lb) w3 wc)(hxs:xs.map P.d=done)(hpre:done++pre y<+:pre x)
  (h:Mid J Jx y (pre0++xs) p d s t u yb l lb (pre y) q' sp' wc w7):Mid J Jx x pre0 p d s t u yb l lb (done++pre y) q' sp' w3 w7:=by
 obtain⟨hk,⟨hs,hE,ys,hm,hj⟩|⟨hs,hE,ys,hm,hj⟩⟩:=h
 ·exact⟨hK.trans hk,.inl ⟨hs,hE,xs++ys,by rw[List.map_append,hxs,hm],by rw[←List.append_assoc];exact hj⟩⟩
 ·refine⟨hK.trans hk,.inr ⟨hs,hE,xs++ys,?_,by rw[←List.append_assoc];exact hj⟩⟩;rw[List.map_append,hxs];exact List.IsPrefix.trans ((List.prefix_append_right_inj _).2 hm) hpre
theorem Mid.stopped{J Jx:List P→World→Prop}{x:D}{pre0:List P}{p d s t u y l:Nat}{lb:Nat→Prop}{q q':Nat}{done done':List D}{w3 wr:World}(h:Mid J Jx x pre0 p d s t u y l lb done q true w3 wr):Mid J Jx x pre0 p d s t u y l lb done' q' true w3 wr:=by
 obtain⟨hk,⟨hs,_⟩|h⟩:=h
 ·exact absurd hs (by simp)
 ·exact⟨hk,.inr h⟩
theorem Mid.cell{J Jx:List P→World→Prop}{x:D}{pre0:List P}{p d s t u y l:Nat}{lb:Nat→Prop}{q:Nat}{sp:Bool}{done:List D}{w3 wr:World}(h:Mid J Jx x pre0 p d s t u y l lb done q sp w3 wr):wr.cell? ⟨t,0,none⟩=some (.bool sp):=by
 obtain⟨_,⟨hs,hE,_⟩|⟨hs,⟨a',hE⟩,_⟩⟩:=h
 ·rw[hs];exact hE.ct
 ·rw[hs];exact hE.ct
theorem Mid.going{J Jx:List P→World→Prop}{x:D}{pre0:List P}{p d s t u y l:Nat}{lb:Nat→Prop}{q:Nat}{done:List D}{w3 wr:World}(h:Mid J Jx x pre0 p d s t u y l lb done q false w3 wr):EnvS wr p d s t u y l q false∧∃xs:List P,xs.map P.d=done∧J (pre0++xs) wr:=by
 obtain⟨_,⟨_,h⟩|⟨hs,_⟩⟩:=h
 ·exact h
 ·exact absurd hs (by simp)
theorem pres_append:∀(a b:List D),pres (a++b)=pres a++pres b
 |[],_=>by rw[pres];rfl
 |y :: a,b=>by rw[List.cons_append,pres,pres,pres_append a b,List.append_assoc]
theorem prefix_l{x:D}{j:Nat}(hj:j<x.l.length):doneS x 0++pres (x.l.take j)++pre x.l[j]<+:pre x:=by
 have h:=pres_snoc x.l j hj;rw[List.append_assoc,←h,pre_eq];have h2:pres x.l=pres (x.l.take (j+1))++pres (x.l.drop (j+1)):=by rw[←pres_append,List.take_append_drop]
 rw[h2];exact⟨pres (x.l.drop (j+1))++pres x.t,by simp[doneS]⟩
theorem prefix_t{x:D}{j:Nat}(hj:j<x.t.length):doneS x 1++pres (x.t.take j)++pre x.t[j]<+:pre x:=by
 have h:=pres_snoc x.t j hj;rw[List.append_assoc,←h,pre_eq];have h2:pres x.t=pres (x.t.take (j+1))++pres (x.t.drop (j+1)):=by rw[←pres_append,List.take_append_drop]
 rw[h2];exact⟨pres (x.t.drop (j+1)),by simp[doneS]⟩
theorem doneS_l(x:D){j:Nat}(h:x.l.length≤j):doneS x 0++pres (x.l.take j)=doneS x 1:=by rw[pres_take_all h];simp[doneS]
theorem doneS_t(x:D){j:Nat}(h:x.t.length≤j):doneS x 1++pres (x.t.take j)=doneS x 2:=by rw[pres_take_all h];simp[doneS]
def InL(x:D)(deep a j q:Nat):Prop:=(chks (x.l.drop j) (deep+1) q).1=0∧chks x.l (deep+1) (a+1)=chks (x.l.drop j) (deep+1) q
def InT(x:D)(deep a j q:Nat):Prop:=(chks (x.t.drop j) (deep+1) q).1=0∧∃q1,chks x.l (deep+1) (a+1)=(0,q1)∧chks x.t (deep+1) q1=chks (x.t.drop j) (deep+1) q
theorem inl_start{x:D}{deep a q:Nat}{M:Int×Nat}(h:AtS x deep a M 0 q):InL x deep a 0 q:=by
 rcases h with⟨_,rfl,h⟩|⟨h,_⟩|⟨h,_⟩
 ·exact⟨h,rfl⟩
 ·exact absurd h (by simp)
 ·exact absurd h (by simp)
theorem int_start{x:D}{deep a q:Nat}{M:Int×Nat}(h:AtS x deep a M 1 q):InT x deep a 0 q:=by
 rcases h with⟨h,_⟩|⟨_,h1,h2⟩|⟨h,_⟩
 ·exact absurd h (by simp)
 ·exact⟨h2,q,h1,rfl⟩
 ·exact absurd h (by simp)
theorem inl_step{x:D}{deep a j q:Nat}(hj:j<x.l.length)(h:InL x deep a j q):(chk x.l[j] (deep+1) q).1=0∧InL x deep a (j+1) (chk x.l[j] (deep+1) q).2:=by
 obtain⟨h1,h2⟩:=chks_head hj h.1;exact⟨h1,by rw[←h2];exact h.1,h.2.trans h2⟩
theorem int_step{x:D}{deep a j q:Nat}(hj:j<x.t.length)(h:InT x deep a j q):(chk x.t[j] (deep+1) q).1=0∧InT x deep a (j+1) (chk x.t[j] (deep+1) q).2:=by
 obtain⟨h0,q1,h3,h4⟩:=h;obtain⟨h1,h2⟩:=chks_head hj h0;exact⟨h1,by rw[←h2];exact h0,q1,h3,h4.trans h2⟩
theorem inl_end{x:D}{deep a j q:Nat}{M:Int×Nat}(hj:x.l.length≤j)(h:InL x deep a j q)(hM:M=chks x.t (deep+1) (chks x.l (deep+1) (a+1)).2)(h0:M.1=0):AtS x deep a M 1 q:=by
 have h2:=h.2;rw[List.drop_eq_nil_of_le hj,chks]at h2;rw[hM,h2]at h0;exact .inr (.inl ⟨rfl,h2,h0⟩)
theorem int_end{x:D}{deep a j q:Nat}{M:Int×Nat}(hj:x.t.length≤j)(h:InT x deep a j q)(hM:M=chks x.t (deep+1) (chks x.l (deep+1) (a+1)).2):AtS x deep a M 2 q:=by
 obtain⟨_,q1,h3,h4⟩:=h;rw[List.drop_eq_nil_of_le hj,chks]at h4;rw[h3,h4]at hM;exact .inr (.inr ⟨rfl,hM⟩)
theorem ats_two{x:D}{deep a q:Nat}{M:Int×Nat}(h:AtS x deep a M 2 q):M.2=q:=by
 rcases h with⟨h,_⟩|⟨h,_⟩|⟨_,h⟩
 ·exact absurd h (by simp)
 ·exact absurd h (by simp)
 ·rw[h]
theorem calls_wide{n m f:Nat}{P:Program}{args:Array Value}{w:World}{Q:Ending→World→Prop}(h:CallsIn Fence.wide n P f args w Q):CallsIn Fence.wide m P f args w Q:=callsIn_wide.2 (callsIn_wide.1 h)
theorem fines_at:∀ {l:List D},Fines l→∀(j:Nat) (h:j<l.length),Fine l[j]
 |[],_,j,h=>by simp at h
 |y :: r,hf,0,_=>by rw[Fines]at hf;exact hf.1
 |y :: r,hf,j+1,h=>by rw[Fines]at hf;exact fines_at (l:=r) hf.2 j (by simpa using h)
end Dt
theorem downS_step(n nY:Nat)(hn:3≤n){N l:Nat}{lb:Nat→Prop}{B0:Nat}(hlb:∀k,lb k→k<B0){J Jx:List Dt.P→World→Prop}(hJ:Rb.BelFrom B0 J)(hJx:Rb.BelFrom B0 Jx)
  (hY : ∀ pre x W1, J pre W1 → Dt.VP x W1 → pre.length < N → YieldAt Fence.wide nY Tryz.prog l (Dt.encP x) W1 fun e W' =>
   (e= .returned (.bool true)∧J (pre++[x]) W'∧Keep lb W1 W')∨(e= .returned (.bool false)∧Jx (pre++[x]) W'∧Keep lb W1 W'))
  (x:Dt.D) (hl:∀y∈x.l,Dt.DownS n J Jx N l lb B0 y) (ht:∀y∈x.t,Dt.DownS n J Jx N l lb B0 y):Dt.DownS n J Jx N l lb B0 x:=by
 intro F deep a vm vl vt w p d s t u y pre0 hW hFi hR hF hE hA hB0 hd ha hck hj0 hlen;obtain⟨w1,hw1⟩:∃w1,w.alloc (.cells #[.int .i64 x.k,.int .i64 x.n,.string x.s,vm,vl,vt] 25)=w1:=⟨_,rfl⟩
 have hb1:Below w.heap.size w w1:=by rw[←hw1];exact(Below.refl _ _).alloc (Nat.le_refl _) _
 have hE1:=hE.below hb1;have hR1:=hR.below hb1;have hz1:w.heap.size<w1.heap.size:=by rw[←hw1];simp
 have hsix:=Dt.six_new w x.k x.n x.s vm vl vt 25;rw[hw1]at hsix;have d0:w1.cell? ⟨w.heap.size,0,none⟩=some (.int .i64 x.k):=hsix 0 (by omega);have d1:w1.cell? ⟨w.heap.size,1,none⟩=some (.int .i64 x.n):=hsix 1 (by omega);have d2:w1.cell? ⟨w.heap.size,2,none⟩=some (.string x.s):=hsix 2 (by omega);have d3:w1.cell? ⟨w.heap.size,3,none⟩=some vm:=hsix 3 (by omega);have d4:w1.cell? ⟨w.heap.size,4,none⟩=some vl:=hsix 4 (by omega);have d5:w1.cell? ⟨w.heap.size,5,none⟩=some vt:=hsix 5 (by omega);have hsg:=dSingle_any (F:=F) x vm vl vt w1 hW hR1;have c1:¬64<deep:=fun h=>by rw[Dt.chk_deep h]at hck;exact absurd hck (by simp)
 have c2:¬4096≤a:=fun h=>by rw[Dt.chk_long c1 h]at hck;exact absurd hck (by simp)
 have hS:Dt.single x=true:=by
  cases hS:Dt.single x with
  |true=>rfl
  |false=>rw[Dt.chk_bad c1 c2 hS]at hck;exact absurd hck (by simp)
 rw[hS]at hsg;have hC:=Dt.chk_good (d:=x) c1 c2 hS;obtain⟨M,hM⟩:∃M,M=Dt.chk x deep a:=⟨_,rfl⟩
 rw[←hM]at hC hck ⊢;have hL0:(Dt.chks x.l (deep+1) (a+1)).1=0:=by
  apply Classical.byContradiction
  intro h;rw[if_neg h]at hC;rw[hC]at hck;exact h hck
 rw[if_pos hL0]at hC;have HC:=hd hC;have HL0:=hd hL0;have HCK:=hd hck;have HE1:=hd hE1;have HB1:=hd hb1;have HR1:=hd hR1;obtain⟨hLb,hTb⟩:=Dt.wf_len hW;have HWF:=hd hW;have HFI:=hd hFi;have HWL:=hd (Dt.wf_l hW);have HWT:=hd (Dt.wf_t hW);have HFL:=hd (Dt.fine_l hFi);have HFT:=hd (Dt.fine_t hFi);have HF:=hd hF;have HA:=hd hA;have HL:=hd hl;have HT:=hd ht;have HJ0:=hd hj0;have HLEN:=hd hlen;have HJ:=hd hJ;have HJX:=hd hJx;have HYY:=hd hY;have HB0:=hd hB0;obtain⟨D0,hD0⟩:∃D0,w.heap.size=D0:=⟨_,rfl⟩
 rw[hD0]at d0 d1 d2 d3 d4 d5 hz1;have hpD:p≠D0:=by have:=block_lt_of_cell hE.cp;simp only at this;omega
 have hdD:d≠D0:=by obtain⟨b,hb⟩:=hE.cd;have:=block_lt_of_cell hb;simp only at this;omega
 have htD:t≠D0:=by have:=block_lt_of_cell hE.ct;simp only at this;omega
 have HD0:=hd hD0;have HPL:Hid (p<D0∧d<D0∧t<D0∧∀k,lb k→k<D0):=by
  obtain⟨bq,hbq⟩:=hE.cd;have h1:=block_lt_of_cell hE.cp;have h2:=block_lt_of_cell hbq;have h3:=block_lt_of_cell hE.ct;simp only at h1 h2 h3;exact⟨by omega,by omega,by omega,fun k hk=>by have:=hlb k hk;have:=HB0.out;omega⟩
 have cp:=hE1.cp;have c1i:¬ (64:Int)<(deep:Int):=by omega
 have hn1:1≤n:=by omega
 have c2i:¬ (4096:Int)≤(a:Int):=by omega
 clear hsix hE hR hE1 hR1 hb1 hW hF hA hl ht hj0 hlen hJ hJx hY hC hL0 hck hS hM hFi c1 c2 hB0;refine callsIn_of_wp Tryz.func104 rfl trivial ?_ rfl;simp only[Tryz.ntmps104,List.size_toArray,List.length_cons,List.length_nil,Nat.reduceAdd,Nat.reduceSub,Array.replicate_succ,Array.replicate_zero,List.push_toArray,List.append_toArray,List.nil_append,List.cons_append]
 gi_wp2_with (refine⟨trivial,?_⟩;gi_at_call 105;refine(callsIn_wide.2 hsg).mono ?_;clear hsg hw1 hD0 cp;rintro e w2 ⟨rfl,hb2⟩;have HB2:=hd hb2;have HE2:=hd (HE1.out.below hb2);clear hb2;refine Hid.out ?_)
 refine hd ?_;have hlt2:=HB2.out.size;have hxc:∀i v,w1.cell? ⟨D0,i,none⟩=some v→w2.cell? ⟨D0,i,none⟩=some v:=fun i v h=>(HB2.out.cell (p:=⟨D0,i,none⟩) hz1).trans h
 have e0:=hxc _ _ d0;have e1:=hxc _ _ d1;have e2:=hxc _ _ d2;have e3:=hxc _ _ d3;have e4:=hxc _ _ d4;have e5:=hxc _ _ d5;have hz2:D0<w2.heap.size:=Nat.lt_of_lt_of_le hz1 hlt2;have HK2:Hid (Keep (Dt.Ch p d t lb) w w2):=((Keep.refl (Dt.Ch p d t lb) w).below HB1.out).below HB2.out;have HR2:=hd ((Dt.rep_iff F w2 x vm vl vt).1 (HR1.out.below HB2.out));have HRR2:=hd (HR1.out.below HB2.out);obtain⟨cp2,⟨b0,cd2⟩,cs2,ct2,cu2,cy2,fp2,fd2,ft2⟩:=HE2.out;have hns:=Dt.neq_seeF y;obtain⟨⟨am,cm,rfl,-⟩,⟨al,cl,rfl,hcl,hL0⟩,⟨at_,ct,rfl,hct,hT0⟩⟩:=HR2.out;have HRL:=hd hL0;have HRT:=hd hT0;obtain⟨g1,g2,g3,g4,g5,g6,g7,g8,g9,g10,g11,g12,g13,g14,g15,g16,g17,g18,g19,g20,g21⟩:=HA.out;have hlbD:¬lb D0:=fun h=>Nat.lt_irrefl _ (HPL.out.2.2.2 _ h)
 clear hxc d0 d1 d2 d3 d4 d5 hL0 hT0 hz1
 gi_upto_region 8 with(fail)
 gi_cut []from 67 (fun W=>Hid (Dt.EnvS W p d s t u y l (a+1) false∧Keep (Dt.Ch p d t lb) w2 W∧W.heap.size=w2.heap.size∧Below B0 w2 W))
 case first=>
  gi_wp2_with fail
  all_goals gi_meet
  all_goals exact Dt.genS2 HE2.out HA.out (by simp)
 case rest=>
  obtain⟨w3,rfl⟩:∃v,v=wc:=⟨_,rfl⟩
  obtain⟨hE3,hK3,hs3,hb3⟩:=hcut.out;have hz3:D0<w3.heap.size:=by omega
  have hB3:B0≤w3.heap.size:=by have:=HB0.out;have:=HB1.out.size;omega
  have hk3:∀i v,w2.cell? ⟨D0,i,none⟩=some v→w3.cell? ⟨D0,i,none⟩=some v:=fun i v h=>(hK3.cell i hz2 (fun h=>h.elim (Ne.symm hpD) (fun h=>h.elim (Ne.symm hdD) (fun h=>h.elim (Ne.symm htD) hlbD)))).trans h
  have f0:=hk3 _ _ e0;have f1:=hk3 _ _ e1;have f2:=hk3 _ _ e2;have f3:=hk3 _ _ e3;have f4:=hk3 _ _ e4;have f5:=hk3 _ _ e5;have HE3:=hd hE3;have HK3:=hd hK3;have HKW3:=hd (HK2.out.trans hK3);obtain⟨cp3,⟨b3,cd3⟩,cs3,ct3,cu3,cy3,fp3,fd3,ft3⟩:=hE3;have HJ3:Hid (J pre0 w3):=HJ.out _ _ _ HJ0.out HB0.out (((HB1.out.mono HB0.out).trans (HB2.out.mono (Nat.le_trans HB0.out HB1.out.size))).trans hb3);have HRR3:Hid (Dt.Rep F w3 x (Value.slice am x.m.length cm) (Value.slice al x.l.length cl) (Value.slice at_ x.t.length ct)):=Dt.Rep.keep hK3 (fun k hk _=>HF.out k hk) _ HRR2.out;have HB3:=hd hB3;clear hcut hK3 hs3 hb3 hk3 e0 e1 e2 e3 e4 e5 cp2 cd2 cs2 ct2 cu2 cy2 fp2 fd2 ft2 cp3 cd3 cu3 fp3 fd3 hB3
  gi_upto_if 35 with(fail)
  gi_cut []from 67 (fun W=>Hid ((∃sp,Dt.Mid J Jx x pre0 p d s t u y l lb [x] (a+1) sp w W)∧Keep (Dt.Ch p d t lb) w3 W))
  case first=>
   gi_wp2_with fail
   refine⟨trivial,(see_in nY (n - 1) l y (by omega) (R:=fun e W=>∃p:Dt.P,p.d=x∧((e= .returned (.bool true)∧J (pre0++[p]) W∧Keep lb w3 W)∨(e= .returned (.bool false)∧Jx (pre0++[p]) W∧Keep lb w3 W))) x _ _ _ w3 HWF.out HFI.out HRR3.out cy3 ?_ ?_).mono ?_⟩
   ·intro p hp W1 hb1 hv;obtain⟨fn,tmps,assign,body,h1,h2⟩:=HYY.out pre0 p W1 (HJ.out _ _ _ HJ3.out HB3.out (hb1.mono HB3.out)) hv (by have:=HLEN.out;have:=Dt.preOne x;omega);refine⟨fn,tmps,assign,body,h1,h2.mono ?_⟩;rintro e W (⟨h3,h4,h5⟩|⟨h3,h4,h5⟩)
    ·exact⟨p,hp,.inl ⟨h3,h4,((Keep.refl _ w3).below hb1).trans h5⟩⟩
    ·exact⟨p,hp,.inr ⟨h3,h4,((Keep.refl _ w3).below hb1).trans h5⟩⟩
   ·rintro e W ⟨p,-,⟨h,-⟩|⟨h,-⟩⟩
    ·exact⟨_,h⟩
    ·exact⟨_,h⟩
   rintro e W5 ⟨hx,hxd,⟨rfl,hj5,hk5⟩|⟨rfl,hj5,hk5⟩⟩
   all_goals
    have hE5:=HE3.out.round HA.out hk5;have ct5:=hE5.ct;have ft5:=hE5.ft;have HJ5:=hd hj5;have HK5:=hd hk5;clear hj5 hk5 hE5
    gi_wp2_with fail
    gi_meet
   ·exact⟨⟨false,Dt.mid_see false HE3.out HA.out HKW3.out HK5.out hxd HB3.out HJ.out HJX.out HJ5.out⟩,(HK5.out.mono (fun k _ h=> .inr (.inr (.inr h)))).setCell (B:=t) (.inr (.inr (.inl rfl))) 0 _⟩
   ·exact⟨⟨true,Dt.mid_see true HE3.out HA.out HKW3.out HK5.out hxd HB3.out HJ.out HJX.out HJ5.out⟩,(HK5.out.mono (fun k _ h=> .inr (.inr (.inr h)))).setCell (B:=t) (.inr (.inr (.inl rfl))) 0 _⟩
  case rest=>
   obtain⟨w4,rfl⟩:∃v,v=wc:=⟨_,rfl⟩
   obtain⟨⟨sp4,hM4⟩,hK4⟩:=hcut.out;have hz4:D0<w4.heap.size:=Nat.lt_of_lt_of_le hz3 hK4.size;have hk4:∀i v,w3.cell? ⟨D0,i,none⟩=some v→w4.cell? ⟨D0,i,none⟩=some v:=fun i v h=>(hK4.cell i hz3 (fun h=>h.elim (Ne.symm hpD) (fun h=>h.elim (Ne.symm hdD) (fun h=>h.elim (Ne.symm htD) hlbD)))).trans h
   have i4:=hk4 _ _ f4;have i5:=hk4 _ _ f5;have HM4:=hd hM4;have HKQ4:=hd (HK3.out.trans hK4);have HB4:=hd (Nat.le_trans HB3.out hK4.size);obtain⟨wb,hwb⟩:∃wb,w4.alloc (.cells #[.slice al x.l.length cl,.slice at_ x.t.length ct] 23)=wb:=⟨_,rfl⟩
   obtain⟨G,hG⟩:∃G,w4.heap.size=G:=⟨_,rfl⟩
   clear hcut hM4 hK4 hk4 f0 f1 f2 f3 f4 f5 cs3 ct3 cy3 hns HJ3 HRR3 hz3 HB1 HB2 HE1 HE2 HE3;have hbb:Below w4.heap.size w4 wb:=by rw[←hwb];exact(Below.refl _ _).alloc (Nat.le_refl _) _
   have hzb:G<wb.heap.size:=by rw[←hwb,World.size_alloc,hG];omega
   obtain⟨z0,z1⟩:=Dt.two_new w4 (.slice al x.l.length cl) (.slice at_ x.t.length ct) 23;rw[hwb,hG]at z0 z1;have hGC:¬Dt.Ch p d t lb G:=by obtain⟨q1,q2,q3,q4⟩:=HPL.out;rintro(h|h|h|h);omega;omega;omega;exact absurd (q4 _ h) (by omega)
   have HMB:=hd (HM4.out.below HJ.out HJX.out HB4.out hbb);have HKQ:=hd (HKQ4.out.below hbb);have HBB:=hd (Nat.le_trans HB4.out hbb.size);clear hbb
   gi_wp2_with fail
   clear hwb hG i4 i5 HM4 HKQ4 HB4 hz4
   gi_loopw [46] (fun v wr=>∃(i q:Nat) (sp:Bool),v= .int .i64 i∧i≤2∧q≤4096∧Hid (Dt.Mid J Jx x pre0 p d s t u y l lb (Dt.doneS x i) q sp w wr)∧Hid (Keep (Dt.Ch p d t lb) wb wr)∧Hid (sp=false→Dt.AtS x deep a M i q)) (fun v _=>2 - (intOf v).toNat)
   case atStart=>exact⟨0,a+1,sp4,rfl,by omega,by omega,HMB.out,Keep.refl _ _,fun _=> .inl ⟨rfl,rfl,HL0.out⟩⟩
   case round=>
    obtain⟨i,q0,sp0,rfl,hi2,hq0,HST,HKW,HZ⟩:=hrel;have z0r:=(HKW.out.cell 0 hzb hGC).trans z0;have z1r:=(HKW.out.cell 1 hzb hGC).trans z1;clear z0 z1 HMB;rcases(by omega:i=0∨i=1∨i=2)with rfl|rfl|rfl
    ·gi_wp2_with fail
     obtain⟨wo,hwo⟩:∃wo,wo=wr:=⟨_,rfl⟩
     rw[←hwo]at HST HKW z0r z1r ⊢;clear hwo
     gi_loopw [52] (fun v wr=>∃(j q:Nat) (sp:Bool),v= .int .i64 j∧j≤x.l.length∧q≤4096∧Hid (Dt.Mid J Jx x pre0 p d s t u y l lb (Dt.doneS x 0++Dt.pres (x.l.take j)) q sp w wr)∧Hid (Keep (Dt.Ch p d t lb) wb wr)∧Hid (sp=false→Dt.InL x deep a j q)) (fun v _=>x.l.length - (intOf v).toNat)
     case atStart=>exact⟨0,q0,sp0,rfl,by omega,hq0,by simpa[Dt.pres]using HST,HKW,fun h=>Dt.inl_start (HZ.out h)⟩
     case round=>
      obtain⟨j,q,sp,rfl,hj,hq,HM,HKJ,HD⟩:=hrel;clear HST HKW HZ z0r z1r;by_cases hlt:j<x.l.length
      case neg=>
       have hge:(x.l.length:Int)≤(j:Int):=by omega
       have HME:Hid (Dt.Mid J Jx x pre0 p d s t u y l lb (Dt.doneS x (0+1)) q sp w wr):=by
        show Dt.Mid J Jx x pre0 p d s t u y l lb (Dt.doneS x (0+1)) q sp w wr;rw[←Dt.doneS_l x (by omega:x.l.length≤j)];exact HM.out
       have HDE:Hid (sp=false→Dt.AtS x deep a M (0+1) q):=fun h=>Dt.inl_end (by omega) (HD.out h) HC.out HCK.out
       clear HM HD
       gi_wp2
       go_roundw
       case rel=>exact⟨0+1,q,sp,rfl,by omega,hq,HME,HKJ,HDE⟩
       case measure=>simp[intOf]
      have hlti:(j:Int)<(x.l.length:Int):=by omega
      obtain⟨g,o,hao,hFg,hgl,hreps⟩:=HRL.out (by intro hc;rw[hc]at hlt;simp at hlt);have hreps':=Dt.Reps.keep (HKQ.out.trans HKJ.out) (fun k hk _=>HF.out k hk) _ hFg hgl hreps;obtain⟨vmj,vlj,vtj,hsx,hrp⟩:=hreps'.at j hlt;obtain⟨a1,n1,c1,a2,n2,c2,a3,n3,c3,rfl,rfl,rfl⟩:=hrp.forms;obtain⟨yd,hyy⟩:∃yd,x.l[j]=yd:=⟨_,rfl⟩
      have HX:=hd hyy;rw[hyy]at hsx hrp;subst hao;obtain⟨y0,y1,y2,y3,y4,y5⟩:=hsx;obtain⟨wc,hwc⟩:∃wc,wr.alloc (.cells #[.int .i64 yd.k,.int .i64 yd.n,.string yd.s,(.slice a1 n1 c1),(.slice a2 n2 c2),(.slice a3 n3 c3)] 25)=wc:=⟨_,rfl⟩
      have hbc:Below wr.heap.size wr wc:=by rw[←hwc];exact(Below.refl _ _).alloc (Nat.le_refl _) _
      have ct1:=HM.out.cell;have HBR:Hid (B0≤wr.heap.size):=Nat.le_trans HBB.out HKJ.out.size;have HMC:=hd (HM.out.below HJ.out HJX.out HBR.out hbc);have ct2:=HMC.out.cell;have HBC:=hd hbc;have HRP:=hd (hrp.below hbc)
      cases sp with
      |true=>
       clear hreps hreps' hyy hbc hrp hgl hFg HD HM
       gi_wp2
       go_ret;exact⟨rfl,true,HMC.out.stopped⟩
      |false=>
       obtain⟨hEc,xs,hxs,hJc⟩:=HMC.out.going;have HST:=Dt.inl_step hlt (HD.out rfl);rw[hyy]at HST;have cu2:=hEc.cu;have hsw:=Dt.six_new wr yd.k yd.n yd.s (.slice a1 n1 c1) (.slice a2 n2 c2) (.slice a3 n3 c3) 25;rw[hwc]at hsw;have hpx:=Dt.prefix_l hlt;rw[hyy]at hpx;have hN:(pre0++xs).length+(Dt.pre yd).length≤N:=by
        have h1:=hpx.length_le;have h2:=HLEN.out;have h3:xs.length=(Dt.doneS x 0++Dt.pres (x.l.take j)).length:=by rw[←hxs,List.length_map]
        rw[List.length_append]at h1 ⊢;omega
       have hcall:=HL.out x.l[j] (List.getElem_mem hlt) F (deep+1) q (.slice a1 n1 c1) (.slice a2 n2 c2) (.slice a3 n3 c3) wc p d s t u y (pre0++xs);rw[hyy]at hcall;have hwf:=HWL.out.at j hlt;have hfi:=Dt.fines_at HFL.out j hlt;rw[hyy]at hwf hfi;have hcall2:=hcall hwf hfi HRP.out HF.out hEc HA.out (Nat.le_trans HBR.out hbc.size) (by omega) hq HST.1 hJc hN;rw[show(((deep+1:Nat):Int))=(deep:Int)+1 by omega]at hcall2;obtain⟨q',hq''⟩:∃q',q'=(Dt.chk yd (deep+1) q).2:=⟨_,rfl⟩
       have hq':q'≤4096:=by rw[hq''];exact Dt.chk_le yd (deep+1) q hq
       rw[←hq'']at hcall2 HST;have HCALL:=hd hcall2;have HDN:=hd HST.2;have HPX:=hd hpx;have HXS:=hd hxs;obtain⟨YB,hYB⟩:∃YB,wr.heap.size=YB:=⟨_,rfl⟩
       rw[hYB]at hsw;have s0:wc.cell? ⟨YB,0,none⟩=some (.int .i64 yd.k):=hsw 0 (by omega);have s1:wc.cell? ⟨YB,1,none⟩=some (.int .i64 yd.n):=hsw 1 (by omega);have s2:wc.cell? ⟨YB,2,none⟩=some (.string yd.s):=hsw 2 (by omega);have s3:wc.cell? ⟨YB,3,none⟩=some (.slice a1 n1 c1):=hsw 3 (by omega);have s4:wc.cell? ⟨YB,4,none⟩=some (.slice a2 n2 c2):=hsw 4 (by omega);have s5:wc.cell? ⟨YB,5,none⟩=some (.slice a3 n3 c3):=hsw 5 (by omega);clear hreps hreps' hyy hbc hrp hgl hFg HD HM hEc hxs hJc HST hsw hpx hN hcall hwf hfi hcall2 hq''
       gi_wp2_with fail
       clear hwc;refine⟨trivial,(Dt.calls_wide HCALL.out).mono ?_⟩;rintro e w7 ⟨rfl,sp',hM7⟩;have HK7:=hd ((HKJ.out.below HBC.out).trans hM7.1);have HM7:Hid (Dt.Mid J Jx x pre0 p d s t u y l lb (Dt.doneS x 0++Dt.pres (x.l.take (j+1))) q' sp' w w7):=by
        have h:=Dt.Mid.child HMC.out.1 HXS.out HPX.out hM7;show Dt.Mid J Jx x pre0 p d s t u y l lb (Dt.doneS x 0++Dt.pres (x.l.take (j+1))) q' sp' w w7;rw[Dt.pres_snoc x.l j hlt,HX.out,←List.append_assoc];exact h
       clear hM7 HCALL HBC HRP ct1 ct2 cu2 s0 s1 s2 s3 s4 s5 y0 y1 y2 y3 y4 y5 hYB HKJ HMC HX
       gi_wp2
       go_roundw
       case rel=>first|exact⟨j+1,q',sp',by simp,by have:=hlt;omega,hq',HM7,HK7,fun _=>HDN.out⟩|exact⟨_,_,_,_,_,_,_,_,_,_,_,_,_,_,_,_,_,⟨j+1,q',sp',by simp,by have:=hlt;omega,hq',HM7,HK7,fun _=>HDN.out⟩,rfl⟩
       case measure=>simp[intOf];have:=hlt;omega
    ·gi_wp2_with fail
     obtain⟨wo,hwo⟩:∃wo,wo=wr:=⟨_,rfl⟩
     rw[←hwo]at HST HKW z0r z1r ⊢;clear hwo
     gi_loopw [52] (fun v wr=>∃(j q:Nat) (sp:Bool),v= .int .i64 j∧j≤x.t.length∧q≤4096∧Hid (Dt.Mid J Jx x pre0 p d s t u y l lb (Dt.doneS x 1++Dt.pres (x.t.take j)) q sp w wr)∧Hid (Keep (Dt.Ch p d t lb) wb wr)∧Hid (sp=false→Dt.InT x deep a j q)) (fun v _=>x.t.length - (intOf v).toNat)
     case atStart=>exact⟨0,q0,sp0,rfl,by omega,hq0,by simpa[Dt.pres]using HST,HKW,fun h=>Dt.int_start (HZ.out h)⟩
     case round=>
      obtain⟨j,q,sp,rfl,hj,hq,HM,HKJ,HD⟩:=hrel;clear HST HKW HZ z0r z1r;by_cases hlt:j<x.t.length
      case neg=>
       have hge:(x.t.length:Int)≤(j:Int):=by omega
       have HME:Hid (Dt.Mid J Jx x pre0 p d s t u y l lb (Dt.doneS x (1+1)) q sp w wr):=by
        show Dt.Mid J Jx x pre0 p d s t u y l lb (Dt.doneS x (1+1)) q sp w wr;rw[←Dt.doneS_t x (by omega:x.t.length≤j)];exact HM.out
       have HDE:Hid (sp=false→Dt.AtS x deep a M (1+1) q):=fun h=>Dt.int_end (by omega) (HD.out h) HC.out
       clear HM HD
       gi_wp2
       go_roundw
       case rel=>exact⟨1+1,q,sp,rfl,by omega,hq,HME,HKJ,HDE⟩
       case measure=>simp[intOf]
      have hlti:(j:Int)<(x.t.length:Int):=by omega
      obtain⟨g,o,hao,hFg,hgl,hreps⟩:=HRT.out (by intro hc;rw[hc]at hlt;simp at hlt);have hreps':=Dt.Reps.keep (HKQ.out.trans HKJ.out) (fun k hk _=>HF.out k hk) _ hFg hgl hreps;obtain⟨vmj,vlj,vtj,hsx,hrp⟩:=hreps'.at j hlt;obtain⟨a1,n1,c1,a2,n2,c2,a3,n3,c3,rfl,rfl,rfl⟩:=hrp.forms;obtain⟨yd,hyy⟩:∃yd,x.t[j]=yd:=⟨_,rfl⟩
      have HX:=hd hyy;rw[hyy]at hsx hrp;subst hao;obtain⟨y0,y1,y2,y3,y4,y5⟩:=hsx;obtain⟨wc,hwc⟩:∃wc,wr.alloc (.cells #[.int .i64 yd.k,.int .i64 yd.n,.string yd.s,(.slice a1 n1 c1),(.slice a2 n2 c2),(.slice a3 n3 c3)] 25)=wc:=⟨_,rfl⟩
      have hbc:Below wr.heap.size wr wc:=by rw[←hwc];exact(Below.refl _ _).alloc (Nat.le_refl _) _
      have ct1:=HM.out.cell;have HBR:Hid (B0≤wr.heap.size):=Nat.le_trans HBB.out HKJ.out.size;have HMC:=hd (HM.out.below HJ.out HJX.out HBR.out hbc);have ct2:=HMC.out.cell;have HBC:=hd hbc;have HRP:=hd (hrp.below hbc)
      cases sp with
      |true=>
       clear hreps hreps' hyy hbc hrp hgl hFg HD HM
       gi_wp2
       go_ret;exact⟨rfl,true,HMC.out.stopped⟩
      |false=>
       obtain⟨hEc,xs,hxs,hJc⟩:=HMC.out.going;have HST:=Dt.int_step hlt (HD.out rfl);rw[hyy]at HST;have cu2:=hEc.cu;have hsw:=Dt.six_new wr yd.k yd.n yd.s (.slice a1 n1 c1) (.slice a2 n2 c2) (.slice a3 n3 c3) 25;rw[hwc]at hsw;have hpx:=Dt.prefix_t hlt;rw[hyy]at hpx;have hN:(pre0++xs).length+(Dt.pre yd).length≤N:=by
        have h1:=hpx.length_le;have h2:=HLEN.out;have h3:xs.length=(Dt.doneS x 1++Dt.pres (x.t.take j)).length:=by rw[←hxs,List.length_map]
        rw[List.length_append]at h1 ⊢;omega
       have hcall:=HT.out x.t[j] (List.getElem_mem hlt) F (deep+1) q (.slice a1 n1 c1) (.slice a2 n2 c2) (.slice a3 n3 c3) wc p d s t u y (pre0++xs);rw[hyy]at hcall;have hwf:=HWT.out.at j hlt;have hfi:=Dt.fines_at HFT.out j hlt;rw[hyy]at hwf hfi;have hcall2:=hcall hwf hfi HRP.out HF.out hEc HA.out (Nat.le_trans HBR.out hbc.size) (by omega) hq HST.1 hJc hN;rw[show(((deep+1:Nat):Int))=(deep:Int)+1 by omega]at hcall2;obtain⟨q',hq''⟩:∃q',q'=(Dt.chk yd (deep+1) q).2:=⟨_,rfl⟩
       have hq':q'≤4096:=by rw[hq''];exact Dt.chk_le yd (deep+1) q hq
       rw[←hq'']at hcall2 HST;have HCALL:=hd hcall2;have HDN:=hd HST.2;have HPX:=hd hpx;have HXS:=hd hxs;obtain⟨YB,hYB⟩:∃YB,wr.heap.size=YB:=⟨_,rfl⟩
       rw[hYB]at hsw;have s0:wc.cell? ⟨YB,0,none⟩=some (.int .i64 yd.k):=hsw 0 (by omega);have s1:wc.cell? ⟨YB,1,none⟩=some (.int .i64 yd.n):=hsw 1 (by omega);have s2:wc.cell? ⟨YB,2,none⟩=some (.string yd.s):=hsw 2 (by omega);have s3:wc.cell? ⟨YB,3,none⟩=some (.slice a1 n1 c1):=hsw 3 (by omega);have s4:wc.cell? ⟨YB,4,none⟩=some (.slice a2 n2 c2):=hsw 4 (by omega);have s5:wc.cell? ⟨YB,5,none⟩=some (.slice a3 n3 c3):=hsw 5 (by omega);clear hreps hreps' hyy hbc hrp hgl hFg HD HM hEc hxs hJc HST hsw hpx hN hcall hwf hfi hcall2 hq''
       gi_wp2_with fail
       clear hwc;refine⟨trivial,(Dt.calls_wide HCALL.out).mono ?_⟩;rintro e w7 ⟨rfl,sp',hM7⟩;have HK7:=hd ((HKJ.out.below HBC.out).trans hM7.1);have HM7:Hid (Dt.Mid J Jx x pre0 p d s t u y l lb (Dt.doneS x 1++Dt.pres (x.t.take (j+1))) q' sp' w w7):=by
        have h:=Dt.Mid.child HMC.out.1 HXS.out HPX.out hM7;show Dt.Mid J Jx x pre0 p d s t u y l lb (Dt.doneS x 1++Dt.pres (x.t.take (j+1))) q' sp' w w7;rw[Dt.pres_snoc x.t j hlt,HX.out,←List.append_assoc];exact h
       clear hM7 HCALL HBC HRP ct1 ct2 cu2 s0 s1 s2 s3 s4 s5 y0 y1 y2 y3 y4 y5 hYB HKJ HMC HX
       gi_wp2
       go_roundw
       case rel=>first|exact⟨j+1,q',sp',by simp,by have:=hlt;omega,hq',HM7,HK7,fun _=>HDN.out⟩|exact⟨_,_,_,_,_,_,_,_,_,_,_,_,_,_,_,_,_,⟨j+1,q',sp',by simp,by have:=hlt;omega,hq',HM7,HK7,fun _=>HDN.out⟩,rfl⟩
       case measure=>simp[intOf];have:=hlt;omega
    ·have HF2:Hid (∃sp,Dt.Mid J Jx x pre0 p d s t u y l lb (Dt.pre x) M.2 sp w wr):=by
      cases sp0 with
      |true=>exact⟨true,HST.out.stopped⟩
      |false=>exact⟨false,by rw[←Dt.doneS_two,Dt.ats_two (HZ.out rfl)];exact HST.out⟩
     clear HZ HST
     gi_wp2
     go_ret;exact⟨rfl,HF2.out⟩
mutual
theorem Dt.downS_any(n nY:Nat)(hn:3≤n){N l:Nat}{lb:Nat→Prop}{B0:Nat}{J Jx:List Dt.P→World→Prop}(hlb:∀k,lb k→k<B0)(hJ:Rb.BelFrom B0 J)(hJx:Rb.BelFrom B0 Jx)
  (hY : ∀ pre x W1, J pre W1 → Dt.VP x W1 → pre.length < N → YieldAt Fence.wide nY Tryz.prog l (Dt.encP x) W1 fun e W' =>
   (e= .returned (.bool true)∧J (pre++[x]) W'∧Keep lb W1 W')∨(e= .returned (.bool false)∧Jx (pre++[x]) W'∧Keep lb W1 W')):∀x:Dt.D,Dt.DownS n J Jx N l lb B0 x
 | .mk k nn s m l' t=>downS_step n nY hn hlb hJ hJx hY (.mk k nn s m l' t) (Dt.downsS_any n nY hn hlb hJ hJx hY l') (Dt.downsS_any n nY hn hlb hJ hJx hY t)
theorem Dt.downsS_any(n nY:Nat)(hn:3≤n){N l:Nat}{lb:Nat→Prop}{B0:Nat}{J Jx:List Dt.P→World→Prop}(hlb:∀k,lb k→k<B0)(hJ:Rb.BelFrom B0 J)(hJx:Rb.BelFrom B0 Jx)
  (hY : ∀ pre x W1, J pre W1 → Dt.VP x W1 → pre.length < N → YieldAt Fence.wide nY Tryz.prog l (Dt.encP x) W1 fun e W' =>
   (e= .returned (.bool true)∧J (pre++[x]) W'∧Keep lb W1 W')∨(e= .returned (.bool false)∧Jx (pre++[x]) W'∧Keep lb W1 W')):∀(L:List Dt.D) (y:Dt.D),y∈L→Dt.DownS n J Jx N l lb B0 y
 |[],_,h=>absurd h (by simp)
 |x :: r,y,h=>(List.mem_cons.1 h).elim (fun e=>by rw[e];exact Dt.downS_any n nY hn hlb hJ hJx hY x) (fun h'=>Dt.downsS_any n nY hn hlb hJ hJx hY r y h')
end
theorem walkS_any(n nY:Nat)(hn:3≤n){N l:Nat}{lb:Nat→Prop}{yb:Nat}{J Jx:List Dt.P→World→Prop}{w:World}(hlb:∀k,lb k→k<w.heap.size)(hJ:Rb.BelFrom w.heap.size J)(hJx:Rb.BelFrom w.heap.size Jx)
  (hY : ∀ pre x W1, J pre W1 → Dt.VP x W1 → pre.length < N → YieldAt Fence.wide nY Tryz.prog l (Dt.encP x) W1 fun e W' =>
   (e= .returned (.bool true)∧J (pre++[x]) W'∧Keep lb W1 W')∨(e= .returned (.bool false)∧Jx (pre++[x]) W'∧Keep lb W1 W'))
  {F:Nat→Prop} (x:Dt.D) (vm vl vt:Value) (hW:Dt.Wf x) (hFi:Dt.Fine x) (hR:Dt.Rep F w x vm vl vt) (hF:∀k,F k→¬lb k) (hy:w.cell? ⟨yb,0,none⟩=some (.func (.yield l) #[] #[])) (hyl:¬lb yb) (hck:(Dt.chk x 1 0).1=0) (hJ0:J [] w) (hN:(Dt.pre x).length≤N):
  Calls Tryz.prog 80 #[.agg #[.int .i64 x.k,.int .i64 x.n,.string x.s,vm,vl,vt],Dt.seeF yb] w fun e w'=>(∃v,e= .returned v)∧((∃xs:List Dt.P,xs.map Dt.P.d=Dt.pre x∧J xs w')∨(∃xs:List Dt.P,xs.map Dt.P.d<+:Dt.pre x∧Jx xs w')):=by
 have hyb:yb<w.heap.size:=block_lt_of_cell hy;have HJ:=hd hJ;have HJX:=hd hJx;obtain⟨a1,n1,c1,a2,n2,c2,a3,n3,c3,rfl,rfl,rfl⟩:=hR.forms;obtain⟨X0,h0⟩:∃X,w.alloc (.cells #[.int .i64 x.k,.int .i64 x.n,.string x.s,.slice a1 n1 c1,.slice a2 n2 c2,.slice a3 n3 c3] 25)=X:=⟨_,rfl⟩
 obtain⟨X1,h1⟩:∃X,X0.alloc (.cells #[Dt.seeF yb] 105)=X:=⟨_,rfl⟩
 obtain⟨X2,h2⟩:∃X,X1.alloc (.cells #[.int .i64 0] 3)=X:=⟨_,rfl⟩
 obtain⟨X3,h3⟩:∃X,X2.alloc (.cells #[.int .i64 0] 3)=X:=⟨_,rfl⟩
 obtain⟨X4,h4⟩:∃X,X3.alloc (.cells #[.bool false] 4)=X:=⟨_,rfl⟩
 obtain⟨X5,h5⟩:∃X,X4.alloc (.cells #[.nilFunc] 134)=X:=⟨_,rfl⟩
 have z0:X0.heap.size=w.heap.size+1:=by rw[←h0,World.size_alloc]
 have z1:X1.heap.size=w.heap.size+1+1:=by rw[←h1,World.size_alloc,z0]
 have z2:X2.heap.size=w.heap.size+1+1+1:=by rw[←h2,World.size_alloc,z1]
 have z3:X3.heap.size=w.heap.size+1+1+1+1:=by rw[←h3,World.size_alloc,z2]
 have z4:X4.heap.size=w.heap.size+1+1+1+1+1:=by rw[←h4,World.size_alloc,z3]
 have z5:X5.heap.size=w.heap.size+1+1+1+1+1+1:=by rw[←h5,World.size_alloc,z4]
 have b0:Below w.heap.size w X0:=by rw[←h0];exact(Below.refl _ _).alloc (Nat.le_refl _) _
 have b1:Below X0.heap.size X0 X1:=by rw[←h1];exact(Below.refl _ _).alloc (Nat.le_refl _) _
 have b2:Below X1.heap.size X1 X2:=by rw[←h2];exact(Below.refl _ _).alloc (Nat.le_refl _) _
 have b3:Below X2.heap.size X2 X3:=by rw[←h3];exact(Below.refl _ _).alloc (Nat.le_refl _) _
 have b4:Below X3.heap.size X3 X4:=by rw[←h4];exact(Below.refl _ _).alloc (Nat.le_refl _) _
 have b5:Below X4.heap.size X4 X5:=by rw[←h5];exact(Below.refl _ _).alloc (Nat.le_refl _) _
 have n1':X1.cell? ⟨w.heap.size+1,0,none⟩=some (Dt.seeF yb):=by rw[←h1,←z0];exact Dt.one_new _ _ _
 have n2':X2.cell? ⟨w.heap.size+1+1,0,none⟩=some (.int .i64 0):=by rw[←h2,←z1];exact Dt.one_new _ _ _
 have n3':X3.cell? ⟨w.heap.size+1+1+1,0,none⟩=some (.int .i64 0):=by rw[←h3,←z2];exact Dt.one_new _ _ _
 have n4':X4.cell? ⟨w.heap.size+1+1+1+1,0,none⟩=some (.bool false):=by rw[←h4,←z3];exact Dt.one_new _ _ _
 have n5':X5.cell? ⟨w.heap.size+1+1+1+1+1,0,none⟩=some .nilFunc:=by rw[←h5,←z4];exact Dt.one_new _ _ _
 have m2:X2.frozen? ⟨w.heap.size+1+1,0,none⟩=false:=by rw[←h2,←z1];exact Dt.frz_new _ _ _ _
 have m3:X3.frozen? ⟨w.heap.size+1+1+1,0,none⟩=false:=by rw[←h3,←z2];exact Dt.frz_new _ _ _ _
 have m4:X4.frozen? ⟨w.heap.size+1+1+1+1,0,none⟩=false:=by rw[←h4,←z3];exact Dt.frz_new _ _ _ _
 have m5:X5.frozen? ⟨w.heap.size+1+1+1+1+1,0,none⟩=false:=by rw[←h5,←z4];exact Dt.frz_new _ _ _ _
 have b25:=(b3.trans (b4.mono (by omega))).trans (b5.mono (by omega));have b35:=b4.trans (b5.mono (by omega));have b15:=b2.trans (b25.mono (by omega));have hB5:Below w.heap.size w X5:=((b0.trans (b1.mono (by omega))).trans (b2.mono (by omega))).trans (b25.mono (by omega));have b05:Below X0.heap.size X0 X5:=(b1.trans (b15.mono (by omega)))
 have p1:=(b15.cell (p:=⟨w.heap.size+1,0,none⟩) (by simp;omega)).trans n1';have p2:=(b25.cell (p:=⟨w.heap.size+1+1,0,none⟩) (by simp;omega)).trans n2';have p3:=(b35.cell (p:=⟨w.heap.size+1+1+1,0,none⟩) (by simp;omega)).trans n3';have p4:=(b5.cell (p:=⟨w.heap.size+1+1+1+1,0,none⟩) (by simp;omega)).trans n4';have q2:=(b25.frozen (p:=⟨w.heap.size+1+1,0,none⟩) (by simp;omega)).trans m2;have q4:=(b5.frozen (p:=⟨w.heap.size+1+1+1+1,0,none⟩) (by simp;omega)).trans m4;have q3:=(b35.frozen (p:=⟨w.heap.size+1+1+1,0,none⟩) (by simp;omega)).trans m3;have hsix:=Dt.six_new w x.k x.n x.s (.slice a1 n1 c1) (.slice a2 n2 c2) (.slice a3 n3 c3) 25;rw[h0]at hsix;have hlt0:w.heap.size<X0.heap.size:=by omega
 have d0:X5.cell? ⟨w.heap.size,0,none⟩=some (.int .i64 x.k):=(b05.cell (p:=⟨w.heap.size,0,none⟩) hlt0).trans (hsix 0 (by omega));have d1:X5.cell? ⟨w.heap.size,1,none⟩=some (.int .i64 x.n):=(b05.cell (p:=⟨w.heap.size,1,none⟩) hlt0).trans (hsix 1 (by omega));have d2:X5.cell? ⟨w.heap.size,2,none⟩=some (.string x.s):=(b05.cell (p:=⟨w.heap.size,2,none⟩) hlt0).trans (hsix 2 (by omega));have d3:X5.cell? ⟨w.heap.size,3,none⟩=some (.slice a1 n1 c1):=(b05.cell (p:=⟨w.heap.size,3,none⟩) hlt0).trans (hsix 3 (by omega));have d4:X5.cell? ⟨w.heap.size,4,none⟩=some (.slice a2 n2 c2):=(b05.cell (p:=⟨w.heap.size,4,none⟩) hlt0).trans (hsix 4 (by omega));have d5:X5.cell? ⟨w.heap.size,5,none⟩=some (.slice a3 n3 c3):=(b05.cell (p:=⟨w.heap.size,5,none⟩) hlt0).trans (hsix 5 (by omega));have hall:(((((w.alloc (.cells #[.int .i64 x.k,.int .i64 x.n,.string x.s,.slice a1 n1 c1,.slice a2 n2 c2,.slice a3 n3 c3] 25)).alloc (.cells #[Dt.seeF yb] 105)).alloc (.cells #[.int .i64 0] 3)).alloc (.cells #[.int .i64 0] 3)).alloc (.cells #[.bool false] 4)).alloc (.cells #[.nilFunc] 134)=X5:=by rw[h0,h1,h2,h3,h4,h5]
 obtain⟨X6,h6⟩:∃X6,X5.setCell ⟨w.heap.size+1+1+1+1+1,0,none⟩ (Dt.downF (w.heap.size+1+1) (w.heap.size+1+1+1) (w.heap.size+1) (w.heap.size+1+1+1+1) (w.heap.size+1+1+1+1+1))=X6:=⟨_,rfl⟩
 have hne:∀ {y},y≠w.heap.size+1+1+1+1+1→∀j,X6.cell? ⟨y,j,none⟩=X5.cell? ⟨y,j,none⟩:=fun hy j=>by
  rw[←h6];exact World.cell?_setCell_other _ _ _ _ (by intro e;cases e;exact hy rfl)
 have hB6:Below w.heap.size w X6:=by rw[←h6];exact hB5.setCell (p:=⟨w.heap.size+1+1+1+1+1,0,none⟩) (by simp;omega) _
 have hs6:X6.heap.size=w.heap.size+1+1+1+1+1+1:=by rw[←h6];simpa[World.setCell]using z5
 have hyc:X6.cell? ⟨yb,0,none⟩=some (.func (.yield l) #[] #[]):=(hB6.cell (p:=⟨yb,0,none⟩) hyb).trans hy;have hE:Dt.EnvS X6 (w.heap.size+1+1) (w.heap.size+1+1+1) (w.heap.size+1) (w.heap.size+1+1+1+1) (w.heap.size+1+1+1+1+1) yb l 0 false:=
  ⟨(hne (by omega) 0).trans p2,⟨0,(hne (by omega) 0).trans p3⟩,(hne (by omega) 0).trans p1,(hne (by omega) 0).trans p4,by rw[←h6];exact World.cell?_setCell_same' _ _ _ (by rw[n5'];rfl),hyc,by rw[←h6,World.frozen?_setCell];exact q2,by rw[←h6,World.frozen?_setCell];exact q3,by rw[←h6,World.frozen?_setCell];exact q4⟩
 have hnl:∀ {k},w.heap.size≤k→¬lb k:=fun h h2=>by have:=hlb _ h2;omega
 have hJ6:J [] X6:=hJ _ _ _ hJ0 (Nat.le_refl _) hB6;have hdn:=Dt.downS_any n nY hn hlb hJ hJx hY x (fun k=>k<w.heap.size∧¬lb k) 1 0 _ _ _ X6 (w.heap.size+1+1) (w.heap.size+1+1+1) (w.heap.size+1) (w.heap.size+1+1+1+1) (w.heap.size+1+1+1+1+1) yb [] hW hFi ((Dt.Rep.mono (fun k h hk=>⟨hk,hF k h⟩) x hR).below hB6) (fun k hk h=>by rcases h with h|h|h|h;omega;omega;omega;exact hk.2 h) hE ⟨by omega,by omega,by omega,by omega,by omega,hnl (by omega),by omega,by omega,by omega,by omega,hnl (by omega),by omega,by omega,by omega,hnl (by omega),hnl (by omega),hnl (by omega),hyl,by omega,by omega,by omega⟩ (by omega) (by omega) (by omega) hck hJ6 (by simpa using hN);rw[show(((1:Nat)):Int)=1 from rfl]at hdn;have eu:=hE.cu;have HDN:=hd (callsIn_wide.1 hdn);have HB:=hd hB6;have HS:=hd hs6;have e0:=(hne (y:=w.heap.size) (by omega) 0).trans d0;have e1:=(hne (y:=w.heap.size) (by omega) 1).trans d1;have e2:=(hne (y:=w.heap.size) (by omega) 2).trans d2;have e3:=(hne (y:=w.heap.size) (by omega) 3).trans d3;have e4:=(hne (y:=w.heap.size) (by omega) 4).trans d4;have e5:=(hne (y:=w.heap.size) (by omega) 5).trans d5;clear n1' n2' n3' n4' m2 m3 b0 b1 b2 b3 b4 b5 b25 b35 b15 b05 h0 h1 h2 h3 h4 h5 z0 z1 z2 z3 z4 z5 hsix hE hB6 hB5 hs6 hdn hne p1 p2 p3 p4 q2 q3 q4 m4 hyc hJ6 d0 d1 d2 d3 d4 d5 hlt0 hR hW;clear hJ hJx hY hJ0 hck hFi;obtain⟨R,hRR⟩:∃R,R=Dt.chk x 1 0:=⟨_,rfl⟩
 rw[←hRR]at HDN;clear hRR;go_enter Tryz.func80,Tryz.ntmps80;go_wp2_with fail
 refine HDN.out.mono ?_;rintro e w7 ⟨rfl,sp,hM⟩;have HM:Hid ((∃xs:List Dt.P,xs.map Dt.P.d=Dt.pre x∧J xs w7)∨(∃xs:List Dt.P,xs.map Dt.P.d<+:Dt.pre x∧Jx xs w7)):=by
  rcases hM.2 with⟨_,_,xs,h1,h2⟩|⟨_,_,xs,h1,h2⟩
  ·exact .inl ⟨xs,h1,h2⟩
  ·exact .inr ⟨xs,h1,h2⟩
 have HZ:Hid (w.heap.size≤w7.heap.size):=by
  show _≤_;have:=hM.1.size;have:=HS.out;omega
 obtain⟨a',b',ca,cb⟩:∃(a':Nat) (b':Int),w7.cell? ⟨w.heap.size+1+1,0,none⟩=some (.int .i64 (a':Int))∧w7.cell? ⟨w.heap.size+1+1+1,0,none⟩=some (.int .i64 b'):=by
  rcases hM.2 with⟨_,hE,_⟩|⟨_,⟨a',hE⟩,_⟩
  ·exact⟨_,_,hE.cp,hE.cd.choose_spec⟩
  ·exact⟨_,_,hE.cp,hE.cd.choose_spec⟩
 clear hM HDN eu e0 e1 e2 e3 e4 e5 n5' m5 hall h6;go_wp2
 go_quiet (fail)
 go_wp2;refine bodyPost_ret (v:= .tuple #[.int .i64 (a':Int),.int .i64 b',.int .i64 0]) (by simp[results,Tryz.results80,go_sem]) rfl ?_;exact⟨⟨_,rfl⟩,HM.out.elim (fun⟨xs,h1,h2⟩=> .inl ⟨xs,h1,HJ.out _ _ _ h2 HZ.out ⟨rfl,rfl,rfl,Nat.le_refl _,fun _ _=>rfl⟩⟩) (fun⟨xs,h1,h2⟩=> .inr ⟨xs,h1,HJX.out _ _ _ h2 HZ.out ⟨rfl,rfl,rfl,Nat.le_refl _,fun _ _=>rfl⟩⟩)⟩
theorem dAll1_any(n nY:Nat)(hn:3≤n){N l:Nat}{lb:Nat→Prop}{J Jx:List Dt.P→World→Prop}{w:World}(hlb:∀k,lb k→k<w.heap.size)(hJ:Rb.BelFrom w.heap.size J)(hJx:Rb.BelFrom w.heap.size Jx)
  (hY : ∀ pre x W1, J pre W1 → Dt.VP x W1 → pre.length < N → YieldAt Fence.wide nY Tryz.prog l (Dt.encP x) W1 fun e W' =>
   (e= .returned (.bool true)∧J (pre++[x]) W'∧Keep lb W1 W')∨(e= .returned (.bool false)∧Jx (pre++[x]) W'∧Keep lb W1 W'))
  {F:Nat→Prop} (x:Dt.D) (vm vl vt:Value) (hW:Dt.Wf x) (hR:Dt.Rep F w x vm vl vt) (hF:∀k,F k→¬lb k) (db:Nat) (hd:Dt.Six w db 0 x vm vl vt) (hck:(Dt.chk x 1 0).1=0) (hJ0:J [] w) (hN:(Dt.pre x).length≤N):
  Calls Tryz.prog 150 #[.func (.yield l) #[] #[],.pointer (some ⟨db,0,none⟩)] w fun e w'=>(∃v,e= .returned v)∧((∃xs:List Dt.P,xs.map Dt.P.d=Dt.pre x∧J xs w')∨(∃xs:List Dt.P,xs.map Dt.P.d<+:Dt.pre x∧Jx xs w')):=by
 obtain⟨w1,hw1⟩:∃w1,w.alloc (.cells #[.func (.yield l) #[] #[]] 105)=w1:=⟨_,rfl⟩
 have hb1:Below w.heap.size w w1:=by rw[←hw1];exact(Below.refl _ _).alloc (Nat.le_refl _) _
 have hy1:w1.cell? ⟨w.heap.size,0,none⟩=some (.func (.yield l) #[] #[]):=by rw[←hw1];exact Dt.one_new _ _ _
 have hz1:w1.heap.size=w.heap.size+1:=by rw[←hw1,World.size_alloc]
 have hc:=dCheck_any x vm vl vt w1 hW (hR.below hb1);have hdb:db<w.heap.size:=block_lt_of_cell hd.1;have hd1:=hd.keep (S:=fun _=>False) ((Keep.refl _ _).below hb1) hdb id;have hfi:Dt.Fine x:=(Dt.chk_fine x 1 0 (by omega) hck).2;have hck0:Dt.check x=0:=hck;rw[hck0]at hc;have HB1:=hd hb1;have HD:=hd hd1;obtain⟨d0,d1,d2,d3,d4,d5⟩:=hd1;simp only[Nat.zero_add]at d0 d1 d2 d3 d4 d5;have HR:=hd hR;have HJ:=hd hJ;have HJX:=hd hJx;have HY:=hd hY;have HJ0:=hd hJ0;have HCK:=hd hck;have HY1:=hd hy1;have HZ1:=hd hz1;clear hb1 hd hR hJ hJx hY hJ0 hck hck0 hy1 hz1;go_enter Tryz.func150,Tryz.ntmps150;go_wp2_with fail
 refine hc.mono ?_;rintro e w2 ⟨rfl,hb2⟩;clear hc hw1;have HB2:=hd hb2;have HB12:=hd ((btr HB1.out hb2));obtain⟨e0,e1,e2,e3,e4,e5⟩:=HD.out.keep (S:=fun _=>False) ((Keep.refl _ _).below hb2) (by have:=HZ1.out;omega) id;simp only[Nat.zero_add]at e0 e1 e2 e3 e4 e5;clear hb2 d0 d1 d2 d3 d4 d5;go_wp2_with fail
 refine(walkS_any n nY hn (N:=N) (l:=l) (lb:=lb) (yb:=w.heap.size) (J:=J) (Jx:=Jx) (w:=w2) (fun k hk=>Nat.lt_of_lt_of_le (hlb k hk) HB12.out.size) (fun s A B h hle hb=>HJ.out s A B h (Nat.le_trans HB12.out.size hle) (hb.mono HB12.out.size)) (fun s A B h hle hb=>HJX.out s A B h (Nat.le_trans HB12.out.size hle) (hb.mono HB12.out.size)) HY.out (F:=F) x vm vl vt hW hfi (HR.out.below HB12.out) hF
  ((HB2.out.cell (p:=⟨w.heap.size,0,none⟩) (by have:=HZ1.out;simp only;omega)).trans HY1.out) (fun h=>Nat.lt_irrefl _ (hlb _ h)) HCK.out (HJ.out _ _ _ HJ0.out (Nat.le_refl _) HB12.out) hN).mono ?_
 rintro e w3 ⟨⟨v,rfl⟩,h3⟩;have H3:=hd h3;clear h3;go_wp2
 first|go_end0|go_ret2|trace_state
 exact⟨⟨_,rfl⟩,H3.out⟩
namespace Dt
theorem six_of(w:World)(x:D)(vm vl vt:Value)(t:TypeId):Six (w.alloc (.cells #[.int .i64 x.k,.int .i64 x.n,.string x.s,vm,vl,vt] t)) w.heap.size 0 x vm vl vt:=by
 have h:=six_new w x.k x.n x.s vm vl vt t;exact⟨h 0 (by omega),h 1 (by omega),h 2 (by omega),h 3 (by omega),h 4 (by omega),h 5 (by omega)⟩
end Dt
theorem dAll_any(x:Dt.D)(vm vl vt:Value)(w:World):
  Calls Tryz.prog 112 #[.agg #[.int .i64 x.k,.int .i64 x.n,.string x.s,vm,vl,vt]] w fun e w'=>e= .returned (.func (.func 150) #[] #[.pointer (some ⟨w.heap.size,0,none⟩)])∧Below w.heap.size w w'∧Dt.Six w' w.heap.size 0 x vm vl vt∧w.heap.size<w'.heap.size:=by
 obtain⟨w1,hw1⟩:∃w1,w.alloc (.cells #[.int .i64 x.k,.int .i64 x.n,.string x.s,vm,vl,vt] 25)=w1:=⟨_,rfl⟩
 have hb1:Below w.heap.size w w1:=by rw[←hw1];exact(Below.refl _ _).alloc (Nat.le_refl _) _
 have hs:Dt.Six w1 w.heap.size 0 x vm vl vt:=by rw[←hw1];exact Dt.six_of w x vm vl vt _
 have hz:w.heap.size<w1.heap.size:=by rw[←hw1];simp
 go_enter Tryz.func112,Tryz.ntmps112;go_wp2;go_ret;exact⟨rfl,hb1,hs,hz⟩
theorem dAll_stops(n:Nat){F:Nat→Prop}(x:Dt.D)(vm vl vt:Value)(w0:World)(R db:Nat)(hRz:R<w0.heap.size)(hW:Dt.Wf x)(hR:Dt.Rep F w0 x vm vl vt)(hF:∀k,F k→k<w0.heap.size∧k≠R)(hd:Dt.Six w0 db 0 x vm vl vt)(hck:(Dt.chk x 1 0).1=0):
  Rb.SeqStopsB Fence.wide n Tryz.prog 150 #[.pointer (some ⟨db,0,none⟩)] Dt.encP (Keep fun k=>k=R∨k=w0.heap.size+1) Dt.VP (fun xs=>xs.map Dt.P.d=Dt.pre x) (fun xs=>xs.map Dt.P.d<+:Dt.pre x) (Dt.pre x).length w0:=by
 intro l J Jx W hW0 hz hJ hJx hY h0;have hdb:db<w0.heap.size:=block_lt_of_cell hd.1;have h:=dAll1_any 3 (n - 1) (Nat.le_refl _) (N:=(Dt.pre x).length) (l:=l) (lb:=fun k=>k=R∨k=w0.heap.size+1) (J:=J) (Jx:=Jx) (w:=W) (fun k hk=>by rcases hk with rfl|rfl <;> omega) hJ hJx hY (F:=F) x vm vl vt hW (hR.below hW0)
  (fun k hk h=>by have:=hF k hk;rcases h with h|h <;> omega) db (hd.keep (S:=fun _=>False) ((Keep.refl _ _).below hW0) hdb id) hck h0 (Nat.le_refl _)
 exact(callsIn_wide.2 h).mono (fun e w' h=>⟨h.1,h.2⟩)
namespace Cd
open Dt
def NameRow(F:Nat→Prop)(w:World)(v:Value)(l:List ByteArray):Prop:=
 ∃(a:Option Addr) (c:Nat),v= .slice a l.length c∧l.length≤c∧(l≠[]→∃b o,a=some ⟨b,o,none⟩∧F b∧b<w.heap.size∧∀j,(h:j<l.length)→w.cell? ⟨b,o+j,none⟩=some (.string l[j]))
theorem NameRow.keep{F S:Nat→Prop}{w w':World}{v:Value}{l:List ByteArray}(h:NameRow F w v l)(hk:Keep S w w')(hS:∀b,F b→b<w.heap.size→¬S b):NameRow F w' v l:=by
 obtain⟨a,c,h1,h2,h3⟩:=h;refine⟨a,c,h1,h2,fun hn=> ?_⟩;obtain⟨b,o,h4,h5,h6,h7⟩:=h3 hn;exact⟨b,o,h4,h5,Nat.lt_of_lt_of_le h6 hk.size,fun j hj=>(hk.cell _ h6 (hS b h5 h6)).trans (h7 j hj)⟩
def plainD(d:D):Bool:=decide (check d=0)&&(pre d).all fun x=>x.m.isEmpty
end Cd
end Go.Proofs.YtfjmlfbohenmfaaGreat
namespace Go.Proofs.YtfjmlfbohenmfaaGreat
open Go.RowKit Go.Shelf
attribute [local go_sem] Oper.semAt_some
namespace Cd
open Dt
theorem keep_putObj{S:Nat→Prop}(W:World)(b:Nat)(o':Obj)(h:S b):Keep S W (W.putObj b o'):=
 ⟨rfl,rfl,rfl,by simp[World.putObj],fun k _ hn=>World.putObj_heap_other (fun e=>hn (by rw[e];exact h))⟩
def PI(w:World)(R:Nat)(pre:List P)(W:World):Prop:=(∀p∈pre,p.d.m=[])∧Boxed W R 4 (.bool false)∧Below w.heap.size w W
def PX(w:World)(R:Nat)(c:Go.Code)(pre:List P)(W:World):Prop:=c= .ret∧(∃p∈pre,p.d.m≠[])∧Boxed W R 4 (.bool false)∧Below w.heap.size w W
theorem below_grown{w W W':World}{row:Option Nat}{B:Nat}(h:Below w.heap.size w W)(hB:w.heap.size≤B)(hg:W.grownBy W' row)(hr:∀r,row=some r→B≤r):Below w.heap.size w W':=
 ⟨hg.os.trans h.os,hg.tape.trans h.tape,hg.output.trans h.output,Nat.le_trans h.size hg.size,fun k hk=>(hg.block k (Nat.lt_of_lt_of_le hk h.size) (fun e=>by have:=hr _ e.symm;omega)).trans (h.block k hk)⟩
theorem PI.grown{w W W':World}{R B:Nat}{pre:List P}{row:Option Nat}(h:PI w R pre W)(hw:w.heap.size≤B)(hR:R<B)(hg:W.grownBy W' row)(hr:∀r,row=some r→B≤r):PI w R pre W':=
 ⟨h.1,h.2.1.kept hg (fun e=>by have:=hr R e.symm;omega),below_grown h.2.2 hw hg hr⟩
theorem PX.grown{w W W':World}{R B:Nat}{c:Go.Code}{pre:List P}{row:Option Nat}(h:PX w R c pre W)(hw:w.heap.size≤B)(hR:R<B)(hg:W.grownBy W' row)(hr:∀r,row=some r→B≤r):PX w R c pre W':=
 ⟨h.1,h.2.1,h.2.2.1.kept hg (fun e=>by have:=hr R e.symm;omega),below_grown h.2.2.2 hw hg hr⟩
def PAx(w:World)(R:Nat)(tm:Nat→P→Array Value)(pre:List P)(x:P)(a':Act)(W:World):Prop:=
 PI w R pre W∧(∃am cm,x.vm= .slice am x.d.m.length cm)∧∃Bx,W.heap[Bx]?=some (.cells #[.int .i64 x.d.k,.int .i64 x.d.n,.string x.d.s,x.vm,x.vl,x.vt] 25 (0,0))∧a'= {tmps:=tm Bx x,defers:=[]}
theorem PAx.grown{w W W':World}{R B:Nat}{tm:Nat→P→Array Value}{pre:List P}{x:P}{a':Act}{row:Option Nat}(h:PAx w R tm pre x a' W)(hw:w.heap.size≤B)(hR:R<B)(hg:W.grownBy W' row)(hr:∀r,row=some r→B≤r∧∃o:Obj,W.heap[r]?=some o∧o.isCells=false):PAx w R tm pre x a' W':=by
 obtain⟨h1,h2,Bx,h4,h5⟩:=h;refine⟨h1.grown hw hR hg (fun r e=>(hr r e).1),h2,Bx,(hg.block Bx (Array.getElem?_eq_some_iff.1 h4).1 (fun e=> ?_)).trans h4,h5⟩;obtain⟨-,o,ho,hc⟩:=hr Bx e.symm;rw[h4]at ho;cases ho;cases hc
theorem boxed_below{W W':World}{R B:Nat}{t:TypeId}{v:Value}(h:Boxed W R t v)(hb:Below B W W')(hR:R<B):Boxed W' R t v:=(hb.block R hR).trans h
theorem vm_form{w:World}{p:P}(h:VP p w):∃am cm,p.vm= .slice am p.d.m.length cm:=by
 obtain⟨⟨am,cm,h1,_⟩,_⟩:=(rep_iff _ w p.d p.vm p.vl p.vt).1 h;exact⟨am,cm,h1⟩
end Cd
theorem constP_any{F:Nat→Prop}(x:Dt.D)(vm vl vt:Value)(w:World)(hW:Dt.Wf x)(hR:Dt.Rep F w x vm vl vt):
  Calls Tryz.prog 89 #[.agg #[.int .i64 x.k,.int .i64 x.n,.string x.s,vm,vl,vt]] w fun e w'=>e= .returned (.bool (Cd.plainD x))∧Below w.heap.size w w':=by
 obtain⟨w1,hw1⟩:∃w1,w.alloc (.cells #[.int .i64 x.k,.int .i64 x.n,.string x.s,vm,vl,vt] 25)=w1:=⟨_,rfl⟩
 obtain⟨w2,hw2⟩:∃w2,w1.alloc (.cells #[.bool false] 4)=w2:=⟨_,rfl⟩
 have hb1:Below w.heap.size w w1:=by rw[←hw1];exact(Below.refl _ _).alloc (Nat.le_refl _) _
 have hb2:Below w1.heap.size w1 w2:=by rw[←hw2];exact(Below.refl _ _).alloc (Nat.le_refl _) _
 have hz1:w1.heap.size=w.heap.size+1:=by rw[←hw1,World.size_alloc]
 have hz2:w2.heap.size=w.heap.size+2:=by rw[←hw2,World.size_alloc,hz1]
 have hx2:Boxed w2 (w.heap.size+1) 4 (.bool false):=by have h:=Boxed.new w1 4 (.bool false);rw[hw2,hz1]at h;exact h
 have hb12:Below w.heap.size w w2:=hb1.trans (hb2.mono (by omega));have hsix:Dt.Six w2 w.heap.size 0 x vm vl vt:=by
  have h:=Dt.six_of w x vm vl vt 25;rw[hw1]at h;exact h.keep (S:=fun _=>False) ((Keep.refl _ _).below hb2) (by omega) id
 have hc:=dCheck_any x vm vl vt w2 hW (hR.below hb12);obtain⟨d0,d1,d2,d3,d4,d5⟩:=hsix;have hsix:Dt.Six w2 w.heap.size 0 x vm vl vt:=⟨d0,d1,d2,d3,d4,d5⟩
 simp only[Nat.zero_add]at d0 d1 d2 d3 d4 d5;have HB:=hd hb12;have HX2:=hd hx2;have HZ2:=hd hz2;have HSIX:=hd hsix;have HR:=hd hR;clear hb1 hb2 hz2 hb12 hsix hx2 hR;by_cases hck:Dt.check x=0
 case neg=>
  have hnz:(Dt.check x !=0)=true:=by simpa using hck
  have hpl:Cd.plainD x=false:=by simp[Cd.plainD,hck]
  rw[hpl];clear hpl;obtain⟨cv,hcv⟩:∃cv,Dt.check x=cv:=⟨_,rfl⟩
  rw[hcv]at hc hnz;clear hcv hck;go_enter Tryz.func89,Tryz.ntmps89;go_wp2_with fail
  refine hc.mono ?_;rintro e w3 ⟨rfl,hb3⟩;have hx3:=Cd.boxed_below HX2.out hb3 HX2.out.lt;have c3:=hx3.cell;have f3:=hx3.frozen;have HX3:=hd hx3;have HB3:=hd ((btr HB.out hb3));clear hb3 hx3 hc hw2;go_wp2;have c4:(w3.setCell ⟨w.heap.size+1,0,none⟩ (.bool false)).cell? ⟨w.heap.size+1,0,none⟩=some (.bool false):=World.cell?_setCell_same' _ _ _ (by rw[c3];rfl);refine bodyPost_ret (v:= .bool false) (by simp[results,Tryz.results89,go_sem,c4]) rfl ?_;exact⟨rfl,HB3.out.setCell (p:=⟨w.heap.size+1,0,none⟩) (by simp) _⟩
 have hz:(Dt.check x !=0)=false:=by simpa using hck
 have HCK:Hid ((Dt.chk x 1 0).1=0):=hck;rw[hck]at hc;clear hz hck;refine(callsIn_wide (n:=12)).1 ?_;refine callsIn_of_wp_marks Tryz.func89 rfl trivial ?_ rfl;simp only[Tryz.ntmps89,List.size_toArray,List.length_cons,List.length_nil,Nat.reduceAdd,Nat.reduceSub,Array.replicate_succ,Array.replicate_zero,List.push_toArray,List.append_toArray,List.nil_append,List.cons_append]
 gi_wp2_with (refine⟨trivial,?_⟩;gi_at_call 58;refine(callsIn_wide.2 hc).mono ?_;clear hc hw1 hw2;rintro e w3 ⟨rfl,hb3⟩;have HB3:=hd hb3;obtain⟨e0,e1,e2,e3,e4,e5⟩:=HSIX.out.keep (S:=fun _=>False) ((Keep.refl _ _).below hb3) (by have:=HZ2.out;omega) id;simp only[Nat.zero_add]at e0 e1 e2 e3 e4 e5;have hal:=dAll_any x vm vl vt w3;clear d0 d1 d2 d3 d4 d5 hb3)
 refine⟨trivial,?_⟩;refine(callsIn_wide.2 hal).mono ?_;clear hal;rintro e W0 ⟨rfl,hb4,hs4,hz4⟩;have HW0:Hid (Below w.heap.size w W0):=((btr HB.out HB3.out)).trans (hb4.mono (Nat.le_trans HB.out.size HB3.out.size));have HX0:Hid (Boxed W0 (w.heap.size+1) 4 (.bool false)):=Cd.boxed_below (Cd.boxed_below HX2.out HB3.out HX2.out.lt) hb4 (Nat.lt_of_lt_of_le HX2.out.lt HB3.out.size);have HS4:=hd hs4;have hwz:w.heap.size≤W0.heap.size:=HW0.out.size;have hRz:=HX0.out.lt;clear hb4 hs4 e0 e1 e2 e3 e4 e5
 gi_wp2
 obtain⟨Y,hY⟩:∃Y,w3.heap.size=Y:=⟨_,rfl⟩
 rw[hY]at HS4 hz4 ⊢;have HRP:Hid (Dt.Rep (fun k=>k<w.heap.size) W0 x vm vl vt):=(Dt.Rep.mono (fun _ _ h=>h) x HR.out).below HW0.out;refine Rb.wpIn_rangeB (n:=12) rfl (by omega) (gf:=150) (lb:=#[.pointer (some ⟨Y,0,none⟩)]) rfl trivial (enters_of Tryz.func150 (by kernel_rfl) rfl)
  (encs:=Dt.encP) (Kp:=Keep fun k=>k=w.heap.size+1∨k=W0.heap.size+1) (V:=Dt.VP) (S:=fun ys=>ys.map Dt.P.d=Dt.pre x) (Sp:=fun ys=>ys.map Dt.P.d<+:Dt.pre x) (N:=(Dt.pre x).length) (w0:=W0)
  (dAll_stops 11 x vm vl vt W0 (w.heap.size+1) Y hRz hW HRP.out (fun k hk=>⟨by omega,by omega⟩) HS4.out HCK.out)
  (fun h k=>h.trans k) (fun W o o' _ _=>Cd.keep_putObj W (W0.heap.size+1) o' (.inr rfl)) (Below.refl _ _) (fun _=>rfl)
  (Cd.PI w (w.heap.size+1)) (Cd.PX w (w.heap.size+1))
  (fun pre W W' row h hg hr=>Cd.PI.grown h hwz hRz hg (fun r e=>(hr r e).1))
  (fun c pre W W' row h hg hr=>Cd.PX.grown h hwz hRz hg (fun r e=>(hr r e).1))
  (fun pre W W' h _ hb=>⟨h.1,Cd.boxed_below h.2.1 hb (by omega),h.2.2.trans (hb.mono (by omega))⟩)
  (fun c pre W W' h _ hb=>⟨h.1,h.2.1,Cd.boxed_below h.2.2.1 hb (by omega),h.2.2.2.trans (hb.mono (by omega))⟩)
  ⟨fun _ h=>(by cases h),HX0.out,HW0.out⟩
  (Cd.PAx w (w.heap.size+1) (fun Bx p=>#[.agg #[.int .i64 x.k,.int .i64 x.n,.string x.s,vm,vl,vt],.pointer (some ⟨w.heap.size,0,none⟩),.pointer (some ⟨w.heap.size+1,0,none⟩),.pointer (some ⟨Bx,0,none⟩),.agg #[.int .i64 x.k,.int .i64 x.n,.string x.s,vm,vl,vt],.int .i64 0,.bool false,.agg #[.int .i64 x.k,.int .i64 x.n,.string x.s,vm,vl,vt],.func (.func 150) #[] #[.pointer (some ⟨Y,0,none⟩)],.agg #[.int .i64 p.d.k,.int .i64 p.d.n,.string p.d.s,p.vm,p.vl,p.vt],undef,undef,undef,undef]))
  (fun pre y a' _ W W' row h hg hr=>Cd.PAx.grown h hwz hRz hg hr)
  ?assign ?body ?done ?stop
 case assign=>
  rintro l pre ⟨pd,pm,pl,pt⟩ W K hT hV hK;have hf:=Cd.vm_form hV;obtain⟨a1,n1,q1,a2,n2,q2,a3,n3,q3,e1,e2,e3⟩:=Dt.Rep.forms (show Dt.Rep (fun _=>True) W pd pm pl pt from hV);subst e1 e2 e3;unfold Dt.encP;dsimp only at hf ⊢
  gi_wp2
  refine hK _ _ ?_ ?_ ?_
  ·exact(KeepsOthers.alloc _ _).from _
  ·exact(Keep.refl _ _).alloc _
  exact⟨hT.grown hwz hRz (World.grownBy_alloc W _ none) (by simp),hf,W.heap.size,World.alloc_heap_new W _,rfl⟩
 case body=>
  rintro l pre ⟨pd,pm,pl,pt⟩ a' W hl ⟨r,hr⟩ ⟨hT,⟨am,cm,hpm⟩,Bx,hX,rfl⟩ hlt;dsimp only at hpm hX ⊢;subst hpm;have x3:W.cell? ⟨Bx,3,none⟩=some (.slice am pd.m.length cm):=by simp[World.cell?,hX]
  have cR:=hT.2.1.cell;have fR:=hT.2.1.frozen;have HT:=hd hT;clear hT;by_cases hm:pd.m=[]
  ·have hln:pd.m.length=0:=by rw[hm];rfl
   rw[hln]at x3 ⊢
   gi_wp2
   exact⟨KeepsFrom.refl _ _,Keep.refl _ _,fun q hq=>by rcases List.mem_append.1 hq with h|h;exact HT.out.1 q h;rw[List.mem_singleton.1 h];exact hm,HT.out.2.1,HT.out.2.2⟩
  ·have hln:(0:Int)<(pd.m.length:Int):=by have:=List.length_pos_iff.2 hm;omega
   gi_wp2
   refine⟨(KeepsOthers.setCell _ _ _).from _,(Keep.refl _ _).setCell (B:=w.heap.size+1) (.inl rfl) 0 _,rfl,⟨_,List.mem_append_right _ (List.mem_singleton_self _),by simp[hm]⟩,HT.out.2.1.set _,HT.out.2.2.setCell (p:=⟨w.heap.size+1,0,none⟩) (by simp) _⟩
 case done=>
  rintro D ys W hD hS hI hK;have HI:=hd hI;have cR:=hI.2.1.cell;have fR:=hI.2.1.frozen;have hv:Cd.plainD x=true:=by
   have h1:Dt.check x=0:=HCK.out;have h2:∀q∈Dt.pre x,q.m.isEmpty=true:=by
    intro q hq;rw[←hS]at hq;obtain⟨p,hp,rfl⟩:=List.mem_map.1 hq;rw[hI.1 p hp];rfl
   simp only[Cd.plainD,h1,List.all_eq_true.2 h2]
   rfl
  have HV:=hd hv;clear hI hS hv
  gi_wp2
  have hb9:Boxed (W.setCell ⟨w.heap.size+1,0,none⟩ (.bool true)) (w.heap.size+1) 4 (.bool true):=HI.out.2.1.set _;have hK9:(W.setCell ⟨w.heap.size+1,0,none⟩ (.bool true)).heap[D]?=some (.deferred (some [])):=(KeepsOthers.setCell _ _ _).same D _ hK rfl;have hbw:=HI.out.2.2.setCell (p:=⟨w.heap.size+1,0,none⟩) (by simp) (.bool true);obtain⟨U,hU⟩:∃U,W.setCell ⟨w.heap.size+1,0,none⟩ (.bool true)=U:=⟨_,rfl⟩
  rw[hU]at hb9 hK9 hbw ⊢;refine⟨by simp,.inl ⟨_,_,rfl,run_takeDeferred hK9,?_⟩⟩;have c9:=fun o'=>(hb9.kept (grownBy_putObj' U D o') (fun e=>by cases e;omega)).cell
  refine⟨.bool true,by simp[results,Tryz.results89,go_sem,c9],by rw[HV.out],?_⟩;exact hbw.trans (belowK_b (w:=w) (Nat.le_refl _) U D _ _ (by omega) hK9 rfl rfl)
 case stop=>
  rintro D c pre W hD hp hI hK;obtain⟨rfl,hex,hbx,hbw⟩:=hI;have cR:=hbx.cell;have HBX:=hd hbx;have hv:Cd.plainD x=false:=by
   obtain⟨p,hp1,hp2⟩:=hex;have hq:p.d∈Dt.pre x:=List.IsPrefix.subset hp (List.mem_map_of_mem hp1);simp only[Cd.plainD,Bool.and_eq_false_iff];right;rw[List.all_eq_false];exact⟨p.d,hq,by simpa using hp2⟩
  have HV:=hd hv;clear hex hbx hv
  gi_wp2
  refine⟨by simp,.inl ⟨_,_,rfl,run_takeDeferred hK,?_⟩⟩;have c9:=fun o'=>(HBX.out.kept (grownBy_putObj' W D o') (fun e=>by cases e;omega)).cell
  refine⟨.bool false,by simp[results,Tryz.results89,go_sem,c9],by rw[HV.out],?_⟩;exact hbw.trans (belowK_b (w:=w) (Nat.le_refl _) W D _ _ (by omega) hK rfl rfl)
theorem constC_any{F:Nat→Prop}(x:Dt.D)(vm vl vt:Value)(w:World)(hW:Dt.Wf x)(hR:Dt.Rep F w x vm vl vt):
  Calls Tryz.prog 89 #[.agg #[.int .i64 x.k,.int .i64 x.n,.string x.s,vm,vl,vt]] w fun e w'=>e= .returned (.bool (Co.const x))∧Below w.heap.size w w':=
 constP_any x vm vl vt w hW hR
end Go.Proofs.YtfjmlfbohenmfaaGreat
namespace Go.Proofs.YtfjmlfbohenmfaaGreat
open Go.RowKit
attribute [local go_sem] Oper.semAt_some
namespace Co
theorem len0(P:Nat):((P:Int)==0)=(P==0):=by rw[Bool.eq_iff_iff];simp
theorem empty_list(s:ByteArray):empty s=s.toList.isEmpty:=by unfold empty;rw[ByteArray.toList_eq]
end Co
theorem single1_any{F:Nat→Prop}(n:Int)(s:ByteArray)(d:Dt.D)(p:List Int)(L:Nat)(al:Option Addr)(cl:Nat)(vm vl vt vp:Value)(w:World)(hs:s.size≤140737488355328)(hL:L≤140737488355328)(hp:p.length≤140737488355328)(hW:Dt.Wf d)(hD:Dt.Rep F w d vm vl vt)(hP:Dt.IRow F w vp p):
  Calls Tryz.prog 65 #[.agg #[.int .i64 1,.int .i64 n,.string s,.int .i64 d.k,.int .i64 d.n,.string d.s,vm,vl,vt,vp,.slice al L cl]] w fun e w'=>e= .returned (.bool (decide (L=0)&&((n==0)&&(s.toList.isEmpty&&(p.isEmpty&&(Co.const d))))))∧Below w.heap.size w w':=by
 obtain⟨a1,n1,q1,a2,n2,q2,a3,n3,q3,rfl,rfl,rfl⟩:=hD.forms;obtain⟨ap,cp,rfl,hlc,hcc⟩:=hP;have hP:Dt.IRow F w (.slice ap p.length cp) p:=⟨ap,cp,rfl,hlc,hcc⟩
 have HP:=hd hP;have HD:=hd hD;obtain⟨K,hK⟩:∃K,Co.const d=K:=⟨_,rfl⟩
 obtain⟨R,hR⟩:∃R,R=(decide (L=0)&&((n==0)&&(s.toList.isEmpty&&(p.isEmpty&&(Co.const d))))):=⟨_,rfl⟩
 rw[←hR];have hE:p.isEmpty=(p.length==0):=by cases p <;> rfl
 rw[hE,hK]at hR;have hE2:=Co.len0 p.length;obtain⟨E,hE3⟩:∃E,E=(p.length==0):=⟨_,rfl⟩
 rw[←hE3]at hR hE2;obtain⟨P,hPn⟩:∃P,p.length=P:=⟨_,rfl⟩
 have HPN:=hd hPn;have HR:=hd hR;have HK:=hd (fun W (hb:Below w.heap.size w W)=>constC_any d _ _ _ W hW (hD.below hb));rw[hK]at HK;have hfm:=fun W=>forms_any 1 W
 have hfv:Co.fmV 1= .agg #[.string ⟨#[99,111,110,115,116]⟩,.int .i64 4,.int .i64 0,.int .i64 0]:=rfl;have hik:Co.isKind 1=true:=rfl;rw[hfv,hik]at hfm;clear hfv hik;obtain⟨w1,hw1⟩:∃w1,w.alloc (.cells #[.int .i64 1,.int .i64 n,.string s,.int .i64 d.k,.int .i64 d.n,.string d.s,.slice a1 n1 q1,.slice a2 n2 q2,.slice a3 n3 q3,.slice ap p.length cp,.slice al L cl] 28)=w1:=⟨_,rfl⟩
 obtain⟨hb1,hs1⟩:=new_below hw1;have Hc_0:=hd (Hp.new hw1);rw[hPn]at hw1 Hc_0 hE2 hp hP;rw[hPn];obtain⟨c0,c1,c2,c3,c4,c5,c6,c7,c8,c9,c10⟩:=Hc_0.out.c11;have HB1:=hd hb1;clear hb1 hs1 hK hR hE hE3 hPn hP hD hW hlc hcc;have b1:decide ((L:Int)<0)=false:=decide_eq_false (by omega);by_cases g2:0<L
 ·have b2:decide (0<(L:Int))=true:=decide_eq_true (by omega);have HF:Hid (R=false):=by show R=false;rw[HR.out,decide_eq_false (by omega)];rfl
  have b2n:decide (0<L)=true:=decide_eq_true g2
  skip
  go_enter Tryz.func65,Tryz.ntmps65;go_wp2_with(first
   |(go_at_call 49;refine(hfm _).mono ?_;rintro e w2 ⟨rfl,hb2⟩;clear hw1;clear c0 c1 c2 c3 c4 c5 c6 c7 c8 c9 c10;have hw3:w2.alloc (.cells #[.string ⟨#[99,111,110,115,116]⟩,.int .i64 4,.int .i64 0,.int .i64 0] 88)=w2.alloc (.cells #[.string ⟨#[99,111,110,115,116]⟩,.int .i64 4,.int .i64 0,.int .i64 0] 88):=rfl;obtain⟨hb3,hs3⟩:=new_below hw3;have Hc_1:=hd ((Hc_0.out.below hb2).below hb3);have Hf_0:=hd (Hp.new hw3);obtain⟨c0,c1,c2,c3,c4,c5,c6,c7,c8,c9,c10⟩:=Hc_1.out.c11;obtain⟨f0,f1,f2,f3⟩:=Hf_0.out.c4;have HB2:=hd (((btr HB1.out hb2)).trans (hb3.mono (Nat.le_trans HB1.out.size hb2.size)));clear hb2 hb3 hs3 hfm hw3)
   |(go_at_call 89;refine(HK.out _ HB2.out).mono ?_;rintro e w4 ⟨rfl,hb3⟩;have HB3:=hd ((btr HB2.out hb3));clear hb3)
   |fail)
  go_ret;exact⟨by rw[HF.out];rfl,HB2.out⟩
 have b2:decide (0<(L:Int))=false:=decide_eq_false (by omega);have b2n:decide (0<L)=false:=decide_eq_false (by omega);have HRR:Hid (R=((n==0)&&(s.toList.isEmpty&&(E&&K)))):=by show R=_;rw[HR.out,decide_eq_true (by omega),Bool.true_and]
 clear g2;go_enter Tryz.func65,Tryz.ntmps65;go_wp2_with(first
   |(go_at_call 49;refine(hfm _).mono ?_;rintro e w2 ⟨rfl,hb2⟩;clear hw1;clear c0 c1 c2 c3 c4 c5 c6 c7 c8 c9 c10;have hw3:w2.alloc (.cells #[.string ⟨#[99,111,110,115,116]⟩,.int .i64 4,.int .i64 0,.int .i64 0] 88)=w2.alloc (.cells #[.string ⟨#[99,111,110,115,116]⟩,.int .i64 4,.int .i64 0,.int .i64 0] 88):=rfl;obtain⟨hb3,hs3⟩:=new_below hw3;have Hc_1:=hd ((Hc_0.out.below hb2).below hb3);have Hf_0:=hd (Hp.new hw3);obtain⟨c0,c1,c2,c3,c4,c5,c6,c7,c8,c9,c10⟩:=Hc_1.out.c11;obtain⟨f0,f1,f2,f3⟩:=Hf_0.out.c4;have HB2:=hd (((btr HB1.out hb2)).trans (hb3.mono (Nat.le_trans HB1.out.size hb2.size)));clear hb2 hb3 hs3 hfm hw3)
   |(go_at_call 89;refine(HK.out _ HB2.out).mono ?_;rintro e w4 ⟨rfl,hb3⟩;have HB3:=hd ((btr HB2.out hb3));clear hb3)
   |fail)
 all_goals
  go_ret
  first
   |exact⟨by rw[HRR.out];simp_all,HB4.out⟩
   |exact⟨by rw[HRR.out];simp_all,HB3.out⟩
   |exact⟨by rw[HRR.out];simp_all,HB2.out⟩
theorem single2_any{F:Nat→Prop}(n:Int)(s:ByteArray)(d:Dt.D)(p:List Int)(L:Nat)(al:Option Addr)(cl:Nat)(vm vl vt vp:Value)(w:World)(hs:s.size≤140737488355328)(hL:L≤140737488355328)(hp:p.length≤140737488355328)(hW:Dt.Wf d)(hD:Dt.Rep F w d vm vl vt)(hP:Dt.IRow F w vp p):
  Calls Tryz.prog 65 #[.agg #[.int .i64 2,.int .i64 n,.string s,.int .i64 d.k,.int .i64 d.n,.string d.s,vm,vl,vt,vp,.slice al L cl]] w fun e w'=>e= .returned (.bool (decide (L=0)&&((Co.var n)&&(s.toList.isEmpty&&(p.isEmpty&&(Co.none_ d))))))∧Below w.heap.size w w':=by
 obtain⟨a1,n1,q1,a2,n2,q2,a3,n3,q3,rfl,rfl,rfl⟩:=hD.forms;obtain⟨ap,cp,rfl,hlc,hcc⟩:=hP;have hP:Dt.IRow F w (.slice ap p.length cp) p:=⟨ap,cp,rfl,hlc,hcc⟩
 have HP:=hd hP;have HD:=hd hD;obtain⟨K,hK⟩:∃K,Co.none_ d=K:=⟨_,rfl⟩
 obtain⟨V,hV⟩:∃V,Co.var n=V:=⟨_,rfl⟩
 obtain⟨R,hR⟩:∃R,R=(decide (L=0)&&((Co.var n)&&(s.toList.isEmpty&&(p.isEmpty&&(Co.none_ d))))):=⟨_,rfl⟩
 rw[←hR];have hE:p.isEmpty=(p.length==0):=by cases p <;> rfl
 rw[hE,hK,hV]at hR;have hE2:=Co.len0 p.length;obtain⟨E,hE3⟩:∃E,E=(p.length==0):=⟨_,rfl⟩
 rw[←hE3]at hR hE2;obtain⟨P,hPn⟩:∃P,p.length=P:=⟨_,rfl⟩
 have HPN:=hd hPn;have HR:=hd hR;have HK:=hd (fun W (hb:Below w.heap.size w W)=>zeroC_any d _ _ _ W hW (hD.below hb));rw[hK]at HK;have HV:=fun W=>varC_any n W
 rw[hV]at HV;have hfm:=fun W=>forms_any 2 W
 have hfv:Co.fmV 2= .agg #[.string ⟨#[108,111,99,97,108]⟩,.int .i64 1,.int .i64 0,.int .i64 0]:=rfl;have hik:Co.isKind 2=true:=rfl;rw[hfv,hik]at hfm;clear hfv hik;obtain⟨w1,hw1⟩:∃w1,w.alloc (.cells #[.int .i64 2,.int .i64 n,.string s,.int .i64 d.k,.int .i64 d.n,.string d.s,.slice a1 n1 q1,.slice a2 n2 q2,.slice a3 n3 q3,.slice ap p.length cp,.slice al L cl] 28)=w1:=⟨_,rfl⟩
 obtain⟨hb1,hs1⟩:=new_below hw1;have Hc_0:=hd (Hp.new hw1);rw[hPn]at hw1 Hc_0 hE2 hp hP;rw[hPn];obtain⟨c0,c1,c2,c3,c4,c5,c6,c7,c8,c9,c10⟩:=Hc_0.out.c11;have HB1:=hd hb1;clear hb1 hs1 hK hR hE hE3 hPn hP hD hW hlc hcc hV;have b1:decide ((L:Int)<0)=false:=decide_eq_false (by omega);by_cases g2:0<L
 ·have b2:decide (0<(L:Int))=true:=decide_eq_true (by omega);have HF:Hid (R=false):=by show R=false;rw[HR.out,decide_eq_false (by omega)];rfl
  have b2n:decide (0<L)=true:=decide_eq_true g2
  skip
  go_enter Tryz.func65,Tryz.ntmps65;go_wp2_with(first
   |(go_at_call 49;refine(hfm _).mono ?_;rintro e w2 ⟨rfl,hb2⟩;clear hw1;clear c0 c1 c2 c3 c4 c5 c6 c7 c8 c9 c10;have hw3:w2.alloc (.cells #[.string ⟨#[108,111,99,97,108]⟩,.int .i64 1,.int .i64 0,.int .i64 0] 88)=w2.alloc (.cells #[.string ⟨#[108,111,99,97,108]⟩,.int .i64 1,.int .i64 0,.int .i64 0] 88):=rfl;obtain⟨hb3,hs3⟩:=new_below hw3;have Hc_1:=hd ((Hc_0.out.below hb2).below hb3);have Hf_0:=hd (Hp.new hw3);obtain⟨c0,c1,c2,c3,c4,c5,c6,c7,c8,c9,c10⟩:=Hc_1.out.c11;obtain⟨f0,f1,f2,f3⟩:=Hf_0.out.c4;have HB2:=hd (((btr HB1.out hb2)).trans (hb3.mono (Nat.le_trans HB1.out.size hb2.size)));clear hb2 hb3 hs3 hfm hw3)
   |(go_at_call 68;refine(HK.out _ HB2.out).mono ?_;rintro e w4 ⟨rfl,hb3⟩;have HB3:=hd ((btr HB2.out hb3));clear hb3)
   |(go_at_call 83;refine(HV _).mono ?_;rintro e w5 ⟨rfl,rfl⟩)
   |fail)
  go_ret;exact⟨by rw[HF.out];rfl,HB2.out⟩
 have b2:decide (0<(L:Int))=false:=decide_eq_false (by omega);have b2n:decide (0<L)=false:=decide_eq_false (by omega);have HRR:Hid (R=(V&&(s.toList.isEmpty&&(E&&K)))):=by show R=_;rw[HR.out,decide_eq_true (by omega),Bool.true_and]
 clear g2;go_enter Tryz.func65,Tryz.ntmps65;go_wp2_with(first
   |(go_at_call 49;refine(hfm _).mono ?_;rintro e w2 ⟨rfl,hb2⟩;clear hw1;clear c0 c1 c2 c3 c4 c5 c6 c7 c8 c9 c10;have hw3:w2.alloc (.cells #[.string ⟨#[108,111,99,97,108]⟩,.int .i64 1,.int .i64 0,.int .i64 0] 88)=w2.alloc (.cells #[.string ⟨#[108,111,99,97,108]⟩,.int .i64 1,.int .i64 0,.int .i64 0] 88):=rfl;obtain⟨hb3,hs3⟩:=new_below hw3;have Hc_1:=hd ((Hc_0.out.below hb2).below hb3);have Hf_0:=hd (Hp.new hw3);obtain⟨c0,c1,c2,c3,c4,c5,c6,c7,c8,c9,c10⟩:=Hc_1.out.c11;obtain⟨f0,f1,f2,f3⟩:=Hf_0.out.c4;have HB2:=hd (((btr HB1.out hb2)).trans (hb3.mono (Nat.le_trans HB1.out.size hb2.size)));clear hb2 hb3 hs3 hfm hw3)
   |(go_at_call 68;refine(HK.out _ HB2.out).mono ?_;rintro e w4 ⟨rfl,hb3⟩;have HB3:=hd ((btr HB2.out hb3));clear hb3)
   |(go_at_call 83;refine(HV _).mono ?_;rintro e w5 ⟨rfl,rfl⟩)
   |fail)
 all_goals
  go_ret
  first
   |exact⟨by rw[HRR.out];simp_all,HB4.out⟩
   |exact⟨by rw[HRR.out];simp_all,HB3.out⟩
   |exact⟨by rw[HRR.out];simp_all,HB2.out⟩
theorem single3_any{F:Nat→Prop}(n:Int)(s:ByteArray)(d:Dt.D)(p:List Int)(L:Nat)(al:Option Addr)(cl:Nat)(vm vl vt vp:Value)(w:World)(hs:s.size≤140737488355328)(hL:L≤140737488355328)(hp:p.length≤140737488355328)(hW:Dt.Wf d)(hD:Dt.Rep F w d vm vl vt)(hP:Dt.IRow F w vp p):
  Calls Tryz.prog 65 #[.agg #[.int .i64 3,.int .i64 n,.string s,.int .i64 d.k,.int .i64 d.n,.string d.s,vm,vl,vt,vp,.slice al L cl]] w fun e w'=>e= .returned (.bool (decide (L=0)&&((n==0)&&((Lx.symbol s.data.toList)&&(p.isEmpty&&(Co.none_ d))))))∧Below w.heap.size w w':=by
 obtain⟨a1,n1,q1,a2,n2,q2,a3,n3,q3,rfl,rfl,rfl⟩:=hD.forms;obtain⟨ap,cp,rfl,hlc,hcc⟩:=hP;have hP:Dt.IRow F w (.slice ap p.length cp) p:=⟨ap,cp,rfl,hlc,hcc⟩
 have HP:=hd hP;have HD:=hd hD;obtain⟨K,hK⟩:∃K,Co.none_ d=K:=⟨_,rfl⟩
 obtain⟨V,hV⟩:∃V,Lx.symbol s.data.toList=V:=⟨_,rfl⟩
 obtain⟨R,hR⟩:∃R,R=(decide (L=0)&&((n==0)&&((Lx.symbol s.data.toList)&&(p.isEmpty&&(Co.none_ d))))):=⟨_,rfl⟩
 rw[←hR];have hE:p.isEmpty=(p.length==0):=by cases p <;> rfl
 rw[hE,hK,hV]at hR;have hE2:=Co.len0 p.length;obtain⟨E,hE3⟩:∃E,E=(p.length==0):=⟨_,rfl⟩
 rw[←hE3]at hR hE2;obtain⟨P,hPn⟩:∃P,p.length=P:=⟨_,rfl⟩
 have HPN:=hd hPn;have HR:=hd hR;have HK:=hd (fun W (hb:Below w.heap.size w W)=>zeroC_any d _ _ _ W hW (hD.below hb));rw[hK]at HK;have HV:=fun W=>dSymbol_any s W hs
 rw[hV]at HV;have hfm:=fun W=>forms_any 3 W
 have hfv:Co.fmV 3= .agg #[.string ⟨#[103,108,111,98,97,108]⟩,.int .i64 2,.int .i64 0,.int .i64 0]:=rfl;have hik:Co.isKind 3=true:=rfl;rw[hfv,hik]at hfm;clear hfv hik;obtain⟨w1,hw1⟩:∃w1,w.alloc (.cells #[.int .i64 3,.int .i64 n,.string s,.int .i64 d.k,.int .i64 d.n,.string d.s,.slice a1 n1 q1,.slice a2 n2 q2,.slice a3 n3 q3,.slice ap p.length cp,.slice al L cl] 28)=w1:=⟨_,rfl⟩
 obtain⟨hb1,hs1⟩:=new_below hw1;have Hc_0:=hd (Hp.new hw1);rw[hPn]at hw1 Hc_0 hE2 hp hP;rw[hPn];obtain⟨c0,c1,c2,c3,c4,c5,c6,c7,c8,c9,c10⟩:=Hc_0.out.c11;have HB1:=hd hb1;clear hb1 hs1 hK hR hE hE3 hPn hP hD hW hlc hcc hV;have b1:decide ((L:Int)<0)=false:=decide_eq_false (by omega);by_cases g2:0<L
 ·have b2:decide (0<(L:Int))=true:=decide_eq_true (by omega);have HF:Hid (R=false):=by show R=false;rw[HR.out,decide_eq_false (by omega)];rfl
  have b2n:decide (0<L)=true:=decide_eq_true g2
  skip
  go_enter Tryz.func65,Tryz.ntmps65;go_wp2_with(first
   |(go_at_call 49;refine(hfm _).mono ?_;rintro e w2 ⟨rfl,hb2⟩;clear hw1;clear c0 c1 c2 c3 c4 c5 c6 c7 c8 c9 c10;have hw3:w2.alloc (.cells #[.string ⟨#[103,108,111,98,97,108]⟩,.int .i64 2,.int .i64 0,.int .i64 0] 88)=w2.alloc (.cells #[.string ⟨#[103,108,111,98,97,108]⟩,.int .i64 2,.int .i64 0,.int .i64 0] 88):=rfl;obtain⟨hb3,hs3⟩:=new_below hw3;have Hc_1:=hd ((Hc_0.out.below hb2).below hb3);have Hf_0:=hd (Hp.new hw3);obtain⟨c0,c1,c2,c3,c4,c5,c6,c7,c8,c9,c10⟩:=Hc_1.out.c11;obtain⟨f0,f1,f2,f3⟩:=Hf_0.out.c4;have HB2:=hd (((btr HB1.out hb2)).trans (hb3.mono (Nat.le_trans HB1.out.size hb2.size)));clear hb2 hb3 hs3 hfm hw3)
   |(go_at_call 68;refine(HK.out _ HB2.out).mono ?_;rintro e w4 ⟨rfl,hb3⟩;have HB3:=hd ((btr HB2.out hb3));clear hb3)
   |(go_at_call 90;refine(HV _).mono ?_;rintro e w5 ⟨rfl,rfl⟩)
   |fail)
  go_ret;exact⟨by rw[HF.out];rfl,HB2.out⟩
 have b2:decide (0<(L:Int))=false:=decide_eq_false (by omega);have b2n:decide (0<L)=false:=decide_eq_false (by omega);have HRR:Hid (R=((n==0)&&(V&&(E&&K)))):=by show R=_;rw[HR.out,decide_eq_true (by omega),Bool.true_and]
 clear g2;go_enter Tryz.func65,Tryz.ntmps65;go_wp2_with(first
   |(go_at_call 49;refine(hfm _).mono ?_;rintro e w2 ⟨rfl,hb2⟩;clear hw1;clear c0 c1 c2 c3 c4 c5 c6 c7 c8 c9 c10;have hw3:w2.alloc (.cells #[.string ⟨#[103,108,111,98,97,108]⟩,.int .i64 2,.int .i64 0,.int .i64 0] 88)=w2.alloc (.cells #[.string ⟨#[103,108,111,98,97,108]⟩,.int .i64 2,.int .i64 0,.int .i64 0] 88):=rfl;obtain⟨hb3,hs3⟩:=new_below hw3;have Hc_1:=hd ((Hc_0.out.below hb2).below hb3);have Hf_0:=hd (Hp.new hw3);obtain⟨c0,c1,c2,c3,c4,c5,c6,c7,c8,c9,c10⟩:=Hc_1.out.c11;obtain⟨f0,f1,f2,f3⟩:=Hf_0.out.c4;have HB2:=hd (((btr HB1.out hb2)).trans (hb3.mono (Nat.le_trans HB1.out.size hb2.size)));clear hb2 hb3 hs3 hfm hw3)
   |(go_at_call 68;refine(HK.out _ HB2.out).mono ?_;rintro e w4 ⟨rfl,hb3⟩;have HB3:=hd ((btr HB2.out hb3));clear hb3)
   |(go_at_call 90;refine(HV _).mono ?_;rintro e w5 ⟨rfl,rfl⟩)
   |fail)
 all_goals
  go_ret
  first
   |exact⟨by rw[HRR.out];simp_all,HB4.out⟩
   |exact⟨by rw[HRR.out];simp_all,HB3.out⟩
   |exact⟨by rw[HRR.out];simp_all,HB2.out⟩
theorem single4_any{F:Nat→Prop}(n:Int)(s:ByteArray)(d:Dt.D)(p:List Int)(L:Nat)(al:Option Addr)(cl:Nat)(vm vl vt vp:Value)(w:World)(hs:s.size≤140737488355328)(hL:L≤140737488355328)(hp:p.length≤140737488355328)(hW:Dt.Wf d)(hD:Dt.Rep F w d vm vl vt)(hP:Dt.IRow F w vp p):
  Calls Tryz.prog 65 #[.agg #[.int .i64 4,.int .i64 n,.string s,.int .i64 d.k,.int .i64 d.n,.string d.s,vm,vl,vt,vp,.slice al L cl]] w fun e w'=>e= .returned (.bool (decide (L=1)&&((Co.var n)&&(s.toList.isEmpty&&(p.isEmpty&&(Co.none_ d))))))∧Below w.heap.size w w':=by
 obtain⟨a1,n1,q1,a2,n2,q2,a3,n3,q3,rfl,rfl,rfl⟩:=hD.forms;obtain⟨ap,cp,rfl,hlc,hcc⟩:=hP;have hP:Dt.IRow F w (.slice ap p.length cp) p:=⟨ap,cp,rfl,hlc,hcc⟩
 have HP:=hd hP;have HD:=hd hD;obtain⟨K,hK⟩:∃K,Co.none_ d=K:=⟨_,rfl⟩
 obtain⟨V,hV⟩:∃V,Co.var n=V:=⟨_,rfl⟩
 obtain⟨R,hR⟩:∃R,R=(decide (L=1)&&((Co.var n)&&(s.toList.isEmpty&&(p.isEmpty&&(Co.none_ d))))):=⟨_,rfl⟩
 rw[←hR];have hE:p.isEmpty=(p.length==0):=by cases p <;> rfl
 rw[hE,hK,hV]at hR;have hE2:=Co.len0 p.length;obtain⟨E,hE3⟩:∃E,E=(p.length==0):=⟨_,rfl⟩
 rw[←hE3]at hR hE2;obtain⟨P,hPn⟩:∃P,p.length=P:=⟨_,rfl⟩
 have HPN:=hd hPn;have HR:=hd hR;have HK:=hd (fun W (hb:Below w.heap.size w W)=>zeroC_any d _ _ _ W hW (hD.below hb));rw[hK]at HK;have HV:=fun W=>varC_any n W
 rw[hV]at HV;have hfm:=fun W=>forms_any 4 W
 have hfv:Co.fmV 4= .agg #[.string ⟨#[115,101,116]⟩,.int .i64 1,.int .i64 1,.int .i64 1]:=rfl;have hik:Co.isKind 4=true:=rfl;rw[hfv,hik]at hfm;clear hfv hik;obtain⟨w1,hw1⟩:∃w1,w.alloc (.cells #[.int .i64 4,.int .i64 n,.string s,.int .i64 d.k,.int .i64 d.n,.string d.s,.slice a1 n1 q1,.slice a2 n2 q2,.slice a3 n3 q3,.slice ap p.length cp,.slice al L cl] 28)=w1:=⟨_,rfl⟩
 obtain⟨hb1,hs1⟩:=new_below hw1;have Hc_0:=hd (Hp.new hw1);rw[hPn]at hw1 Hc_0 hE2 hp hP;rw[hPn];obtain⟨c0,c1,c2,c3,c4,c5,c6,c7,c8,c9,c10⟩:=Hc_0.out.c11;have HB1:=hd hb1;clear hb1 hs1 hK hR hE hE3 hPn hP hD hW hlc hcc hV;by_cases g1:L<1
 ·have b1:decide ((L:Int)<1)=true:=decide_eq_true (by omega);have HF:Hid (R=false):=by show R=false;rw[HR.out,decide_eq_false (by omega)];rfl
  clear g1;go_enter Tryz.func65,Tryz.ntmps65;go_wp2_with(first
   |(go_at_call 49;refine(hfm _).mono ?_;rintro e w2 ⟨rfl,hb2⟩;clear hw1;clear c0 c1 c2 c3 c4 c5 c6 c7 c8 c9 c10;have hw3:w2.alloc (.cells #[.string ⟨#[115,101,116]⟩,.int .i64 1,.int .i64 1,.int .i64 1] 88)=w2.alloc (.cells #[.string ⟨#[115,101,116]⟩,.int .i64 1,.int .i64 1,.int .i64 1] 88):=rfl;obtain⟨hb3,hs3⟩:=new_below hw3;have Hc_1:=hd ((Hc_0.out.below hb2).below hb3);have Hf_0:=hd (Hp.new hw3);obtain⟨c0,c1,c2,c3,c4,c5,c6,c7,c8,c9,c10⟩:=Hc_1.out.c11;obtain⟨f0,f1,f2,f3⟩:=Hf_0.out.c4;have HB2:=hd (((btr HB1.out hb2)).trans (hb3.mono (Nat.le_trans HB1.out.size hb2.size)));clear hb2 hb3 hs3 hfm hw3)
   |(go_at_call 68;refine(HK.out _ HB2.out).mono ?_;rintro e w4 ⟨rfl,hb3⟩;have HB3:=hd ((btr HB2.out hb3));clear hb3)
   |(go_at_call 83;refine(HV _).mono ?_;rintro e w5 ⟨rfl,rfl⟩)
   |fail)
  go_ret;exact⟨by rw[HF.out];rfl,HB2.out⟩
 have b1:decide ((L:Int)<1)=false:=decide_eq_false (by omega);by_cases g2:1<L
 ·have b2:decide (1<(L:Int))=true:=decide_eq_true (by omega);have HF:Hid (R=false):=by show R=false;rw[HR.out,decide_eq_false (by omega)];rfl
  clear g2;clear g1;go_enter Tryz.func65,Tryz.ntmps65;go_wp2_with(first
   |(go_at_call 49;refine(hfm _).mono ?_;rintro e w2 ⟨rfl,hb2⟩;clear hw1;clear c0 c1 c2 c3 c4 c5 c6 c7 c8 c9 c10;have hw3:w2.alloc (.cells #[.string ⟨#[115,101,116]⟩,.int .i64 1,.int .i64 1,.int .i64 1] 88)=w2.alloc (.cells #[.string ⟨#[115,101,116]⟩,.int .i64 1,.int .i64 1,.int .i64 1] 88):=rfl;obtain⟨hb3,hs3⟩:=new_below hw3;have Hc_1:=hd ((Hc_0.out.below hb2).below hb3);have Hf_0:=hd (Hp.new hw3);obtain⟨c0,c1,c2,c3,c4,c5,c6,c7,c8,c9,c10⟩:=Hc_1.out.c11;obtain⟨f0,f1,f2,f3⟩:=Hf_0.out.c4;have HB2:=hd (((btr HB1.out hb2)).trans (hb3.mono (Nat.le_trans HB1.out.size hb2.size)));clear hb2 hb3 hs3 hfm hw3)
   |(go_at_call 68;refine(HK.out _ HB2.out).mono ?_;rintro e w4 ⟨rfl,hb3⟩;have HB3:=hd ((btr HB2.out hb3));clear hb3)
   |(go_at_call 83;refine(HV _).mono ?_;rintro e w5 ⟨rfl,rfl⟩)
   |fail)
  go_ret;exact⟨by rw[HF.out];rfl,HB2.out⟩
 have b2:decide (1<(L:Int))=false:=decide_eq_false (by omega)
 skip
 have HRR:Hid (R=(V&&(s.toList.isEmpty&&(E&&K)))):=by show R=_;rw[HR.out,decide_eq_true (by omega),Bool.true_and]
 clear g1 g2;go_enter Tryz.func65,Tryz.ntmps65;go_wp2_with(first
   |(go_at_call 49;refine(hfm _).mono ?_;rintro e w2 ⟨rfl,hb2⟩;clear hw1;clear c0 c1 c2 c3 c4 c5 c6 c7 c8 c9 c10;have hw3:w2.alloc (.cells #[.string ⟨#[115,101,116]⟩,.int .i64 1,.int .i64 1,.int .i64 1] 88)=w2.alloc (.cells #[.string ⟨#[115,101,116]⟩,.int .i64 1,.int .i64 1,.int .i64 1] 88):=rfl;obtain⟨hb3,hs3⟩:=new_below hw3;have Hc_1:=hd ((Hc_0.out.below hb2).below hb3);have Hf_0:=hd (Hp.new hw3);obtain⟨c0,c1,c2,c3,c4,c5,c6,c7,c8,c9,c10⟩:=Hc_1.out.c11;obtain⟨f0,f1,f2,f3⟩:=Hf_0.out.c4;have HB2:=hd (((btr HB1.out hb2)).trans (hb3.mono (Nat.le_trans HB1.out.size hb2.size)));clear hb2 hb3 hs3 hfm hw3)
   |(go_at_call 68;refine(HK.out _ HB2.out).mono ?_;rintro e w4 ⟨rfl,hb3⟩;have HB3:=hd ((btr HB2.out hb3));clear hb3)
   |(go_at_call 83;refine(HV _).mono ?_;rintro e w5 ⟨rfl,rfl⟩)
   |fail)
 all_goals
  go_ret
  first
   |exact⟨by rw[HRR.out];simp_all,HB4.out⟩
   |exact⟨by rw[HRR.out];simp_all,HB3.out⟩
   |exact⟨by rw[HRR.out];simp_all,HB2.out⟩
theorem single5_any{F:Nat→Prop}(n:Int)(s:ByteArray)(d:Dt.D)(p:List Int)(L:Nat)(al:Option Addr)(cl:Nat)(vm vl vt vp:Value)(w:World)(hs:s.size≤140737488355328)(hL:L≤140737488355328)(hp:p.length≤140737488355328)(hW:Dt.Wf d)(hD:Dt.Rep F w d vm vl vt)(hP:Dt.IRow F w vp p):
  Calls Tryz.prog 65 #[.agg #[.int .i64 5,.int .i64 n,.string s,.int .i64 d.k,.int .i64 d.n,.string d.s,vm,vl,vt,vp,.slice al L cl]] w fun e w'=>e= .returned (.bool (decide (L=1)&&((n==0)&&((Lx.symbol s.data.toList)&&(p.isEmpty&&(Co.none_ d))))))∧Below w.heap.size w w':=by
 obtain⟨a1,n1,q1,a2,n2,q2,a3,n3,q3,rfl,rfl,rfl⟩:=hD.forms;obtain⟨ap,cp,rfl,hlc,hcc⟩:=hP;have hP:Dt.IRow F w (.slice ap p.length cp) p:=⟨ap,cp,rfl,hlc,hcc⟩
 have HP:=hd hP;have HD:=hd hD;obtain⟨K,hK⟩:∃K,Co.none_ d=K:=⟨_,rfl⟩
 obtain⟨V,hV⟩:∃V,Lx.symbol s.data.toList=V:=⟨_,rfl⟩
 obtain⟨R,hR⟩:∃R,R=(decide (L=1)&&((n==0)&&((Lx.symbol s.data.toList)&&(p.isEmpty&&(Co.none_ d))))):=⟨_,rfl⟩
 rw[←hR];have hE:p.isEmpty=(p.length==0):=by cases p <;> rfl
 rw[hE,hK,hV]at hR;have hE2:=Co.len0 p.length;obtain⟨E,hE3⟩:∃E,E=(p.length==0):=⟨_,rfl⟩
 rw[←hE3]at hR hE2;obtain⟨P,hPn⟩:∃P,p.length=P:=⟨_,rfl⟩
 have HPN:=hd hPn;have HR:=hd hR;have HK:=hd (fun W (hb:Below w.heap.size w W)=>zeroC_any d _ _ _ W hW (hD.below hb));rw[hK]at HK;have HV:=fun W=>dSymbol_any s W hs
 rw[hV]at HV;have hfm:=fun W=>forms_any 5 W
 have hfv:Co.fmV 5= .agg #[.string ⟨#[97,115,115,105,103,110]⟩,.int .i64 2,.int .i64 1,.int .i64 1]:=rfl;have hik:Co.isKind 5=true:=rfl;rw[hfv,hik]at hfm;clear hfv hik;obtain⟨w1,hw1⟩:∃w1,w.alloc (.cells #[.int .i64 5,.int .i64 n,.string s,.int .i64 d.k,.int .i64 d.n,.string d.s,.slice a1 n1 q1,.slice a2 n2 q2,.slice a3 n3 q3,.slice ap p.length cp,.slice al L cl] 28)=w1:=⟨_,rfl⟩
 obtain⟨hb1,hs1⟩:=new_below hw1;have Hc_0:=hd (Hp.new hw1);rw[hPn]at hw1 Hc_0 hE2 hp hP;rw[hPn];obtain⟨c0,c1,c2,c3,c4,c5,c6,c7,c8,c9,c10⟩:=Hc_0.out.c11;have HB1:=hd hb1;clear hb1 hs1 hK hR hE hE3 hPn hP hD hW hlc hcc hV;by_cases g1:L<1
 ·have b1:decide ((L:Int)<1)=true:=decide_eq_true (by omega);have HF:Hid (R=false):=by show R=false;rw[HR.out,decide_eq_false (by omega)];rfl
  clear g1;go_enter Tryz.func65,Tryz.ntmps65;go_wp2_with(first
   |(go_at_call 49;refine(hfm _).mono ?_;rintro e w2 ⟨rfl,hb2⟩;clear hw1;clear c0 c1 c2 c3 c4 c5 c6 c7 c8 c9 c10;have hw3:w2.alloc (.cells #[.string ⟨#[97,115,115,105,103,110]⟩,.int .i64 2,.int .i64 1,.int .i64 1] 88)=w2.alloc (.cells #[.string ⟨#[97,115,115,105,103,110]⟩,.int .i64 2,.int .i64 1,.int .i64 1] 88):=rfl;obtain⟨hb3,hs3⟩:=new_below hw3;have Hc_1:=hd ((Hc_0.out.below hb2).below hb3);have Hf_0:=hd (Hp.new hw3);obtain⟨c0,c1,c2,c3,c4,c5,c6,c7,c8,c9,c10⟩:=Hc_1.out.c11;obtain⟨f0,f1,f2,f3⟩:=Hf_0.out.c4;have HB2:=hd (((btr HB1.out hb2)).trans (hb3.mono (Nat.le_trans HB1.out.size hb2.size)));clear hb2 hb3 hs3 hfm hw3)
   |(go_at_call 68;refine(HK.out _ HB2.out).mono ?_;rintro e w4 ⟨rfl,hb3⟩;have HB3:=hd ((btr HB2.out hb3));clear hb3)
   |(go_at_call 90;refine(HV _).mono ?_;rintro e w5 ⟨rfl,rfl⟩)
   |fail)
  go_ret;exact⟨by rw[HF.out];rfl,HB2.out⟩
 have b1:decide ((L:Int)<1)=false:=decide_eq_false (by omega);by_cases g2:1<L
 ·have b2:decide (1<(L:Int))=true:=decide_eq_true (by omega);have HF:Hid (R=false):=by show R=false;rw[HR.out,decide_eq_false (by omega)];rfl
  clear g2;clear g1;go_enter Tryz.func65,Tryz.ntmps65;go_wp2_with(first
   |(go_at_call 49;refine(hfm _).mono ?_;rintro e w2 ⟨rfl,hb2⟩;clear hw1;clear c0 c1 c2 c3 c4 c5 c6 c7 c8 c9 c10;have hw3:w2.alloc (.cells #[.string ⟨#[97,115,115,105,103,110]⟩,.int .i64 2,.int .i64 1,.int .i64 1] 88)=w2.alloc (.cells #[.string ⟨#[97,115,115,105,103,110]⟩,.int .i64 2,.int .i64 1,.int .i64 1] 88):=rfl;obtain⟨hb3,hs3⟩:=new_below hw3;have Hc_1:=hd ((Hc_0.out.below hb2).below hb3);have Hf_0:=hd (Hp.new hw3);obtain⟨c0,c1,c2,c3,c4,c5,c6,c7,c8,c9,c10⟩:=Hc_1.out.c11;obtain⟨f0,f1,f2,f3⟩:=Hf_0.out.c4;have HB2:=hd (((btr HB1.out hb2)).trans (hb3.mono (Nat.le_trans HB1.out.size hb2.size)));clear hb2 hb3 hs3 hfm hw3)
   |(go_at_call 68;refine(HK.out _ HB2.out).mono ?_;rintro e w4 ⟨rfl,hb3⟩;have HB3:=hd ((btr HB2.out hb3));clear hb3)
   |(go_at_call 90;refine(HV _).mono ?_;rintro e w5 ⟨rfl,rfl⟩)
   |fail)
  go_ret;exact⟨by rw[HF.out];rfl,HB2.out⟩
 have b2:decide (1<(L:Int))=false:=decide_eq_false (by omega)
 skip
 have HRR:Hid (R=((n==0)&&(V&&(E&&K)))):=by show R=_;rw[HR.out,decide_eq_true (by omega),Bool.true_and]
 clear g1 g2;go_enter Tryz.func65,Tryz.ntmps65;go_wp2_with(first
   |(go_at_call 49;refine(hfm _).mono ?_;rintro e w2 ⟨rfl,hb2⟩;clear hw1;clear c0 c1 c2 c3 c4 c5 c6 c7 c8 c9 c10;have hw3:w2.alloc (.cells #[.string ⟨#[97,115,115,105,103,110]⟩,.int .i64 2,.int .i64 1,.int .i64 1] 88)=w2.alloc (.cells #[.string ⟨#[97,115,115,105,103,110]⟩,.int .i64 2,.int .i64 1,.int .i64 1] 88):=rfl;obtain⟨hb3,hs3⟩:=new_below hw3;have Hc_1:=hd ((Hc_0.out.below hb2).below hb3);have Hf_0:=hd (Hp.new hw3);obtain⟨c0,c1,c2,c3,c4,c5,c6,c7,c8,c9,c10⟩:=Hc_1.out.c11;obtain⟨f0,f1,f2,f3⟩:=Hf_0.out.c4;have HB2:=hd (((btr HB1.out hb2)).trans (hb3.mono (Nat.le_trans HB1.out.size hb2.size)));clear hb2 hb3 hs3 hfm hw3)
   |(go_at_call 68;refine(HK.out _ HB2.out).mono ?_;rintro e w4 ⟨rfl,hb3⟩;have HB3:=hd ((btr HB2.out hb3));clear hb3)
   |(go_at_call 90;refine(HV _).mono ?_;rintro e w5 ⟨rfl,rfl⟩)
   |fail)
 all_goals
  go_ret
  first
   |exact⟨by rw[HRR.out];simp_all,HB4.out⟩
   |exact⟨by rw[HRR.out];simp_all,HB3.out⟩
   |exact⟨by rw[HRR.out];simp_all,HB2.out⟩
theorem single6_any{F:Nat→Prop}(n:Int)(s:ByteArray)(d:Dt.D)(p:List Int)(L:Nat)(al:Option Addr)(cl:Nat)(vm vl vt vp:Value)(w:World)(hs:s.size≤140737488355328)(hL:L≤140737488355328)(hp:p.length≤140737488355328)(hW:Dt.Wf d)(hD:Dt.Rep F w d vm vl vt)(hP:Dt.IRow F w vp p):
  Calls Tryz.prog 65 #[.agg #[.int .i64 6,.int .i64 n,.string s,.int .i64 d.k,.int .i64 d.n,.string d.s,vm,vl,vt,vp,.slice al L cl]] w fun e w'=>e= .returned (.bool (decide (L=1)&&((n==0)&&((Lx.symbol s.data.toList)&&(p.isEmpty&&(Co.none_ d))))))∧Below w.heap.size w w':=by
 obtain⟨a1,n1,q1,a2,n2,q2,a3,n3,q3,rfl,rfl,rfl⟩:=hD.forms;obtain⟨ap,cp,rfl,hlc,hcc⟩:=hP;have hP:Dt.IRow F w (.slice ap p.length cp) p:=⟨ap,cp,rfl,hlc,hcc⟩
 have HP:=hd hP;have HD:=hd hD;obtain⟨K,hK⟩:∃K,Co.none_ d=K:=⟨_,rfl⟩
 obtain⟨V,hV⟩:∃V,Lx.symbol s.data.toList=V:=⟨_,rfl⟩
 obtain⟨R,hR⟩:∃R,R=(decide (L=1)&&((n==0)&&((Lx.symbol s.data.toList)&&(p.isEmpty&&(Co.none_ d))))):=⟨_,rfl⟩
 rw[←hR];have hE:p.isEmpty=(p.length==0):=by cases p <;> rfl
 rw[hE,hK,hV]at hR;have hE2:=Co.len0 p.length;obtain⟨E,hE3⟩:∃E,E=(p.length==0):=⟨_,rfl⟩
 rw[←hE3]at hR hE2;obtain⟨P,hPn⟩:∃P,p.length=P:=⟨_,rfl⟩
 have HPN:=hd hPn;have HR:=hd hR;have HK:=hd (fun W (hb:Below w.heap.size w W)=>zeroC_any d _ _ _ W hW (hD.below hb));rw[hK]at HK;have HV:=fun W=>dSymbol_any s W hs
 rw[hV]at HV;have hfm:=fun W=>forms_any 6 W
 have hfv:Co.fmV 6= .agg #[.string ⟨#[100,101,102,105,110,101]⟩,.int .i64 2,.int .i64 1,.int .i64 1]:=rfl;have hik:Co.isKind 6=true:=rfl;rw[hfv,hik]at hfm;clear hfv hik;obtain⟨w1,hw1⟩:∃w1,w.alloc (.cells #[.int .i64 6,.int .i64 n,.string s,.int .i64 d.k,.int .i64 d.n,.string d.s,.slice a1 n1 q1,.slice a2 n2 q2,.slice a3 n3 q3,.slice ap p.length cp,.slice al L cl] 28)=w1:=⟨_,rfl⟩
 obtain⟨hb1,hs1⟩:=new_below hw1;have Hc_0:=hd (Hp.new hw1);rw[hPn]at hw1 Hc_0 hE2 hp hP;rw[hPn];obtain⟨c0,c1,c2,c3,c4,c5,c6,c7,c8,c9,c10⟩:=Hc_0.out.c11;have HB1:=hd hb1;clear hb1 hs1 hK hR hE hE3 hPn hP hD hW hlc hcc hV;by_cases g1:L<1
 ·have b1:decide ((L:Int)<1)=true:=decide_eq_true (by omega);have HF:Hid (R=false):=by show R=false;rw[HR.out,decide_eq_false (by omega)];rfl
  clear g1;go_enter Tryz.func65,Tryz.ntmps65;go_wp2_with(first
   |(go_at_call 49;refine(hfm _).mono ?_;rintro e w2 ⟨rfl,hb2⟩;clear hw1;clear c0 c1 c2 c3 c4 c5 c6 c7 c8 c9 c10;have hw3:w2.alloc (.cells #[.string ⟨#[100,101,102,105,110,101]⟩,.int .i64 2,.int .i64 1,.int .i64 1] 88)=w2.alloc (.cells #[.string ⟨#[100,101,102,105,110,101]⟩,.int .i64 2,.int .i64 1,.int .i64 1] 88):=rfl;obtain⟨hb3,hs3⟩:=new_below hw3;have Hc_1:=hd ((Hc_0.out.below hb2).below hb3);have Hf_0:=hd (Hp.new hw3);obtain⟨c0,c1,c2,c3,c4,c5,c6,c7,c8,c9,c10⟩:=Hc_1.out.c11;obtain⟨f0,f1,f2,f3⟩:=Hf_0.out.c4;have HB2:=hd (((btr HB1.out hb2)).trans (hb3.mono (Nat.le_trans HB1.out.size hb2.size)));clear hb2 hb3 hs3 hfm hw3)
   |(go_at_call 68;refine(HK.out _ HB2.out).mono ?_;rintro e w4 ⟨rfl,hb3⟩;have HB3:=hd ((btr HB2.out hb3));clear hb3)
   |(go_at_call 90;refine(HV _).mono ?_;rintro e w5 ⟨rfl,rfl⟩)
   |fail)
  go_ret;exact⟨by rw[HF.out];rfl,HB2.out⟩
 have b1:decide ((L:Int)<1)=false:=decide_eq_false (by omega);by_cases g2:1<L
 ·have b2:decide (1<(L:Int))=true:=decide_eq_true (by omega);have HF:Hid (R=false):=by show R=false;rw[HR.out,decide_eq_false (by omega)];rfl
  clear g2;clear g1;go_enter Tryz.func65,Tryz.ntmps65;go_wp2_with(first
   |(go_at_call 49;refine(hfm _).mono ?_;rintro e w2 ⟨rfl,hb2⟩;clear hw1;clear c0 c1 c2 c3 c4 c5 c6 c7 c8 c9 c10;have hw3:w2.alloc (.cells #[.string ⟨#[100,101,102,105,110,101]⟩,.int .i64 2,.int .i64 1,.int .i64 1] 88)=w2.alloc (.cells #[.string ⟨#[100,101,102,105,110,101]⟩,.int .i64 2,.int .i64 1,.int .i64 1] 88):=rfl;obtain⟨hb3,hs3⟩:=new_below hw3;have Hc_1:=hd ((Hc_0.out.below hb2).below hb3);have Hf_0:=hd (Hp.new hw3);obtain⟨c0,c1,c2,c3,c4,c5,c6,c7,c8,c9,c10⟩:=Hc_1.out.c11;obtain⟨f0,f1,f2,f3⟩:=Hf_0.out.c4;have HB2:=hd (((btr HB1.out hb2)).trans (hb3.mono (Nat.le_trans HB1.out.size hb2.size)));clear hb2 hb3 hs3 hfm hw3)
   |(go_at_call 68;refine(HK.out _ HB2.out).mono ?_;rintro e w4 ⟨rfl,hb3⟩;have HB3:=hd ((btr HB2.out hb3));clear hb3)
   |(go_at_call 90;refine(HV _).mono ?_;rintro e w5 ⟨rfl,rfl⟩)
   |fail)
  go_ret;exact⟨by rw[HF.out];rfl,HB2.out⟩
 have b2:decide (1<(L:Int))=false:=decide_eq_false (by omega)
 skip
 have HRR:Hid (R=((n==0)&&(V&&(E&&K)))):=by show R=_;rw[HR.out,decide_eq_true (by omega),Bool.true_and]
 clear g1 g2;go_enter Tryz.func65,Tryz.ntmps65;go_wp2_with(first
   |(go_at_call 49;refine(hfm _).mono ?_;rintro e w2 ⟨rfl,hb2⟩;clear hw1;clear c0 c1 c2 c3 c4 c5 c6 c7 c8 c9 c10;have hw3:w2.alloc (.cells #[.string ⟨#[100,101,102,105,110,101]⟩,.int .i64 2,.int .i64 1,.int .i64 1] 88)=w2.alloc (.cells #[.string ⟨#[100,101,102,105,110,101]⟩,.int .i64 2,.int .i64 1,.int .i64 1] 88):=rfl;obtain⟨hb3,hs3⟩:=new_below hw3;have Hc_1:=hd ((Hc_0.out.below hb2).below hb3);have Hf_0:=hd (Hp.new hw3);obtain⟨c0,c1,c2,c3,c4,c5,c6,c7,c8,c9,c10⟩:=Hc_1.out.c11;obtain⟨f0,f1,f2,f3⟩:=Hf_0.out.c4;have HB2:=hd (((btr HB1.out hb2)).trans (hb3.mono (Nat.le_trans HB1.out.size hb2.size)));clear hb2 hb3 hs3 hfm hw3)
   |(go_at_call 68;refine(HK.out _ HB2.out).mono ?_;rintro e w4 ⟨rfl,hb3⟩;have HB3:=hd ((btr HB2.out hb3));clear hb3)
   |(go_at_call 90;refine(HV _).mono ?_;rintro e w5 ⟨rfl,rfl⟩)
   |fail)
 all_goals
  go_ret
  first
   |exact⟨by rw[HRR.out];simp_all,HB4.out⟩
   |exact⟨by rw[HRR.out];simp_all,HB3.out⟩
   |exact⟨by rw[HRR.out];simp_all,HB2.out⟩
theorem single7_any{F:Nat→Prop}(n:Int)(s:ByteArray)(d:Dt.D)(p:List Int)(L:Nat)(al:Option Addr)(cl:Nat)(vm vl vt vp:Value)(w:World)(hs:s.size≤140737488355328)(hL:L≤140737488355328)(hp:p.length≤140737488355328)(hW:Dt.Wf d)(hD:Dt.Rep F w d vm vl vt)(hP:Dt.IRow F w vp p):
  Calls Tryz.prog 65 #[.agg #[.int .i64 7,.int .i64 n,.string s,.int .i64 d.k,.int .i64 d.n,.string d.s,vm,vl,vt,vp,.slice al L cl]] w fun e w'=>e= .returned (.bool (decide (L=3)&&((n==0)&&(s.toList.isEmpty&&(p.isEmpty&&(Co.none_ d))))))∧Below w.heap.size w w':=by
 obtain⟨a1,n1,q1,a2,n2,q2,a3,n3,q3,rfl,rfl,rfl⟩:=hD.forms;obtain⟨ap,cp,rfl,hlc,hcc⟩:=hP;have hP:Dt.IRow F w (.slice ap p.length cp) p:=⟨ap,cp,rfl,hlc,hcc⟩
 have HP:=hd hP;have HD:=hd hD;obtain⟨K,hK⟩:∃K,Co.none_ d=K:=⟨_,rfl⟩
 obtain⟨R,hR⟩:∃R,R=(decide (L=3)&&((n==0)&&(s.toList.isEmpty&&(p.isEmpty&&(Co.none_ d))))):=⟨_,rfl⟩
 rw[←hR];have hE:p.isEmpty=(p.length==0):=by cases p <;> rfl
 rw[hE,hK]at hR;have hE2:=Co.len0 p.length;obtain⟨E,hE3⟩:∃E,E=(p.length==0):=⟨_,rfl⟩
 rw[←hE3]at hR hE2;obtain⟨P,hPn⟩:∃P,p.length=P:=⟨_,rfl⟩
 have HPN:=hd hPn;have HR:=hd hR;have HK:=hd (fun W (hb:Below w.heap.size w W)=>zeroC_any d _ _ _ W hW (hD.below hb));rw[hK]at HK;have hfm:=fun W=>forms_any 7 W
 have hfv:Co.fmV 7= .agg #[.string ⟨#[105,102]⟩,.int .i64 0,.int .i64 3,.int .i64 3]:=rfl;have hik:Co.isKind 7=true:=rfl;rw[hfv,hik]at hfm;clear hfv hik;obtain⟨w1,hw1⟩:∃w1,w.alloc (.cells #[.int .i64 7,.int .i64 n,.string s,.int .i64 d.k,.int .i64 d.n,.string d.s,.slice a1 n1 q1,.slice a2 n2 q2,.slice a3 n3 q3,.slice ap p.length cp,.slice al L cl] 28)=w1:=⟨_,rfl⟩
 obtain⟨hb1,hs1⟩:=new_below hw1;have Hc_0:=hd (Hp.new hw1);rw[hPn]at hw1 Hc_0 hE2 hp hP;rw[hPn];obtain⟨c0,c1,c2,c3,c4,c5,c6,c7,c8,c9,c10⟩:=Hc_0.out.c11;have HB1:=hd hb1;clear hb1 hs1 hK hR hE hE3 hPn hP hD hW hlc hcc;by_cases g1:L<3
 ·have b1:decide ((L:Int)<3)=true:=decide_eq_true (by omega);have HF:Hid (R=false):=by show R=false;rw[HR.out,decide_eq_false (by omega)];rfl
  clear g1;go_enter Tryz.func65,Tryz.ntmps65;go_wp2_with(first
   |(go_at_call 49;refine(hfm _).mono ?_;rintro e w2 ⟨rfl,hb2⟩;clear hw1;clear c0 c1 c2 c3 c4 c5 c6 c7 c8 c9 c10;have hw3:w2.alloc (.cells #[.string ⟨#[105,102]⟩,.int .i64 0,.int .i64 3,.int .i64 3] 88)=w2.alloc (.cells #[.string ⟨#[105,102]⟩,.int .i64 0,.int .i64 3,.int .i64 3] 88):=rfl;obtain⟨hb3,hs3⟩:=new_below hw3;have Hc_1:=hd ((Hc_0.out.below hb2).below hb3);have Hf_0:=hd (Hp.new hw3);obtain⟨c0,c1,c2,c3,c4,c5,c6,c7,c8,c9,c10⟩:=Hc_1.out.c11;obtain⟨f0,f1,f2,f3⟩:=Hf_0.out.c4;have HB2:=hd (((btr HB1.out hb2)).trans (hb3.mono (Nat.le_trans HB1.out.size hb2.size)));clear hb2 hb3 hs3 hfm hw3)
   |(go_at_call 68;refine(HK.out _ HB2.out).mono ?_;rintro e w4 ⟨rfl,hb3⟩;have HB3:=hd ((btr HB2.out hb3));clear hb3)
   |fail)
  go_ret;exact⟨by rw[HF.out];rfl,HB2.out⟩
 have b1:decide ((L:Int)<3)=false:=decide_eq_false (by omega);by_cases g2:3<L
 ·have b2:decide (3<(L:Int))=true:=decide_eq_true (by omega);have HF:Hid (R=false):=by show R=false;rw[HR.out,decide_eq_false (by omega)];rfl
  clear g2;clear g1;go_enter Tryz.func65,Tryz.ntmps65;go_wp2_with(first
   |(go_at_call 49;refine(hfm _).mono ?_;rintro e w2 ⟨rfl,hb2⟩;clear hw1;clear c0 c1 c2 c3 c4 c5 c6 c7 c8 c9 c10;have hw3:w2.alloc (.cells #[.string ⟨#[105,102]⟩,.int .i64 0,.int .i64 3,.int .i64 3] 88)=w2.alloc (.cells #[.string ⟨#[105,102]⟩,.int .i64 0,.int .i64 3,.int .i64 3] 88):=rfl;obtain⟨hb3,hs3⟩:=new_below hw3;have Hc_1:=hd ((Hc_0.out.below hb2).below hb3);have Hf_0:=hd (Hp.new hw3);obtain⟨c0,c1,c2,c3,c4,c5,c6,c7,c8,c9,c10⟩:=Hc_1.out.c11;obtain⟨f0,f1,f2,f3⟩:=Hf_0.out.c4;have HB2:=hd (((btr HB1.out hb2)).trans (hb3.mono (Nat.le_trans HB1.out.size hb2.size)));clear hb2 hb3 hs3 hfm hw3)
   |(go_at_call 68;refine(HK.out _ HB2.out).mono ?_;rintro e w4 ⟨rfl,hb3⟩;have HB3:=hd ((btr HB2.out hb3));clear hb3)
   |fail)
  go_ret;exact⟨by rw[HF.out];rfl,HB2.out⟩
 have b2:decide (3<(L:Int))=false:=decide_eq_false (by omega)
 skip
 have HRR:Hid (R=((n==0)&&(s.toList.isEmpty&&(E&&K)))):=by show R=_;rw[HR.out,decide_eq_true (by omega),Bool.true_and]
 clear g1 g2;go_enter Tryz.func65,Tryz.ntmps65;go_wp2_with(first
   |(go_at_call 49;refine(hfm _).mono ?_;rintro e w2 ⟨rfl,hb2⟩;clear hw1;clear c0 c1 c2 c3 c4 c5 c6 c7 c8 c9 c10;have hw3:w2.alloc (.cells #[.string ⟨#[105,102]⟩,.int .i64 0,.int .i64 3,.int .i64 3] 88)=w2.alloc (.cells #[.string ⟨#[105,102]⟩,.int .i64 0,.int .i64 3,.int .i64 3] 88):=rfl;obtain⟨hb3,hs3⟩:=new_below hw3;have Hc_1:=hd ((Hc_0.out.below hb2).below hb3);have Hf_0:=hd (Hp.new hw3);obtain⟨c0,c1,c2,c3,c4,c5,c6,c7,c8,c9,c10⟩:=Hc_1.out.c11;obtain⟨f0,f1,f2,f3⟩:=Hf_0.out.c4;have HB2:=hd (((btr HB1.out hb2)).trans (hb3.mono (Nat.le_trans HB1.out.size hb2.size)));clear hb2 hb3 hs3 hfm hw3)
   |(go_at_call 68;refine(HK.out _ HB2.out).mono ?_;rintro e w4 ⟨rfl,hb3⟩;have HB3:=hd ((btr HB2.out hb3));clear hb3)
   |fail)
 all_goals
  go_ret
  first
   |exact⟨by rw[HRR.out];simp_all,HB4.out⟩
   |exact⟨by rw[HRR.out];simp_all,HB3.out⟩
   |exact⟨by rw[HRR.out];simp_all,HB2.out⟩
theorem single8_any{F:Nat→Prop}(n:Int)(s:ByteArray)(d:Dt.D)(p:List Int)(L:Nat)(al:Option Addr)(cl:Nat)(vm vl vt vp:Value)(w:World)(hs:s.size≤140737488355328)(hL:L≤140737488355328)(hp:p.length≤140737488355328)(hW:Dt.Wf d)(hD:Dt.Rep F w d vm vl vt)(hP:Dt.IRow F w vp p):
  Calls Tryz.prog 65 #[.agg #[.int .i64 8,.int .i64 n,.string s,.int .i64 d.k,.int .i64 d.n,.string d.s,vm,vl,vt,vp,.slice al L cl]] w fun e w'=>e= .returned (.bool (decide (L=1)&&(s.toList.isEmpty&&((Co.none_ d)&&(Co.params n p)))))∧Below w.heap.size w w':=by
 obtain⟨a1,n1,q1,a2,n2,q2,a3,n3,q3,rfl,rfl,rfl⟩:=hD.forms;obtain⟨ap,cp,rfl,hlc,hcc⟩:=hP;have hP:Dt.IRow F w (.slice ap p.length cp) p:=⟨ap,cp,rfl,hlc,hcc⟩
 have HP:=hd hP;have HD:=hd hD;obtain⟨K,hK⟩:∃K,Co.none_ d=K:=⟨_,rfl⟩
 obtain⟨V,hV⟩:∃V,Co.params n p=V:=⟨_,rfl⟩
 obtain⟨R,hR⟩:∃R,R=(decide (L=1)&&(s.toList.isEmpty&&((Co.none_ d)&&(Co.params n p)))):=⟨_,rfl⟩
 rw[←hR];have hE:p.isEmpty=(p.length==0):=by cases p <;> rfl
 rw[hK,hV]at hR;have hE2:=Co.len0 p.length;obtain⟨E,hE3⟩:∃E,E=(p.length==0):=⟨_,rfl⟩
 rw[←hE3]at hE2;obtain⟨P,hPn⟩:∃P,p.length=P:=⟨_,rfl⟩
 have HPN:=hd hPn;have HR:=hd hR;have HK:=hd (fun W (hb:Below w.heap.size w W)=>zeroC_any d _ _ _ W hW (hD.below hb));rw[hK]at HK;have HV:=hd (fun W (hb:Below w.heap.size w W)=>paramsC_any 8 n d.k d.n s d.s (.slice a1 n1 q1) (.slice a2 n2 q2) (.slice a3 n3 q3) (.slice ap p.length cp) (.slice al L cl) p W (HP.out.keep (keep_of_below (S:=fun _=>False) hb) (fun _ _ _ h=>h)) hp);rw[hV,hPn]at HV;have hfm:=fun W=>forms_any 8 W
 have hfv:Co.fmV 8= .agg #[.string ⟨#[108,97,109,98,100,97]⟩,.int .i64 8,.int .i64 1,.int .i64 1]:=rfl;have hik:Co.isKind 8=true:=rfl;rw[hfv,hik]at hfm;clear hfv hik;obtain⟨w1,hw1⟩:∃w1,w.alloc (.cells #[.int .i64 8,.int .i64 n,.string s,.int .i64 d.k,.int .i64 d.n,.string d.s,.slice a1 n1 q1,.slice a2 n2 q2,.slice a3 n3 q3,.slice ap p.length cp,.slice al L cl] 28)=w1:=⟨_,rfl⟩
 obtain⟨hb1,hs1⟩:=new_below hw1;have Hc_0:=hd (Hp.new hw1);rw[hPn]at hw1 Hc_0 hE2 hp hP;rw[hPn];obtain⟨c0,c1,c2,c3,c4,c5,c6,c7,c8,c9,c10⟩:=Hc_0.out.c11;have HB1:=hd hb1;clear hb1 hs1 hK hR hE hE3 hPn hP hD hW hlc hcc hV;by_cases g1:L<1
 ·have b1:decide ((L:Int)<1)=true:=decide_eq_true (by omega);have HF:Hid (R=false):=by show R=false;rw[HR.out,decide_eq_false (by omega)];rfl
  clear g1;go_enter Tryz.func65,Tryz.ntmps65;go_wp2_with(first
   |(go_at_call 49;refine(hfm _).mono ?_;rintro e w2 ⟨rfl,hb2⟩;clear hw1;clear c0 c1 c2 c3 c4 c5 c6 c7 c8 c9 c10;have hw3:w2.alloc (.cells #[.string ⟨#[108,97,109,98,100,97]⟩,.int .i64 8,.int .i64 1,.int .i64 1] 88)=w2.alloc (.cells #[.string ⟨#[108,97,109,98,100,97]⟩,.int .i64 8,.int .i64 1,.int .i64 1] 88):=rfl;obtain⟨hb3,hs3⟩:=new_below hw3;have Hc_1:=hd ((Hc_0.out.below hb2).below hb3);have Hf_0:=hd (Hp.new hw3);obtain⟨c0,c1,c2,c3,c4,c5,c6,c7,c8,c9,c10⟩:=Hc_1.out.c11;obtain⟨f0,f1,f2,f3⟩:=Hf_0.out.c4;have HB2:=hd (((btr HB1.out hb2)).trans (hb3.mono (Nat.le_trans HB1.out.size hb2.size)));clear hb2 hb3 hs3 hfm hw3)
   |(go_at_call 68;refine(HK.out _ HB2.out).mono ?_;rintro e w4 ⟨rfl,hb3⟩;have HB3:=hd ((btr HB2.out hb3));clear c0 c1 c2 c3 c4 c5 c6 c7 c8 c9 c10;have Hc_2:=hd (Hc_1.out.below hb3);obtain⟨c0,c1,c2,c3,c4,c5,c6,c7,c8,c9,c10⟩:=Hc_2.out.c11;clear hb3)
   |(go_at_call 91;refine(HV.out _ HB3.out).mono ?_;rintro e w5 ⟨rfl,hb4⟩;have HB4:=hd ((btr HB3.out hb4));clear hb4)
   |fail)
  go_ret;exact⟨by rw[HF.out];rfl,HB2.out⟩
 have b1:decide ((L:Int)<1)=false:=decide_eq_false (by omega);by_cases g2:1<L
 ·have b2:decide (1<(L:Int))=true:=decide_eq_true (by omega);have HF:Hid (R=false):=by show R=false;rw[HR.out,decide_eq_false (by omega)];rfl
  clear g2;clear g1;go_enter Tryz.func65,Tryz.ntmps65;go_wp2_with(first
   |(go_at_call 49;refine(hfm _).mono ?_;rintro e w2 ⟨rfl,hb2⟩;clear hw1;clear c0 c1 c2 c3 c4 c5 c6 c7 c8 c9 c10;have hw3:w2.alloc (.cells #[.string ⟨#[108,97,109,98,100,97]⟩,.int .i64 8,.int .i64 1,.int .i64 1] 88)=w2.alloc (.cells #[.string ⟨#[108,97,109,98,100,97]⟩,.int .i64 8,.int .i64 1,.int .i64 1] 88):=rfl;obtain⟨hb3,hs3⟩:=new_below hw3;have Hc_1:=hd ((Hc_0.out.below hb2).below hb3);have Hf_0:=hd (Hp.new hw3);obtain⟨c0,c1,c2,c3,c4,c5,c6,c7,c8,c9,c10⟩:=Hc_1.out.c11;obtain⟨f0,f1,f2,f3⟩:=Hf_0.out.c4;have HB2:=hd (((btr HB1.out hb2)).trans (hb3.mono (Nat.le_trans HB1.out.size hb2.size)));clear hb2 hb3 hs3 hfm hw3)
   |(go_at_call 68;refine(HK.out _ HB2.out).mono ?_;rintro e w4 ⟨rfl,hb3⟩;have HB3:=hd ((btr HB2.out hb3));clear c0 c1 c2 c3 c4 c5 c6 c7 c8 c9 c10;have Hc_2:=hd (Hc_1.out.below hb3);obtain⟨c0,c1,c2,c3,c4,c5,c6,c7,c8,c9,c10⟩:=Hc_2.out.c11;clear hb3)
   |(go_at_call 91;refine(HV.out _ HB3.out).mono ?_;rintro e w5 ⟨rfl,hb4⟩;have HB4:=hd ((btr HB3.out hb4));clear hb4)
   |fail)
  go_ret;exact⟨by rw[HF.out];rfl,HB2.out⟩
 have b2:decide (1<(L:Int))=false:=decide_eq_false (by omega)
 skip
 have HRR:Hid (R=(s.toList.isEmpty&&(K&&V))):=by show R=_;rw[HR.out,decide_eq_true (by omega),Bool.true_and]
 clear g1 g2;go_enter Tryz.func65,Tryz.ntmps65;go_wp2_with(first
   |(go_at_call 49;refine(hfm _).mono ?_;rintro e w2 ⟨rfl,hb2⟩;clear hw1;clear c0 c1 c2 c3 c4 c5 c6 c7 c8 c9 c10;have hw3:w2.alloc (.cells #[.string ⟨#[108,97,109,98,100,97]⟩,.int .i64 8,.int .i64 1,.int .i64 1] 88)=w2.alloc (.cells #[.string ⟨#[108,97,109,98,100,97]⟩,.int .i64 8,.int .i64 1,.int .i64 1] 88):=rfl;obtain⟨hb3,hs3⟩:=new_below hw3;have Hc_1:=hd ((Hc_0.out.below hb2).below hb3);have Hf_0:=hd (Hp.new hw3);obtain⟨c0,c1,c2,c3,c4,c5,c6,c7,c8,c9,c10⟩:=Hc_1.out.c11;obtain⟨f0,f1,f2,f3⟩:=Hf_0.out.c4;have HB2:=hd (((btr HB1.out hb2)).trans (hb3.mono (Nat.le_trans HB1.out.size hb2.size)));clear hb2 hb3 hs3 hfm hw3)
   |(go_at_call 68;refine(HK.out _ HB2.out).mono ?_;rintro e w4 ⟨rfl,hb3⟩;have HB3:=hd ((btr HB2.out hb3));clear c0 c1 c2 c3 c4 c5 c6 c7 c8 c9 c10;have Hc_2:=hd (Hc_1.out.below hb3);obtain⟨c0,c1,c2,c3,c4,c5,c6,c7,c8,c9,c10⟩:=Hc_2.out.c11;clear hb3)
   |(go_at_call 91;refine(HV.out _ HB3.out).mono ?_;rintro e w5 ⟨rfl,hb4⟩;have HB4:=hd ((btr HB3.out hb4));clear hb4)
   |fail)
 all_goals
  go_ret
  first
   |exact⟨by rw[HRR.out];simp_all,HB4.out⟩
   |exact⟨by rw[HRR.out];simp_all,HB3.out⟩
   |exact⟨by rw[HRR.out];simp_all,HB2.out⟩
theorem single9_any{F:Nat→Prop}(n:Int)(s:ByteArray)(d:Dt.D)(p:List Int)(L:Nat)(al:Option Addr)(cl:Nat)(vm vl vt vp:Value)(w:World)(hs:s.size≤140737488355328)(hL:L≤140737488355328)(hp:p.length≤140737488355328)(hW:Dt.Wf d)(hD:Dt.Rep F w d vm vl vt)(hP:Dt.IRow F w vp p):
  Calls Tryz.prog 65 #[.agg #[.int .i64 9,.int .i64 n,.string s,.int .i64 d.k,.int .i64 d.n,.string d.s,vm,vl,vt,vp,.slice al L cl]] w fun e w'=>e= .returned (.bool (decide (1≤L)&&((n==0)&&(s.toList.isEmpty&&(p.isEmpty&&(Co.none_ d))))))∧Below w.heap.size w w':=by
 obtain⟨a1,n1,q1,a2,n2,q2,a3,n3,q3,rfl,rfl,rfl⟩:=hD.forms;obtain⟨ap,cp,rfl,hlc,hcc⟩:=hP;have hP:Dt.IRow F w (.slice ap p.length cp) p:=⟨ap,cp,rfl,hlc,hcc⟩
 have HP:=hd hP;have HD:=hd hD;obtain⟨K,hK⟩:∃K,Co.none_ d=K:=⟨_,rfl⟩
 obtain⟨R,hR⟩:∃R,R=(decide (1≤L)&&((n==0)&&(s.toList.isEmpty&&(p.isEmpty&&(Co.none_ d))))):=⟨_,rfl⟩
 rw[←hR];have hE:p.isEmpty=(p.length==0):=by cases p <;> rfl
 rw[hE,hK]at hR;have hE2:=Co.len0 p.length;obtain⟨E,hE3⟩:∃E,E=(p.length==0):=⟨_,rfl⟩
 rw[←hE3]at hR hE2;obtain⟨P,hPn⟩:∃P,p.length=P:=⟨_,rfl⟩
 have HPN:=hd hPn;have HR:=hd hR;have HK:=hd (fun W (hb:Below w.heap.size w W)=>zeroC_any d _ _ _ W hW (hD.below hb));rw[hK]at HK;have hfm:=fun W=>forms_any 9 W
 have hfv:Co.fmV 9= .agg #[.string ⟨#[115,101,113]⟩,.int .i64 0,.int .i64 1,.int .i64 (-1)]:=rfl;have hik:Co.isKind 9=true:=rfl;rw[hfv,hik]at hfm;clear hfv hik;obtain⟨w1,hw1⟩:∃w1,w.alloc (.cells #[.int .i64 9,.int .i64 n,.string s,.int .i64 d.k,.int .i64 d.n,.string d.s,.slice a1 n1 q1,.slice a2 n2 q2,.slice a3 n3 q3,.slice ap p.length cp,.slice al L cl] 28)=w1:=⟨_,rfl⟩
 obtain⟨hb1,hs1⟩:=new_below hw1;have Hc_0:=hd (Hp.new hw1);rw[hPn]at hw1 Hc_0 hE2 hp hP;rw[hPn];obtain⟨c0,c1,c2,c3,c4,c5,c6,c7,c8,c9,c10⟩:=Hc_0.out.c11;have HB1:=hd hb1;clear hb1 hs1 hK hR hE hE3 hPn hP hD hW hlc hcc;by_cases g1:L<1
 ·have b1:decide ((L:Int)<1)=true:=decide_eq_true (by omega);have HF:Hid (R=false):=by show R=false;rw[HR.out,decide_eq_false (by omega)];rfl
  clear g1;go_enter Tryz.func65,Tryz.ntmps65;go_wp2_with(first
   |(go_at_call 49;refine(hfm _).mono ?_;rintro e w2 ⟨rfl,hb2⟩;clear hw1;clear c0 c1 c2 c3 c4 c5 c6 c7 c8 c9 c10;have hw3:w2.alloc (.cells #[.string ⟨#[115,101,113]⟩,.int .i64 0,.int .i64 1,.int .i64 (-1)] 88)=w2.alloc (.cells #[.string ⟨#[115,101,113]⟩,.int .i64 0,.int .i64 1,.int .i64 (-1)] 88):=rfl;obtain⟨hb3,hs3⟩:=new_below hw3;have Hc_1:=hd ((Hc_0.out.below hb2).below hb3);have Hf_0:=hd (Hp.new hw3);obtain⟨c0,c1,c2,c3,c4,c5,c6,c7,c8,c9,c10⟩:=Hc_1.out.c11;obtain⟨f0,f1,f2,f3⟩:=Hf_0.out.c4;have HB2:=hd (((btr HB1.out hb2)).trans (hb3.mono (Nat.le_trans HB1.out.size hb2.size)));clear hb2 hb3 hs3 hfm hw3)
   |(go_at_call 68;refine(HK.out _ HB2.out).mono ?_;rintro e w4 ⟨rfl,hb3⟩;have HB3:=hd ((btr HB2.out hb3));clear hb3)
   |fail)
  go_ret;exact⟨by rw[HF.out];rfl,HB2.out⟩
 have b1:decide ((L:Int)<1)=false:=decide_eq_false (by omega);have HRR:Hid (R=((n==0)&&(s.toList.isEmpty&&(E&&K)))):=by show R=_;rw[HR.out,decide_eq_true (by omega),Bool.true_and]
 clear g1;go_enter Tryz.func65,Tryz.ntmps65;go_wp2_with(first
   |(go_at_call 49;refine(hfm _).mono ?_;rintro e w2 ⟨rfl,hb2⟩;clear hw1;clear c0 c1 c2 c3 c4 c5 c6 c7 c8 c9 c10;have hw3:w2.alloc (.cells #[.string ⟨#[115,101,113]⟩,.int .i64 0,.int .i64 1,.int .i64 (-1)] 88)=w2.alloc (.cells #[.string ⟨#[115,101,113]⟩,.int .i64 0,.int .i64 1,.int .i64 (-1)] 88):=rfl;obtain⟨hb3,hs3⟩:=new_below hw3;have Hc_1:=hd ((Hc_0.out.below hb2).below hb3);have Hf_0:=hd (Hp.new hw3);obtain⟨c0,c1,c2,c3,c4,c5,c6,c7,c8,c9,c10⟩:=Hc_1.out.c11;obtain⟨f0,f1,f2,f3⟩:=Hf_0.out.c4;have HB2:=hd (((btr HB1.out hb2)).trans (hb3.mono (Nat.le_trans HB1.out.size hb2.size)));clear hb2 hb3 hs3 hfm hw3)
   |(go_at_call 68;refine(HK.out _ HB2.out).mono ?_;rintro e w4 ⟨rfl,hb3⟩;have HB3:=hd ((btr HB2.out hb3));clear hb3)
   |fail)
 all_goals
  go_ret
  first
   |exact⟨by rw[HRR.out];simp_all,HB4.out⟩
   |exact⟨by rw[HRR.out];simp_all,HB3.out⟩
   |exact⟨by rw[HRR.out];simp_all,HB2.out⟩
theorem single10_any{F:Nat→Prop}(n:Int)(s:ByteArray)(d:Dt.D)(p:List Int)(L:Nat)(al:Option Addr)(cl:Nat)(vm vl vt vp:Value)(w:World)(hs:s.size≤140737488355328)(hL:L≤140737488355328)(hp:p.length≤140737488355328)(hW:Dt.Wf d)(hD:Dt.Rep F w d vm vl vt)(hP:Dt.IRow F w vp p):
  Calls Tryz.prog 65 #[.agg #[.int .i64 10,.int .i64 n,.string s,.int .i64 d.k,.int .i64 d.n,.string d.s,vm,vl,vt,vp,.slice al L cl]] w fun e w'=>e= .returned (.bool (decide (1≤L)&&((n==0)&&(s.toList.isEmpty&&(p.isEmpty&&(Co.none_ d))))))∧Below w.heap.size w w':=by
 obtain⟨a1,n1,q1,a2,n2,q2,a3,n3,q3,rfl,rfl,rfl⟩:=hD.forms;obtain⟨ap,cp,rfl,hlc,hcc⟩:=hP;have hP:Dt.IRow F w (.slice ap p.length cp) p:=⟨ap,cp,rfl,hlc,hcc⟩
 have HP:=hd hP;have HD:=hd hD;obtain⟨K,hK⟩:∃K,Co.none_ d=K:=⟨_,rfl⟩
 obtain⟨R,hR⟩:∃R,R=(decide (1≤L)&&((n==0)&&(s.toList.isEmpty&&(p.isEmpty&&(Co.none_ d))))):=⟨_,rfl⟩
 rw[←hR];have hE:p.isEmpty=(p.length==0):=by cases p <;> rfl
 rw[hE,hK]at hR;have hE2:=Co.len0 p.length;obtain⟨E,hE3⟩:∃E,E=(p.length==0):=⟨_,rfl⟩
 rw[←hE3]at hR hE2;obtain⟨P,hPn⟩:∃P,p.length=P:=⟨_,rfl⟩
 have HPN:=hd hPn;have HR:=hd hR;have HK:=hd (fun W (hb:Below w.heap.size w W)=>zeroC_any d _ _ _ W hW (hD.below hb));rw[hK]at HK;have hfm:=fun W=>forms_any 10 W
 have hfv:Co.fmV 10= .agg #[.string ⟨#[99,97,108,108]⟩,.int .i64 0,.int .i64 1,.int .i64 (-1)]:=rfl;have hik:Co.isKind 10=true:=rfl;rw[hfv,hik]at hfm;clear hfv hik;obtain⟨w1,hw1⟩:∃w1,w.alloc (.cells #[.int .i64 10,.int .i64 n,.string s,.int .i64 d.k,.int .i64 d.n,.string d.s,.slice a1 n1 q1,.slice a2 n2 q2,.slice a3 n3 q3,.slice ap p.length cp,.slice al L cl] 28)=w1:=⟨_,rfl⟩
 obtain⟨hb1,hs1⟩:=new_below hw1;have Hc_0:=hd (Hp.new hw1);rw[hPn]at hw1 Hc_0 hE2 hp hP;rw[hPn];obtain⟨c0,c1,c2,c3,c4,c5,c6,c7,c8,c9,c10⟩:=Hc_0.out.c11;have HB1:=hd hb1;clear hb1 hs1 hK hR hE hE3 hPn hP hD hW hlc hcc;by_cases g1:L<1
 ·have b1:decide ((L:Int)<1)=true:=decide_eq_true (by omega);have HF:Hid (R=false):=by show R=false;rw[HR.out,decide_eq_false (by omega)];rfl
  clear g1;go_enter Tryz.func65,Tryz.ntmps65;go_wp2_with(first
   |(go_at_call 49;refine(hfm _).mono ?_;rintro e w2 ⟨rfl,hb2⟩;clear hw1;clear c0 c1 c2 c3 c4 c5 c6 c7 c8 c9 c10;have hw3:w2.alloc (.cells #[.string ⟨#[99,97,108,108]⟩,.int .i64 0,.int .i64 1,.int .i64 (-1)] 88)=w2.alloc (.cells #[.string ⟨#[99,97,108,108]⟩,.int .i64 0,.int .i64 1,.int .i64 (-1)] 88):=rfl;obtain⟨hb3,hs3⟩:=new_below hw3;have Hc_1:=hd ((Hc_0.out.below hb2).below hb3);have Hf_0:=hd (Hp.new hw3);obtain⟨c0,c1,c2,c3,c4,c5,c6,c7,c8,c9,c10⟩:=Hc_1.out.c11;obtain⟨f0,f1,f2,f3⟩:=Hf_0.out.c4;have HB2:=hd (((btr HB1.out hb2)).trans (hb3.mono (Nat.le_trans HB1.out.size hb2.size)));clear hb2 hb3 hs3 hfm hw3)
   |(go_at_call 68;refine(HK.out _ HB2.out).mono ?_;rintro e w4 ⟨rfl,hb3⟩;have HB3:=hd ((btr HB2.out hb3));clear hb3)
   |fail)
  go_ret;exact⟨by rw[HF.out];rfl,HB2.out⟩
 have b1:decide ((L:Int)<1)=false:=decide_eq_false (by omega);have HRR:Hid (R=((n==0)&&(s.toList.isEmpty&&(E&&K)))):=by show R=_;rw[HR.out,decide_eq_true (by omega),Bool.true_and]
 clear g1;go_enter Tryz.func65,Tryz.ntmps65;go_wp2_with(first
   |(go_at_call 49;refine(hfm _).mono ?_;rintro e w2 ⟨rfl,hb2⟩;clear hw1;clear c0 c1 c2 c3 c4 c5 c6 c7 c8 c9 c10;have hw3:w2.alloc (.cells #[.string ⟨#[99,97,108,108]⟩,.int .i64 0,.int .i64 1,.int .i64 (-1)] 88)=w2.alloc (.cells #[.string ⟨#[99,97,108,108]⟩,.int .i64 0,.int .i64 1,.int .i64 (-1)] 88):=rfl;obtain⟨hb3,hs3⟩:=new_below hw3;have Hc_1:=hd ((Hc_0.out.below hb2).below hb3);have Hf_0:=hd (Hp.new hw3);obtain⟨c0,c1,c2,c3,c4,c5,c6,c7,c8,c9,c10⟩:=Hc_1.out.c11;obtain⟨f0,f1,f2,f3⟩:=Hf_0.out.c4;have HB2:=hd (((btr HB1.out hb2)).trans (hb3.mono (Nat.le_trans HB1.out.size hb2.size)));clear hb2 hb3 hs3 hfm hw3)
   |(go_at_call 68;refine(HK.out _ HB2.out).mono ?_;rintro e w4 ⟨rfl,hb3⟩;have HB3:=hd ((btr HB2.out hb3));clear hb3)
   |fail)
 all_goals
  go_ret
  first
   |exact⟨by rw[HRR.out];simp_all,HB4.out⟩
   |exact⟨by rw[HRR.out];simp_all,HB3.out⟩
   |exact⟨by rw[HRR.out];simp_all,HB2.out⟩
theorem singleNo_any(k n dk dn:Int)(s ds:ByteArray)(vm vl vt vp vk:Value)(w:World)(hk:Co.isKind k=false):
  Calls Tryz.prog 65 #[.agg #[.int .i64 k,.int .i64 n,.string s,.int .i64 dk,.int .i64 dn,.string ds,vm,vl,vt,vp,vk]] w fun e w'=>e= .returned (.bool false)∧Below w.heap.size w w':=by
 have hfm:=fun W=>forms_any k W
 rw[hk]at hfm;have hfv:Co.fmV k= .agg #[.string ⟨#[]⟩,.int .i64 0,.int .i64 0,.int .i64 0]:=by
  have e:Co.fm k=Co.zeroRow:=by
   unfold Co.fm;rw[if_neg (fun h=> ?_)];unfold Co.isKind at hk;rw[decide_eq_true h.1,decide_eq_true h.2]at hk;cases hk
  unfold Co.fmV;rw[e]
  rfl
 rw[hfv]at hfm;obtain⟨w1,hw1⟩:∃w1,w.alloc (.cells #[.int .i64 k,.int .i64 n,.string s,.int .i64 dk,.int .i64 dn,.string ds,vm,vl,vt,vp,vk] 28)=w1:=⟨_,rfl⟩
 obtain⟨hb1,hs1⟩:=new_below hw1;have c0:=(Hp.new hw1).cell 0 rfl;have HB1:=hd hb1;clear hb1 hs1 hk hfv;go_enter Tryz.func65,Tryz.ntmps65;go_wp2_with(first
  |(go_at_call 49;refine(hfm _).mono ?_;rintro e w2 ⟨rfl,hb2⟩;clear hw1 c0;have HB2:=hd ((btr HB1.out hb2));clear hb2 hfm)
  |fail)
 go_ret;exact⟨rfl,HB2.out.alloc HB2.out.size _⟩
namespace Co
theorem len_is(l:List C):l.isEmpty=decide (l.length=0):=by cases l <;> simp
theorem isKind_no{k:Int}(h:isKind k=false)(c:C)(hk:c.k=k):alone c=false:=by
 cases c with
 |mk k' n s d p l=>
  have e:k'=k:=hk;subst e;unfold isKind at h;have h1:¬ (1≤k'∧k'≤10):=fun e=>by rw[decide_eq_true e.1,decide_eq_true e.2]at h;cases h
  unfold alone;dsimp only;rw[if_neg (by omega),if_neg (by omega:¬k'=8),if_neg (by omega:¬k'=2),if_neg (by omega:¬k'=3),if_neg (by omega:¬k'=4),if_neg (by omega:¬ (k'=5∨k'=6)),if_neg (by omega:¬k'=7),if_neg (by omega:¬ (k'=9∨k'=10))];split
  ·rfl
  split <;> rfl
theorem isKind_yes{k:Int}(h:isKind k=true):k=1∨k=2∨k=3∨k=4∨k=5∨k=6∨k=7∨k=8∨k=9∨k=10:=by
 unfold isKind at h;rw[Bool.and_eq_true,decide_eq_true_eq,decide_eq_true_eq]at h;omega
theorem alone1(n:Int)(s:ByteArray)(d:Dt.D)(p:List Int)(l:List C):(decide (l.length=0)&&((n==0)&&(s.toList.isEmpty&&(p.isEmpty&&(const d)))))=alone (.mk 1 n s d p l):=by
 have e1:(n==0)=decide (n=0):=by rw[Bool.eq_iff_iff];simp
 have e2:=empty_list s;have e3:=len_is l;rw[←e2,e1];obtain⟨A,hA⟩:∃A,decide (l.length=0)=A:=⟨_,rfl⟩
 obtain⟨B,hB⟩:∃B,decide (n=0)=B:=⟨_,rfl⟩
 obtain⟨E,hE⟩:∃E,empty s=E:=⟨_,rfl⟩
 rw[hA]at e3;unfold alone;dsimp only;simp only[hA,hB,hE,e3,Int.reduceEq,Nat.reduceEqDiff,if_true,if_false,or_true,true_or,or_false,or_self];clear hA hB hE e1 e2 e3;cases A <;> cases B <;> cases E <;> cases p.isEmpty <;> cases const d <;> rfl
theorem alone2(n:Int)(s:ByteArray)(d:Dt.D)(p:List Int)(l:List C):(decide (l.length=0)&&((var n)&&(s.toList.isEmpty&&(p.isEmpty&&(none_ d)))))=alone (.mk 2 n s d p l):=by
 have e1:(n==0)=decide (n=0):=by rw[Bool.eq_iff_iff];simp
 have e2:=empty_list s;have e3:=len_is l;rw[←e2];obtain⟨A,hA⟩:∃A,decide (l.length=0)=A:=⟨_,rfl⟩
 obtain⟨B,hB⟩:∃B,decide (n=0)=B:=⟨_,rfl⟩
 obtain⟨E,hE⟩:∃E,empty s=E:=⟨_,rfl⟩
 rw[hA]at e3;unfold alone;dsimp only;simp only[hA,hB,hE,e3,Int.reduceEq,Nat.reduceEqDiff,if_true,if_false,or_true,true_or,or_false,or_self];clear hA hB hE e1 e2 e3;cases A <;> cases B <;> cases E <;> cases p.isEmpty <;> cases none_ d <;> cases var n <;> rfl
theorem alone3(n:Int)(s:ByteArray)(d:Dt.D)(p:List Int)(l:List C):(decide (l.length=0)&&((n==0)&&((Lx.symbol s.data.toList)&&(p.isEmpty&&(none_ d)))))=alone (.mk 3 n s d p l):=by
 have e1:(n==0)=decide (n=0):=by rw[Bool.eq_iff_iff];simp
 have e2:=empty_list s;have e3:=len_is l;rw[e1];obtain⟨A,hA⟩:∃A,decide (l.length=0)=A:=⟨_,rfl⟩
 obtain⟨B,hB⟩:∃B,decide (n=0)=B:=⟨_,rfl⟩
 obtain⟨E,hE⟩:∃E,empty s=E:=⟨_,rfl⟩
 rw[hA]at e3;unfold alone;dsimp only;simp only[hA,hB,hE,e3,Int.reduceEq,Nat.reduceEqDiff,if_true,if_false,or_true,true_or,or_false,or_self];clear hA hB hE e1 e2 e3;cases A <;> cases B <;> cases E <;> cases p.isEmpty <;> cases none_ d <;> cases Lx.symbol s.data.toList <;> rfl
theorem alone4(n:Int)(s:ByteArray)(d:Dt.D)(p:List Int)(l:List C):(decide (l.length=1)&&((var n)&&(s.toList.isEmpty&&(p.isEmpty&&(none_ d)))))=alone (.mk 4 n s d p l):=by
 have e1:(n==0)=decide (n=0):=by rw[Bool.eq_iff_iff];simp
 have e2:=empty_list s;have e3:=len_is l;rw[←e2];obtain⟨A,hA⟩:∃A,decide (l.length=1)=A:=⟨_,rfl⟩
 obtain⟨B,hB⟩:∃B,decide (n=0)=B:=⟨_,rfl⟩
 obtain⟨E,hE⟩:∃E,empty s=E:=⟨_,rfl⟩
 unfold alone;dsimp only;simp only[hA,hB,hE,Int.reduceEq,Nat.reduceEqDiff,if_true,if_false,or_true,true_or,or_false,or_self];clear hA hB hE e1 e2 e3;cases A <;> cases B <;> cases E <;> cases p.isEmpty <;> cases none_ d <;> cases var n <;> rfl
theorem alone5(n:Int)(s:ByteArray)(d:Dt.D)(p:List Int)(l:List C):(decide (l.length=1)&&((n==0)&&((Lx.symbol s.data.toList)&&(p.isEmpty&&(none_ d)))))=alone (.mk 5 n s d p l):=by
 have e1:(n==0)=decide (n=0):=by rw[Bool.eq_iff_iff];simp
 have e2:=empty_list s;have e3:=len_is l;rw[e1];obtain⟨A,hA⟩:∃A,decide (l.length=1)=A:=⟨_,rfl⟩
 obtain⟨B,hB⟩:∃B,decide (n=0)=B:=⟨_,rfl⟩
 obtain⟨E,hE⟩:∃E,empty s=E:=⟨_,rfl⟩
 unfold alone;dsimp only;simp only[hA,hB,hE,Int.reduceEq,Nat.reduceEqDiff,if_true,if_false,or_true,true_or,or_false,or_self];clear hA hB hE e1 e2 e3;cases A <;> cases B <;> cases E <;> cases p.isEmpty <;> cases none_ d <;> cases Lx.symbol s.data.toList <;> rfl
theorem alone6(n:Int)(s:ByteArray)(d:Dt.D)(p:List Int)(l:List C):(decide (l.length=1)&&((n==0)&&((Lx.symbol s.data.toList)&&(p.isEmpty&&(none_ d)))))=alone (.mk 6 n s d p l):=by
 have e1:(n==0)=decide (n=0):=by rw[Bool.eq_iff_iff];simp
 have e2:=empty_list s;have e3:=len_is l;rw[e1];obtain⟨A,hA⟩:∃A,decide (l.length=1)=A:=⟨_,rfl⟩
 obtain⟨B,hB⟩:∃B,decide (n=0)=B:=⟨_,rfl⟩
 obtain⟨E,hE⟩:∃E,empty s=E:=⟨_,rfl⟩
 unfold alone;dsimp only;simp only[hA,hB,hE,Int.reduceEq,Nat.reduceEqDiff,if_true,if_false,or_true,true_or,or_false,or_self];clear hA hB hE e1 e2 e3;cases A <;> cases B <;> cases E <;> cases p.isEmpty <;> cases none_ d <;> cases Lx.symbol s.data.toList <;> rfl
theorem alone7(n:Int)(s:ByteArray)(d:Dt.D)(p:List Int)(l:List C):(decide (l.length=3)&&((n==0)&&(s.toList.isEmpty&&(p.isEmpty&&(none_ d)))))=alone (.mk 7 n s d p l):=by
 have e1:(n==0)=decide (n=0):=by rw[Bool.eq_iff_iff];simp
 have e2:=empty_list s;have e3:=len_is l;rw[←e2,e1];obtain⟨A,hA⟩:∃A,decide (l.length=3)=A:=⟨_,rfl⟩
 obtain⟨B,hB⟩:∃B,decide (n=0)=B:=⟨_,rfl⟩
 obtain⟨E,hE⟩:∃E,empty s=E:=⟨_,rfl⟩
 unfold alone;dsimp only;simp only[hA,hB,hE,Int.reduceEq,Nat.reduceEqDiff,if_true,if_false,or_true,true_or,or_false,or_self];clear hA hB hE e1 e2 e3;cases A <;> cases B <;> cases E <;> cases p.isEmpty <;> cases none_ d <;> rfl
theorem alone8(n:Int)(s:ByteArray)(d:Dt.D)(p:List Int)(l:List C):(decide (l.length=1)&&(s.toList.isEmpty&&((none_ d)&&(params n p))))=alone (.mk 8 n s d p l):=by
 have e1:(n==0)=decide (n=0):=by rw[Bool.eq_iff_iff];simp
 have e2:=empty_list s;have e3:=len_is l;rw[←e2];obtain⟨A,hA⟩:∃A,decide (l.length=1)=A:=⟨_,rfl⟩
 obtain⟨B,hB⟩:∃B,decide (n=0)=B:=⟨_,rfl⟩
 obtain⟨E,hE⟩:∃E,empty s=E:=⟨_,rfl⟩
 unfold alone;dsimp only;simp only[hA,hB,hE,Int.reduceEq,Nat.reduceEqDiff,if_true,if_false,or_true,true_or,or_false,or_self];clear hA hB hE e1 e2 e3;cases A <;> cases B <;> cases E <;> cases p.isEmpty <;> cases none_ d <;> cases params n p <;> rfl
theorem alone9(n:Int)(s:ByteArray)(d:Dt.D)(p:List Int)(l:List C):(decide (1≤l.length)&&((n==0)&&(s.toList.isEmpty&&(p.isEmpty&&(none_ d)))))=alone (.mk 9 n s d p l):=by
 have e1:(n==0)=decide (n=0):=by rw[Bool.eq_iff_iff];simp
 have e2:=empty_list s;have e3:=len_is l;rw[←e2,e1];obtain⟨A,hA⟩:∃A,decide (1≤l.length)=A:=⟨_,rfl⟩
 obtain⟨B,hB⟩:∃B,decide (n=0)=B:=⟨_,rfl⟩
 obtain⟨E,hE⟩:∃E,empty s=E:=⟨_,rfl⟩
 have hA2:decide (0<l.length)=A:=hA;unfold alone;dsimp only;simp only[hA,hB,hE,hA2,Int.reduceEq,Nat.reduceEqDiff,if_true,if_false,or_true,true_or,or_false,or_self];clear hA hB hE e1 e2 e3;cases A <;> cases B <;> cases E <;> cases p.isEmpty <;> cases none_ d <;> rfl
theorem alone10(n:Int)(s:ByteArray)(d:Dt.D)(p:List Int)(l:List C):(decide (1≤l.length)&&((n==0)&&(s.toList.isEmpty&&(p.isEmpty&&(none_ d)))))=alone (.mk 10 n s d p l):=by
 have e1:(n==0)=decide (n=0):=by rw[Bool.eq_iff_iff];simp
 have e2:=empty_list s;have e3:=len_is l;rw[←e2,e1];obtain⟨A,hA⟩:∃A,decide (1≤l.length)=A:=⟨_,rfl⟩
 obtain⟨B,hB⟩:∃B,decide (n=0)=B:=⟨_,rfl⟩
 obtain⟨E,hE⟩:∃E,empty s=E:=⟨_,rfl⟩
 have hA2:decide (0<l.length)=A:=hA;unfold alone;dsimp only;simp only[hA,hB,hE,hA2,Int.reduceEq,Nat.reduceEqDiff,if_true,if_false,or_true,true_or,or_false,or_self];clear hA hB hE e1 e2 e3;cases A <;> cases B <;> cases E <;> cases p.isEmpty <;> cases none_ d <;> rfl
end Co
theorem singleC_any{F:Nat→Prop}(c:Co.C)(vm vl vt vp vk:Value)(w:World)(hW:Co.Wf c)(h:Co.Rep F w c vm vl vt vp vk):
  Calls Tryz.prog 65 #[Co.V c vm vl vt vp vk] w fun e w'=>e= .returned (.bool (Co.alone c))∧Below w.heap.size w w':=by
 cases c with
 |mk k n s d p l=>
  obtain⟨h1,h2,⟨al,cl,rfl,hlc,-⟩⟩:=(Co.rep_iff _ _ _ _ _ _ _ _).1 h;rw[Co.Wf]at hW;obtain⟨-,hs,hWd,hp,-,hl,-⟩:=hW;show Calls _ _ #[.agg #[.int .i64 k,.int .i64 n,.string s,.int .i64 d.k,.int .i64 d.n,.string d.s,vm,vl,vt,vp,.slice al l.length cl]] _ _;cases hk:Co.isKind k
  ·rw[Co.isKind_no hk (.mk k n s d p l) rfl];exact singleNo_any k n _ _ s _ _ _ _ _ _ w hk
  ·rcases Co.isKind_yes hk with rfl|rfl|rfl|rfl|rfl|rfl|rfl|rfl|rfl|rfl
   ·rw[←Co.alone1];exact single1_any n s d p l.length al cl _ _ _ _ w hs hl hp hWd h1 h2
   ·rw[←Co.alone2];exact single2_any n s d p l.length al cl _ _ _ _ w hs hl hp hWd h1 h2
   ·rw[←Co.alone3];exact single3_any n s d p l.length al cl _ _ _ _ w hs hl hp hWd h1 h2
   ·rw[←Co.alone4];exact single4_any n s d p l.length al cl _ _ _ _ w hs hl hp hWd h1 h2
   ·rw[←Co.alone5];exact single5_any n s d p l.length al cl _ _ _ _ w hs hl hp hWd h1 h2
   ·rw[←Co.alone6];exact single6_any n s d p l.length al cl _ _ _ _ w hs hl hp hWd h1 h2
   ·rw[←Co.alone7];exact single7_any n s d p l.length al cl _ _ _ _ w hs hl hp hWd h1 h2
   ·rw[←Co.alone8];exact single8_any n s d p l.length al cl _ _ _ _ w hs hl hp hWd h1 h2
   ·rw[←Co.alone9];exact single9_any n s d p l.length al cl _ _ _ _ w hs hl hp hWd h1 h2
   ·rw[←Co.alone10];exact single10_any n s d p l.length al cl _ _ _ _ w hs hl hp hWd h1 h2
end Go.Proofs.YtfjmlfbohenmfaaGreat
namespace Go.Proofs.YtfjmlfbohenmfaaGreat
namespace Co
open Dt (D)
theorem once_nodup:∀ {p:List Int},once p=true→p.Nodup
 |[],_=>List.nodup_nil
 |x :: r,h=>by
  rw[once,Bool.and_eq_true]at h;rw[List.nodup_cons];exact⟨by simpa using h.1,once_nodup h.2⟩
theorem alone_p{c:C}(h:alone c=true):c.p=[]∨(c.k=8∧c.p.Nodup):=by
 cases c with
 |mk k n s d p l=>
  show p=[]∨(k=8∧p.Nodup);unfold alone at h;dsimp only at h;split at h
  ·simp only[Bool.and_eq_true,List.isEmpty_iff]at h;exact .inl h.1.1.2
  split at h
  ·cases h
  split at h
  ·rename_i hk;simp only[Bool.and_eq_true,params]at h;exact .inr ⟨hk,once_nodup h.2.2⟩
  split at h
  ·cases h
  ·rename_i hp;left;simpa using hp
theorem here_ok{opn:Bool}{c:C}{deep:Nat}{win:List Int}{top:Bool}{cnt:Nat}{bd:List Int}(h:here opn c deep win top cnt bd=0):
  alone c=true∧((c.k=2∨c.k=4)→opn=false→c.n∈win)∧(∀x∈c.p,x∉bd):=by
 unfold here at h;split at h
 ·cases h
 split at h
 ·cases h
 split at h
 ·cases h
 rename_i h1;split at h
 ·cases h
 rename_i h2;split at h
 ·cases h
 rename_i h3;refine⟨?_,fun hk ho=> ?_,fun x hx hb=> ?_⟩
 ·cases ha:alone c with
  |true=>rfl
  |false=>exact absurd (.inl ha) h1
 ·cases hc:win.contains c.n with
  |true=>simpa using hc
  |false=>exact absurd ⟨hk,ho,hc⟩ h2
 ·exact h3 (List.any_eq_true.2 ⟨x,hx,by simpa using hb⟩)
theorem goes_ok{opn:Bool}{k n:Int}{s:ByteArray}{d:D}{p:List Int}{l:List C}{deep:Nat}{win:List Int}{top:Bool}{cnt:Nat}{bd:List Int}{r:Nat×List Int}
  (h:goes opn (.mk k n s d p l) deep win top cnt bd=(0,r)):here opn (.mk k n s d p l) deep win top cnt bd=0∧goesL opn l (deep+1) (inner k p win) (top&&decide (k=9)) (cnt+1) (bd++p)=(0,r):=by
 rw[goes]at h;split at h
 ·rename_i h1;exact absurd (Prod.mk.inj h).1 h1
 ·rename_i h1;exact⟨Classical.byContradiction h1,h⟩
theorem goesL_ok{opn:Bool}{c:C}{l:List C}{deep:Nat}{win:List Int}{top:Bool}{cnt:Nat}{bd:List Int}{r:Nat×List Int}
  (h:goesL opn (c :: l) deep win top cnt bd=(0,r)):∃q:Nat×List Int,goes opn c deep win top cnt bd=(0,q)∧goesL opn l deep win top q.1 q.2=(0,r):=by
 rw[goesL]at h;split at h
 ·rename_i h1;exact absurd (by rw[h]) h1
 ·rename_i h1;exact⟨(goes opn c deep win top cnt bd).2,Prod.ext (Classical.byContradiction h1) rfl,h⟩
theorem inner_sub{k:Int}{p win bd:List Int}(h:∀x∈win,x∈bd):∀x∈inner k p win,x∈bd++p:=fun x hx=>by
 unfold inner at hx;split at hx
 ·rcases List.mem_append.1 hx with hx|hx
  ·exact List.mem_append_left _ (h x hx)
  ·exact List.mem_append_right _ hx
 ·exact List.mem_append_left _ (h x hx)
end Co
namespace Co
open Dt (D)
theorem none_eq{d:D}(h:none_ d=true):d= .mk 0 0 ⟨#[]⟩ [] [] []:=by
 cases d with
 |mk k n s m l t=>
  have h':(decide (k=0)&&decide (n=0)&&s.data.toList.isEmpty&&m.isEmpty&&l.isEmpty&&t.isEmpty)=true:=h;simp only[Bool.and_eq_true,decide_eq_true_eq,List.isEmpty_iff]at h';obtain⟨⟨⟨⟨⟨rfl,rfl⟩,h3⟩,rfl⟩,rfl⟩,rfl⟩:=h';have:s=⟨#[]⟩:=by
   apply ByteArray.ext
   apply Array.toList_inj.1
   rw[h3]
  rw[this]
theorem here_room{opn:Bool}{c:C}{deep:Nat}{win:List Int}{top:Bool}{cnt:Nat}{bd:List Int}(h:here opn c deep win top cnt bd=0):deep≤128∧cnt<8192:=by
 unfold here at h;split at h
 ·cases h
 rename_i h1;split at h
 ·cases h
 rename_i h2;omega
end Co
namespace Co
open Dt (D)
theorem here_open{c:C}{deep:Nat}{win win':List Int}{top:Bool}{cnt:Nat}{bd:List Int}(h:here false c deep win top cnt bd=0):here true c deep win' top cnt bd=0:=by
 unfold here at h ⊢;split at h
 ·cases h
 rename_i h1;rw[if_neg h1];split at h
 ·cases h
 rename_i h2;rw[if_neg h2];split at h
 ·cases h
 rename_i h3;rw[if_neg h3];split at h
 ·cases h
 rw[if_neg (by simp)];exact h
mutual
theorem goes_open:∀(c:C) {deep:Nat} {win win':List Int} {top:Bool} {cnt:Nat} {bd:List Int} {r:Nat×List Int},goes false c deep win top cnt bd=(0,r)→goes true c deep win' top cnt bd=(0,r)
 | .mk k n s d p l,deep,win,win',top,cnt,bd,r,h=>by
  obtain⟨h1,h2⟩:=goes_ok h;rw[goes,if_neg (by rw[here_open h1];simp)];exact goesL_open l h2
theorem goesL_open:∀(l:List C) {deep:Nat} {win win':List Int} {top:Bool} {cnt:Nat} {bd:List Int} {r:Nat×List Int},goesL false l deep win top cnt bd=(0,r)→goesL true l deep win' top cnt bd=(0,r)
 |[],_,_,_,_,_,_,_,h=>by rw[goesL]at h ⊢;exact h
 |c :: l,deep,win,win',top,cnt,bd,r,h=>by
  obtain⟨q,h1,h2⟩:=goesL_ok h;have h3:=goes_open (win':=win') c h1;rw[goesL,h3,if_neg (by simp)];exact goesL_open l h2
end
mutual
theorem free_none:∀(c:C) {deep:Nat} {win:List Int} {top:Bool} {cnt:Nat} {bd:List Int} {r:Nat×List Int} (out:List Int),goes false c deep win top cnt bd=(0,r)→free c win out=out
 | .mk k n s d p l,deep,win,top,cnt,bd,r,out,h=>by
  obtain⟨h1,h2⟩:=goes_ok h;obtain⟨h3,h4,h5⟩:=here_ok h1;rw[free];have e:(if(k=2∨k=4)∧win.contains n=false then put out n else out)=out:=by
   split
   ·rename_i h6;have h7:n∈win:=h4 h6.1 rfl;have h8:win.contains n=true:=by simpa using h7
    rw[h8]at h6;exact absurd h6.2 (by decide)
   ·rfl
  rw[e];exact freeL_none l out h2
theorem freeL_none:∀(l:List C) {deep:Nat} {win:List Int} {top:Bool} {cnt:Nat} {bd:List Int} {r:Nat×List Int} (out:List Int),goesL false l deep win top cnt bd=(0,r)→freeL l win out=out
 |[],_,_,_,_,_,_,_,_=>by rw[freeL]
 |c :: l,deep,win,top,cnt,bd,r,out,h=>by
  obtain⟨q,h1,h2⟩:=goesL_ok h;rw[freeL,free_none c out h1];exact freeL_none l out h2
end
theorem check_closed{c:C}(h:check c []=0):openE c=0∧free c [] []=[]∧ok c=true:=by
 have h1:goes false c 1 [] true 0 []=(0,(goes false c 1 [] true 0 []).2):=Prod.ext h rfl;have h2:openE c=0:=by unfold openE;rw[goes_open (win':=[]) c h1]
 have h3:=free_none c [] h1;refine⟨h2,h3,?_⟩;unfold ok;rw[h2,h3,h]
 rfl
theorem here_more{c:C}{deep:Nat}{win bd:List Int}{top:Bool}{cnt:Nat}{more:Int}(win' bd':List Int)(hw:∀x∈win,x∈win')(hb:∀x∈bd',x∈bd∨x=more)(hp:more∉c.p)(h:here false c deep win top cnt bd=0):here false c deep win' top cnt bd'=0:=by
 obtain⟨h3,h4,h5⟩:=here_ok h;unfold here at h ⊢;split at h
 ·cases h
 rename_i h1;rw[if_neg h1];split at h
 ·cases h
 rename_i h2;rw[if_neg h2];split at h
 ·cases h
 rename_i h6;rw[if_neg h6,if_neg (fun e=>by
  have:=hw _ (h4 e.1 rfl);have h8:win'.contains c.n=true:=by simpa using this
  rw[h8]at e;exact absurd e.2.2 (by decide)),if_neg (fun e=>by
  obtain⟨x,hx,hxb⟩:=List.any_eq_true.1 e;have hxb':x∈bd':=by simpa using hxb
  rcases hb x hxb' with h7|h7
  ·exact h5 x hx h7
  ·exact hp (h7▸hx))]
end Co
namespace Co
end Co
namespace Co
def puts(l:List Int):List Int:=l.foldl put []
theorem put_mem:∀(l:List Int) (n x:Int),x∈put l n↔x∈l∨x=n
 |[],n,x=>by rw[put];simp
 |y :: r,n,x=>by
  rw[put];split
  ·simp only[List.mem_cons];constructor
   ·rintro(h|h|h)
    ·exact .inr h
    ·exact .inl (.inl h)
    ·exact .inl (.inr h)
   ·rintro((h|h)|h)
    ·exact .inr (.inl h)
    ·exact .inr (.inr h)
    ·exact .inl h
  split
  ·rename_i h1 h2;subst h2;simp only[List.mem_cons];constructor
   ·rintro(h|h)
    ·exact .inl (.inl h)
    ·exact .inl (.inr h)
   ·rintro((h|h)|h)
    ·exact .inl h
    ·exact .inr h
    ·exact .inl h
  ·simp only[List.mem_cons,put_mem r n x];constructor
   ·rintro(h|h|h)
    ·exact .inl (.inl h)
    ·exact .inl (.inr h)
    ·exact .inr h
   ·rintro((h|h)|h)
    ·exact .inl h
    ·exact .inr (.inl h)
    ·exact .inr (.inr h)
theorem put_sorted:∀ {l:List Int} (n:Int),l.Pairwise (· < ·)→(put l n).Pairwise (· < ·)
 |[],n,_=>by rw[put];simp
 |y :: r,n,h=>by
  rw[List.pairwise_cons]at h;rw[put];split
  ·rename_i h1;rw[List.pairwise_cons];refine⟨fun x hx=> ?_,List.pairwise_cons.2 h⟩;rcases List.mem_cons.1 hx with rfl|hx
   ·exact h1
   ·have:=h.1 x hx;omega
  split
  ·exact List.pairwise_cons.2 h
  ·rename_i h1 h2;rw[List.pairwise_cons];refine⟨fun x hx=> ?_,put_sorted n h.2⟩;rcases(put_mem r n x).1 hx with hx|rfl
   ·exact h.1 x hx
   ·omega
theorem foldl_put:∀(l acc:List Int),acc.Pairwise (· < ·)→(l.foldl put acc).Pairwise (· < ·)∧∀x,x∈l.foldl put acc↔x∈acc∨x∈l
 |[],acc,h=>⟨h,fun x=>by simp⟩
 |n :: r,acc,h=>by
  obtain⟨h1,h2⟩:=foldl_put r (put acc n) (put_sorted n h);refine⟨h1,fun x=> ?_⟩;rw[List.foldl_cons,h2,put_mem,List.mem_cons];constructor
  ·rintro((h|h)|h)
   ·exact .inl h
   ·exact .inr (.inl h)
   ·exact .inr (.inr h)
  ·rintro(h|h|h)
   ·exact .inl (.inl h)
   ·exact .inl (.inr h)
   ·exact .inr h
theorem puts_mem(l:List Int)(x:Int):x∈puts l↔x∈l:=by
 unfold puts;rw[(foldl_put l [] List.Pairwise.nil).2];simp
theorem puts_sorted(l:List Int):(puts l).Pairwise (· < ·):=(foldl_put l [] List.Pairwise.nil).1
mutual
def frees:C→List Int→List Int
 | .mk k n _ _ p l,win=>(if(k=2∨k=4)∧win.contains n=false then [n]else [])++freesL l (inner k p win)
def freesL:List C→List Int→List Int
 |[],_=>[]
 |c :: r,win=>frees c win++freesL r win
end
mutual
theorem free_fold:∀(c:C) (win out:List Int),free c win out=(frees c win).foldl put out
 | .mk k n s d p l,win,out=>by
  rw[free,frees,List.foldl_append,freeL_fold l]
  congr 1
  split <;> rfl
theorem freeL_fold:∀(l:List C) (win out:List Int),freeL l win out=(freesL l win).foldl put out
 |[],_,_=>by rw[freeL,freesL];rfl
 |c :: r,win,out=>by rw[freeL,freesL,List.foldl_append,free_fold c,freeL_fold r]
end
theorem free_puts(c:C):free c [] []=puts (frees c []):=free_fold c [] []
end Co
end Go.Proofs.YtfjmlfbohenmfaaGreat
