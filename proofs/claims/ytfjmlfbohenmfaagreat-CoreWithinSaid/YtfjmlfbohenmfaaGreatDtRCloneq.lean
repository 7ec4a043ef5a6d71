/-
  DtRCloneq.
-/
import Derived.Test.YtfjmlfbohenmfaaGreatDtMadeq
import Derived.Test.YtfjmlfbohenmfaaGreatCoreWithinLawZM2
set_option maxRecDepth 100000
set_option maxHeartbeats 32000000
namespace Go.Proofs.YtfjmlfbohenmfaaGreat
open Go.RowKit
theorem rClone_any{F:Nat→Prop}(x:Dt.D)(vm vl vt:Value)(w:World)(hW:Dt.Wf x)(hR:Dt.Rep F w x vm vl vt):
  Calls Tryz.prog 88 #[.agg #[.int .i64 x.k,.int .i64 x.n,.string x.s,vm,vl,vt]] w fun e w'=>Dt.Fresh w.heap.size w' (Dt.clone x) e∧Below w.heap.size w w':=by
 obtain⟨a1,n1,q1,a2,n2,q2,a3,n3,q3,rfl,rfl,rfl⟩:=hR.forms;obtain⟨w2,hw2,hb2,hs2,hx2,hy2⟩:=Dt.boxes2 w x (.mk 0 0 ⟨#[]⟩ [] [] []) (.slice a1 n1 q1) (.slice a2 n2 q2) (.slice a3 n3 q3) (.slice none 0 0) (.slice none 0 0) (.slice none 0 0);have hck:=rCheck_any x _ _ _ w2 hW (hR.below hb2);have HR2:=zh (hR.below hb2);have HS2:=zh hs2;have HB2:=zh hb2;have HX:=zh hx2;have HY:=zh hy2;have HW:=zh hW;have HFZ:Hid (∀j,w2.frozen? ⟨w.heap.size+1,j,none⟩=false):=by
  intro j;rw[←hw2];have:=Dt.frz_new (w.alloc (.cells #[.int .i64 x.k,.int .i64 x.n,.string x.s,.slice a1 n1 q1,.slice a2 n2 q2,.slice a3 n3 q3] 25)) #[.int .i64 0,.int .i64 0,.string ⟨#[]⟩,.slice none 0 0,.slice none 0 0,.slice none 0 0] 25 j;rw[World.size_alloc]at this;exact this
 obtain⟨b0,b1,b2,b3,b4,b5⟩:=hx2;have hw2':(w.alloc (.cells #[.int .i64 x.k,.int .i64 x.n,.string x.s,.slice a1 n1 q1,.slice a2 n2 q2,.slice a3 n3 q3] 25)).alloc (.cells #[.int .i64 0,.int .i64 0,.string ⟨#[]⟩,.slice none 0 0,.slice none 0 0,.slice none 0 0] 25)=w2:=hw2;clear hR hW hs2 hb2 hy2 hw2;by_cases h0:Dt.check x=0
 ·have HC:Hid (Dt.clone x=x):=by show _=_;unfold Dt.clone;rw[if_pos h0]
  have HF:=zh (Dt.fine_of_check h0);rw[h0]at hck;rw[HC.out];clear h0;go_enter Tryz.func88,Tryz.ntmps88;go_wp2_with fail
  refine hck.mono ?_;rintro e w3 ⟨rfl,hb3⟩;obtain⟨c0,c1,c2,c3,c4,c5⟩:=HX.out.below hb3;have hown:=Dt.made_any true x F (.slice a1 n1 q1) (.slice a2 n2 q2) (.slice a3 n3 q3) w3 HW.out HF.out (HR2.out.below hb3);rw[Dt.strip_true]at hown;have HB3:=zh hb3;clear hck hw2' hb3 b0 b1 b2 b3 b4 b5;go_wp2_with fail
  refine hown.mono ?_;rintro e w4 ⟨⟨um,ul,ut,rfl,hr4⟩,hb4⟩;obtain⟨b1,m1,p1,b2,m2,p2,b3,m3,p3,rfl,rfl,rfl⟩:=hr4.forms;have hb24:Below w2.heap.size w2 w4:=btr HB3.out hb4;obtain⟨d0,d1,d2,d3,d4,d5⟩:=HY.out.below hb24;have hl:w.heap.size+1<w2.heap.size:=by have:=HS2.out;omega
  have hf:∀j,w4.frozen? ⟨w.heap.size+1,j,none⟩=false:=fun j=>(hb24.frozen (p:=⟨w.heap.size+1,j,none⟩) hl).trans (HFZ.out j)
  have k0:=hf 0;have k1:=hf 1;have k2:=hf 2;have k3:=hf 3;have k4:=hf 4;have k5:=hf 5;have HE:Hid (Dt.Fresh w.heap.size (Dt.six6 w4 (w.heap.size+1) x (.slice b1 m1 p1) (.slice b2 m2 p2) (.slice b3 m3 p3)) x (.returned (.agg #[.int .i64 x.k,.int .i64 x.n,.string x.s,.slice b1 m1 p1,.slice b2 m2 p2,.slice b3 m3 p3]))∧Below w.heap.size w (Dt.six6 w4 (w.heap.size+1) x (.slice b1 m1 p1) (.slice b2 m2 p2) (.slice b3 m3 p3))):=by
   have hk:=Dt.six6_keep w4 (w.heap.size+1) x (.slice b1 m1 p1) (.slice b2 m2 p2) (.slice b3 m3 p3);have hs3:=HB3.out.size;have hs2:=HS2.out;have hr4':Dt.Rep (fun k=>w.heap.size+1<k) w4 x (.slice b1 m1 p1) (.slice b2 m2 p2) (.slice b3 m3 p3):=Dt.Rep.mono (fun b hb _=>by omega) x hr4;refine⟨⟨_,_,_,rfl,Dt.Rep.mono (fun b hb _=>by omega) x (Dt.Rep.keep hk (fun b hb _ e=>by omega) x hr4')⟩,((btr HB2.out hb24)).trans (hk.to_below (fun k e=>by omega) (by have:=hb24.size;omega))⟩
  clear hown hr4 hb4 hb24 hf c0 c1 c2 c3 c4 c5;go_wp2;refine bodyPost_ret (v:= .agg #[.int .i64 x.k,.int .i64 x.n,.string x.s,.slice b1 m1 p1,.slice b2 m2 p2,.slice b3 m3 p3]) ?_ rfl ?_
  ·simp[results,Tryz.results88,go_sem, *]
  ·exact HE.out
 ·have HC:Hid (Dt.clone x= .mk 0 0 ⟨#[]⟩ [] [] []):=by show _=_;unfold Dt.clone;rw[if_neg h0]
  have h1:(Dt.check x !=0)=true:=by simpa using h0
  have h2:(Dt.check x==0)=false:=by simpa using h0
  rw[HC.out];clear h0;go_enter Tryz.func88,Tryz.ntmps88;go_wp2_with fail
  refine hck.mono ?_;rintro e w3 ⟨rfl,hb3⟩;obtain⟨d0,d1,d2,d3,d4,d5⟩:=HY.out.below hb3;have hl:w.heap.size+1<w2.heap.size:=by have:=HS2.out;omega
  have hf:∀j,w3.frozen? ⟨w.heap.size+1,j,none⟩=false:=fun j=>(hb3.frozen (p:=⟨w.heap.size+1,j,none⟩) hl).trans (HFZ.out j)
  have k0:=hf 0;have k1:=hf 1;have k2:=hf 2;have k3:=hf 3;have k4:=hf 4;have k5:=hf 5;have HE:Hid (∀u,Keep (fun k=>k=w.heap.size+1) w3 u→Below w.heap.size w u):=by
   intro u hu;exact((btr HB2.out hb3)).trans (hu.to_below (fun k e=>by omega) (by have:=hb3.size;omega))
  clear hck hw2' hb3 hf b0 b1 b2 b3 b4 b5;simp only[Dt.D.k,Dt.D.n,Dt.D.s]at d0 d1 d2;go_wp2;refine bodyPost_ret (v:= .agg #[.int .i64 0,.int .i64 0,.string ⟨#[]⟩,.slice none 0 0,.slice none 0 0,.slice none 0 0]) ?_ rfl ?_
  ·simp[results,Tryz.results88,go_sem, *]
  ·exact⟨⟨_,_,_,rfl,Dt.rep_zero _ _⟩,HE.out _ (Dt.six6_keep w3 (w.heap.size+1) (.mk 0 0 ⟨#[]⟩ [] [] []) (.slice none 0 0) (.slice none 0 0) (.slice none 0 0))⟩
end Go.Proofs.YtfjmlfbohenmfaaGreat
