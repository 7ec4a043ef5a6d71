/-
  CoTellAb, CoSeeb, CoAllb, CoSetb, CoToldb, CoRWkb, CoRPutb, CoGlobb, CoLikeAb.
-/
import Derived.Test.YtfjmlfbohenmfaaGreatCoreBBM8
import Derived.Test.YtfjmlfbohenmfaaGreatCoOwnb
import Derived.Test.YtfjmlfbohenmfaaGreatCoreBBM2
import Derived.Test.YtfjmlfbohenmfaaGreatCoreBBM11
import Derived.Test.YtfjmlfbohenmfaaGreatCoreBBM10
import Derived.Test.YtfjmlfbohenmfaaGreatCoreBBM9
import Derived.RangeFuncBox
import Derived.Test.YtfjmlfbohenmfaaGreatCoRAloneb
import Derived.Test.YtfjmlfbohenmfaaGreatCoreBBM5
import Derived.Test.YtfjmlfbohenmfaaGreatCoreBBM7
import Derived.Sort.KeysCollected
set_option maxRecDepth 100000
set_option maxHeartbeats 32000000
namespace Go.Proofs.YtfjmlfbohenmfaaGreat
open Go.RowKit
attribute [local go_sem] Oper.semAt_some
namespace Co
open Dt (D)
def symD(s:ByteArray):D:= .mk 5 0 s [] [] []
def fixD(n:Int):D:= .mk 1 n ⟨#[]⟩ [] [] []
def lstD(l:List D):D:= .mk 6 0 ⟨#[]⟩ [] l []
theorem rep_nil(F:Nat→Prop)(w:World)(k n:Int)(s:ByteArray):Dt.Rep F w (.mk k n s [] [] []) (.slice none 0 0) (.slice none 0 0) (.slice none 0 0):=
 (Dt.rep_iff _ _ _ _ _ _).2 ⟨⟨none,0,rfl,Nat.le_refl _,fun h=>absurd rfl h⟩,⟨none,0,rfl,Nat.le_refl _,fun h=>absurd rfl h⟩,⟨none,0,rfl,Nat.le_refl _,fun h=>absurd rfl h⟩⟩
theorem flatP_forms{qs:List Dt.P}{F:Nat→Prop}{w:World}(h:∀q∈qs,Dt.Rep F w q.d q.vm q.vl q.vt):∀u∈Dt.flatP qs,u.oneCell'=true:=
 Rd.flatP_one qs fun p hp=>by
  obtain⟨a1,n1,c1,a2,n2,c2,a3,n3,c3,e⟩:=(h p hp).forms;exact⟨a1,n1,c1,a2,n2,c2,a3,n3,c3,e⟩
end Co
theorem coSym_any(s:ByteArray)(w:World):Calls Tryz.prog 77 #[.string s] w fun e w'=>e= .returned (.agg #[.int .i64 5,.int .i64 0,.string s,.slice none 0 0,.slice none 0 0,.slice none 0 0])∧Below w.heap.size w w':=by
 obtain⟨w1,hw1⟩:∃w1,w.alloc (.cells #[.int .i64 0,.int .i64 0,.string ⟨#[]⟩,.slice none 0 0,.slice none 0 0,.slice none 0 0] 25)=w1:=⟨_,rfl⟩
 obtain⟨hb1,hs1⟩:=new_below hw1;have h1:=Hp.new hw1;have H1:=zh h1;obtain⟨x0,x1,x2,x3,x4,x5⟩:=H1.out.c6;have xf0:=H1.out.frz 0;have xf1:=H1.out.frz 1;have xf2:=H1.out.frz 2;have xf3:=H1.out.frz 3;have xf4:=H1.out.frz 4;have xf5:=H1.out.frz 5;have HB:Hid (Below w.heap.size w (set6 w1 w.heap.size (.int .i64 5) (.int .i64 0) (.string s) (.slice none 0 0) (.slice none 0 0) (.slice none 0 0))):=hb1.trans ((set6_keep w1 w.heap.size _ _ _ _ _ _).to_below (fun k e=>by omega) hb1.size);clear h1 hb1 hs1;go_enter Tryz.func77,Tryz.ntmps77;go_wp2;refine bodyPost_ret (v:= .agg #[.int .i64 5,.int .i64 0,.string s,.slice none 0 0,.slice none 0 0,.slice none 0 0]) (by simp[results,Tryz.results77,go_sem, *]) rfl ?_;exact⟨rfl,HB.out⟩
theorem coFix_any(n:Int)(w:World):Calls Tryz.prog 78 #[.int .i64 n] w fun e w'=>e= .returned (.agg #[.int .i64 1,.int .i64 n,.string ⟨#[]⟩,.slice none 0 0,.slice none 0 0,.slice none 0 0])∧Below w.heap.size w w':=by
 obtain⟨w1,hw1⟩:∃w1,w.alloc (.cells #[.int .i64 0,.int .i64 0,.string ⟨#[]⟩,.slice none 0 0,.slice none 0 0,.slice none 0 0] 25)=w1:=⟨_,rfl⟩
 obtain⟨hb1,hs1⟩:=new_below hw1;have h1:=Hp.new hw1;have H1:=zh h1;obtain⟨x0,x1,x2,x3,x4,x5⟩:=H1.out.c6;have xf0:=H1.out.frz 0;have xf1:=H1.out.frz 1;have xf2:=H1.out.frz 2;have xf3:=H1.out.frz 3;have xf4:=H1.out.frz 4;have xf5:=H1.out.frz 5;have HB:Hid (Below w.heap.size w (set6 w1 w.heap.size (.int .i64 1) (.int .i64 n) (.string ⟨#[]⟩) (.slice none 0 0) (.slice none 0 0) (.slice none 0 0))):=hb1.trans ((set6_keep w1 w.heap.size _ _ _ _ _ _).to_below (fun k e=>by omega) hb1.size);clear h1 hb1 hs1;go_enter Tryz.func78,Tryz.ntmps78;go_wp2;refine bodyPost_ret (v:= .agg #[.int .i64 1,.int .i64 n,.string ⟨#[]⟩,.slice none 0 0,.slice none 0 0,.slice none 0 0]) (by simp[results,Tryz.results78,go_sem, *]) rfl ?_;exact⟨rfl,HB.out⟩
theorem cloneData_any{F:Nat→Prop}(v:Value)(l:List Dt.D)(w:World)(h:Dt.Row F w v l)(hz:Rd.Nz v)(hl:l.length≤100000):
  Calls Tryz.prog 103 #[v] w fun e w'=>∃v',e= .returned v'∧Dt.Row (fun k=>F k∨w.heap.size≤k) w' v' l∧Below w.heap.size w w':=by
 have h0:=h;obtain⟨a,c,rfl,hc,hpt⟩:=h;have hn:=Lib.run_eql_slice_nil (P:=Tryz.prog) w 23 25 a l.length c 0 0 Tryz.underlying23
 cases a with
 |none=>
  have hl0:l=[]:=by
   cases l with
   |nil=>rfl
   |cons x r=>obtain⟨b,o,e,_⟩:=hpt (by simp);cases e
  subst hl0;have hn':(binOp .eql 23 (.slice none 0 c) (.slice none 0 0)).run Tryz.prog w= .ok (.bool true) w:=hn;clear hn h0 hpt;go_enter Tryz.func103,Tryz.ntmps103;go_wp2;go_ret;exact⟨_,rfl,⟨none,0,rfl,Nat.le_refl _,fun h=>absurd rfl h⟩,Below.refl _ _⟩
 |some ad=>
  obtain⟨i1,hi1,hy0,hy1,hy2⟩:=info_parts Dt.infoD;obtain⟨qs,hqs,hsrc0,hqr⟩:=Rd.row_parts h0 hz;have hln0:qs.length=l.length:=by rw[←hqs,List.length_map]
  have hm1:0+l.length≤maxLen:=by unfold maxLen;omega
  have hm2:(0+l.length)*104≤140737488355328:=by omega
  obtain⟨wA,hwA⟩:∃wA,w.alloc (.cells #[] 25)=wA:=⟨_,rfl⟩
  have hb:Below w.heap.size w wA:=by rw[←hwA];exact(Below.refl _ _).alloc (Nat.le_refl _) _
  have hown:wA.ownsRow w.heap.size 25 6 (.slice (some ⟨w.heap.size,0,none⟩) 0 0) 0 []:=by rw[←hwA];exact World.ownsRow_made w #[] 0 (Nat.le_refl _) (by decide) (by simp)
  have hsrc:Ap.Src wA (.slice (some ad) l.length c) l.length (Dt.flatP qs):=by
   rcases hsrc0 with⟨h1,_⟩|⟨ad',c',h1,h2⟩
   ·cases h1
   ·refine .inr ⟨ad',c',h1,fun j u hu=> ?_⟩;have hc:=h2 j u hu;exact(hb.cell (World.block_lt_of_cell? w _ hc)).trans hc
  have hln:(Dt.flatP qs).length=l.length*6:=by rw[Rd.flatP_len,hln0]
  have h1:∀u∈Dt.flatP qs,u.oneCell'=true:=Co.flatP_forms hqr;obtain⟨X,hX⟩:∃X,Dt.flatP qs=X:=⟨_,rfl⟩
  rw[hX]at hsrc hln h1;have HX:=zh hX;have HO:=zh hown;have HB:=zh hb;have HQR:=zh hqr;have HQS:=zh hqs;have HL0:=zh hln0;clear h0 hpt hown hb hX hsrc0 hqr hqs hln0;go_enter Tryz.func103,Tryz.ntmps103;go_wp2_with(at_builtin;refine Ap.list rfl _ _ 23 rfl w.heap.size 25 i1 (.agg #[.int .i64 0,.int .i64 0,.string ⟨#[]⟩,.slice none 0 0,.slice none 0 0,.slice none 0 0]) 6 104 Tryz.underlying23 hi1 hy0 hy1 hy2 rfl (by decide) (.slice (some ⟨w.heap.size,0,none⟩) 0 0) 0 [] rfl HO.out (.slice (some ad) l.length c) l.length X rfl hsrc hln h1 hm1 hm2 HB.out.size ?_;intro v' w5 hown hg hat;obtain⟨a5,c5,rfl⟩:=Dt.row_form hown)
  go_ret;simp only[Nat.zero_add,List.nil_append]at hown;rw[←HX.out]at hown;have hb5:Below w.heap.size w w5:=Dt.grown_below HB.out hg (Nat.le_refl _) (fun k hk=>by cases hk;exact Nat.le_refl _);refine⟨_,rfl,?_,hb5⟩;have hrr:=Rd.row_of_own (F:=fun k=>F k∨w.heap.size≤k) hown HL0.out.symm (fun j hj=> .inr (Dt.own_lt hown j hj).1) (fun p hp=>Dt.Rep.mono (fun b hb _=> .inl hb) p.d ((HQR.out p hp).below hb5));rw[HQS.out]at hrr;exact hrr
theorem coList_any{F:Nat→Prop}(v:Value)(l:List Dt.D)(w:World)(h:Dt.Row F w v l)(hz:Rd.Nz v)(hl:l.length≤100000):
  Calls Tryz.prog 79 #[v] w fun e w'=>∃v',e= .returned (.agg #[.int .i64 6,.int .i64 0,.string ⟨#[]⟩,.slice none 0 0,v',.slice none 0 0])∧Dt.Row (fun k=>F k∨w.heap.size≤k) w' v' l∧Below w.heap.size w w':=by
 obtain⟨w1,hw1⟩:∃w1,w.alloc (.cells #[.int .i64 0,.int .i64 0,.string ⟨#[]⟩,.slice none 0 0,.slice none 0 0,.slice none 0 0] 25)=w1:=⟨_,rfl⟩
 obtain⟨hb1,hs1⟩:=new_below hw1;have h1:=Hp.new hw1;have h':Dt.Row (fun k=>F k∧k<w.heap.size) w v l:=h.mono (fun b hb hl=>⟨hb,hl⟩);have hcl:=cloneData_any v l w1 (h'.below hb1) hz hl;have H1:=zh h1;have HB1:=zh hb1;have HS1:=zh hs1;clear h1 hb1 hs1 h h' hz hl;go_enter Tryz.func79,Tryz.ntmps79;go_wp2_with fail
 refine hcl.mono ?_;rintro e w2 ⟨v',rfl,hrow,hb2⟩;obtain⟨a2,c2,rfl,hc2,hpt2⟩:=hrow;have hrow:Dt.Row (fun k=>(F k∧k<w.heap.size)∨w1.heap.size≤k) w2 (.slice a2 l.length c2) l:=⟨a2,c2,rfl,hc2,hpt2⟩
 have H2:=zh (H1.out.below hb2);have k3:=set6_keep w2 w.heap.size (.int .i64 6) (.int .i64 0) (.string ⟨#[]⟩) (.slice none 0 0) (.slice a2 l.length c2) (.slice none 0 0);have HF:Hid (Dt.Row (fun k=>F k∨w.heap.size≤k) (set6 w2 w.heap.size (.int .i64 6) (.int .i64 0) (.string ⟨#[]⟩) (.slice none 0 0) (.slice a2 l.length c2) (.slice none 0 0)) (.slice a2 l.length c2) l∧Below w.heap.size w (set6 w2 w.heap.size (.int .i64 6) (.int .i64 0) (.string ⟨#[]⟩) (.slice none 0 0) (.slice a2 l.length c2) (.slice none 0 0))):=by
  exact⟨Dt.Row.mono (hrow.keep k3 (fun b hb _ e=>by have:=HS1.out;omega)) (fun b hb _=>hb.elim (fun h=> .inl h.1) (fun h=> .inr (by have:=HS1.out;omega))),((btr HB1.out hb2)).trans (k3.to_below (fun k e=>by omega) (by have:=HB1.out.size;have:=hb2.size;omega))⟩
 obtain⟨x0,x1,x2,x3,x4,x5⟩:=H2.out.c6;have xf0:=H2.out.frz 0;have xf1:=H2.out.frz 1;have xf2:=H2.out.frz 2;have xf3:=H2.out.frz 3;have xf4:=H2.out.frz 4;have xf5:=H2.out.frz 5;clear hrow hpt2 hcl hb2 k3 hw1;go_wp2;refine bodyPost_ret (v:= .agg #[.int .i64 6,.int .i64 0,.string ⟨#[]⟩,.slice none 0 0,.slice a2 l.length c2,.slice none 0 0]) (by simp[results,Tryz.results79,go_sem, *]) rfl ?_;exact⟨_,rfl,HF.out⟩
namespace Co
def encC(p:PC):Array Value:=#[V p.c p.vm p.vl p.vt p.vp p.vk]
def VCF(F:Nat→Prop)(p:PC)(w:World):Prop:=Rep F w p.c p.vm p.vl p.vt p.vp p.vk∧Wf p.c∧Snd p.c
def VC(p:PC)(w:World):Prop:=Rep (fun _=>True) w p.c p.vm p.vl p.vt p.vp p.vk∧Wf p.c∧Snd p.c
theorem VCF.mono{F G:Nat→Prop}{p:PC}{w:World}(h:VCF F p w)(hFG:∀b,F b→b<w.heap.size→G b):VCF G p w:=⟨Rep.mono hFG _ h.1,h.2⟩
end Co
theorem coSee_in(n m l y:Nat)(hm:1≤m){R:Ending→World→Prop}{F:Nat→Prop}(x:Co.C)(vm vl vt vp vk:Value)(w:World)(hW:Co.Wf x)(hS:Co.Snd x)(hR:Co.Rep F w x vm vl vt vp vk)(hy:w.cell? ⟨y,0,none⟩=some (.func (.yield l) #[] #[]))
  (hY:∀p:Co.PC,p.c=x→∀W1,Below w.heap.size w W1→Co.VCF (fun k=>w.heap.size≤k) p W1→YieldAt Fence.wide n Tryz.prog l (Co.encC p) W1 R) (hB:∀e W,R e W→∃b,e= .returned (.bool b)):
  CallsIn Fence.wide m Tryz.prog 45 #[Co.V x vm vl vt vp vk,.pointer (some ⟨y,0,none⟩)] w R:=by
 obtain⟨a1,n1,q1,a2,n2,q2,a3,n3,q3,a4,n4,q4,a5,n5,q5,rfl,rfl,rfl,rfl,rfl⟩:=hR.forms5;unfold Co.V;obtain⟨w1,hw1⟩:∃w1,w.alloc (.cells #[.int .i64 x.k,.int .i64 x.n,.string x.s,.int .i64 x.d.k,.int .i64 x.d.n,.string x.d.s,.slice a1 n1 q1,.slice a2 n2 q2,.slice a3 n3 q3,.slice a4 n4 q4,.slice a5 n5 q5] 28)=w1:=⟨_,rfl⟩
 obtain⟨hb1,-⟩:=new_below hw1;have Hb:=zh (Hp.new hw1);obtain⟨b0,b1,b2,b3,b4,b5,b6,b7,b8,b9,b10⟩:=Hb.out.c11;have hRR:=hR.below hb1;have hown:=fun u (hu:Below w1.heap.size w1 u)=>coOwn_any x F _ _ _ _ _ u hW hS (hRR.below hu)
 unfold Co.V at hown;have HY:=zh hY;have HB:=zh hb1;have HYC:=zh hy;have HWX:=zh hW;have HSX:=zh hS;have HBL:=zh hB;clear hY hb1 hy hW hS hR hB;refine callsIn_of_wp Tryz.func45 rfl trivial ?_ rfl;simp only[Tryz.ntmps45,List.size_toArray,List.length_cons,List.length_nil,Nat.reduceAdd,Nat.reduceSub,Array.replicate_succ,Array.replicate_zero,List.push_toArray,List.append_toArray,List.nil_append,List.cons_append]
 gi_wp2
 have HOW:=zh hown;have HYB:Hid (∀W,Below w1.heap.size w1 W→W.cell? ⟨y,0,none⟩=some (.func (.yield l) #[] #[])):=fun W hb=>(((btr HB.out hb)).cell (p:=⟨y,0,none⟩) (block_lt_of_cell HYC.out)).trans HYC.out
 have yc:=HYB.out w1 (Below.refl _ _);clear hown hw1;refine wpIn_region_any (by kernel_rfl) ?_;have HBD:Hid (Below w1.heap.size w1 w1.drew):=(Below.refl _ w1).drew;refine wpAnyIn_ready (rs:=[0,1]) (by kernel_rfl) (by simp) ?_;refine AllReadyIn.cons rfl (fun K hK=> ?_) ?_
 ·go_simp;first|(refine hK _ _ ?_;clear hK K)|skip
  try simp only[Act.put,za,zb,zc]
  refine wpAnyIn_ready (rs:=[1]) (by kernel_rfl) (by simp) ?_;refine AllReadyIn.cons rfl (fun K hK=> ?_) AllReadyIn.nil;go_simp;first|(refine hK _ _ ?_;clear hK K)|skip
  try simp only[Act.put,za,zb,zc]
  refine wpAnyIn_ready (rs:=[2]) (by kernel_rfl) (by simp) ?_;refine AllReadyIn.cons rfl (fun K hK=> ?_) AllReadyIn.nil;go_simp;refine⟨trivial,?_⟩
  gi_at_call 46
  refine(callsIn_wide.2 (HOW.out _ HBD.out)).mono ?_;rintro e W5 ⟨um,ul,ut,up,uk,rfl,hr2,hb5⟩;obtain⟨c1,m1,r1,c2,m2,r2,c3,m3,r3,c4,m4,r4,c5,m5,r5,rfl,rfl,rfl,rfl,rfl⟩:=hr2.forms5;have hb15:=btr HBD.out hb5;have yc5:=HYB.out W5 hb15;obtain⟨fn,tmps,assign,body,hy,hR⟩:=Dt.yield_wide (m:=m) (HY.out ⟨x,.slice c1 m1 r1,.slice c2 m2 r2,.slice c3 m3 r3,.slice c4 m4 r4,.slice c5 m5 r5⟩ rfl W5 ((btr HB.out hb15)) ⟨Co.Rep.mono (fun k hk _=>Nat.le_trans HB.out.size hk) _ hr2,HWX.out,HSX.out⟩);unfold Co.encC Co.V at hy;dsimp only at hy;clear hb15 hb5 hr2;dsimp only;first|(refine hK _ _ ?_;clear hK K)|skip
  try simp only[Act.put,za,zb,zc]
  refine wpAnyIn_ready (rs:=[3]) (by kernel_rfl) (by simp) ?_;refine AllReadyIn.cons rfl (fun K hK=> ?_) AllReadyIn.nil;go_simp;refine(Dt.round_wide hR).mono ?_;rintro e W6 hRW;obtain⟨b6,rfl⟩:=HBL.out _ _ hRW;have HRW:=zh hRW;clear hR hy hRW;dsimp only;first|(refine hK _ _ ?_;clear hK K)|skip
  try simp only[Act.put,za,zb,zc]
  refine wpAnyIn_ready (rs:=[4]) (by kernel_rfl) (by simp) ?_;refine AllReadyIn.cons rfl (fun K hK=> ?_) AllReadyIn.nil;go_simp;first|(refine hK _ _ ?_;clear hK K)|skip
  try simp only[Act.put,za,zb,zc]
  refine wpAnyIn_done (by kernel_rfl) ?_ _
  gi_wp2
  exact HRW.out
 refine AllReadyIn.cons rfl (fun K hK=> ?_) AllReadyIn.nil;go_simp;first|(refine hK _ _ ?_;clear hK K)|skip
 try simp only[Act.put,za,zb,zc]
 refine wpAnyIn_ready (rs:=[0,2]) (by kernel_rfl) (by simp) ?_;refine AllReadyIn.cons rfl (fun K hK=> ?_) ?_
 ·go_simp;first|(refine hK _ _ ?_;clear hK K)|skip
  try simp only[Act.put,za,zb,zc]
  refine wpAnyIn_ready (rs:=[2]) (by kernel_rfl) (by simp) ?_;refine AllReadyIn.cons rfl (fun K hK=> ?_) AllReadyIn.nil;go_simp;refine⟨trivial,?_⟩
  gi_at_call 46
  refine(callsIn_wide.2 (HOW.out _ HBD.out)).mono ?_;rintro e W5 ⟨um,ul,ut,up,uk,rfl,hr2,hb5⟩;obtain⟨c1,m1,r1,c2,m2,r2,c3,m3,r3,c4,m4,r4,c5,m5,r5,rfl,rfl,rfl,rfl,rfl⟩:=hr2.forms5;have hb15:=btr HBD.out hb5;have yc5:=HYB.out W5 hb15;obtain⟨fn,tmps,assign,body,hy,hR⟩:=Dt.yield_wide (m:=m) (HY.out ⟨x,.slice c1 m1 r1,.slice c2 m2 r2,.slice c3 m3 r3,.slice c4 m4 r4,.slice c5 m5 r5⟩ rfl W5 ((btr HB.out hb15)) ⟨Co.Rep.mono (fun k hk _=>Nat.le_trans HB.out.size hk) _ hr2,HWX.out,HSX.out⟩);unfold Co.encC Co.V at hy;dsimp only at hy;clear hb15 hb5 hr2;dsimp only;first|(refine hK _ _ ?_;clear hK K)|skip
  try simp only[Act.put,za,zb,zc]
  refine wpAnyIn_ready (rs:=[3]) (by kernel_rfl) (by simp) ?_;refine AllReadyIn.cons rfl (fun K hK=> ?_) AllReadyIn.nil;go_simp;refine(Dt.round_wide hR).mono ?_;rintro e W6 hRW;obtain⟨b6,rfl⟩:=HBL.out _ _ hRW;have HRW:=zh hRW;clear hR hy hRW;dsimp only;first|(refine hK _ _ ?_;clear hK K)|skip
  try simp only[Act.put,za,zb,zc]
  refine wpAnyIn_ready (rs:=[4]) (by kernel_rfl) (by simp) ?_;refine AllReadyIn.cons rfl (fun K hK=> ?_) AllReadyIn.nil;go_simp;first|(refine hK _ _ ?_;clear hK K)|skip
  try simp only[Act.put,za,zb,zc]
  refine wpAnyIn_done (by kernel_rfl) ?_ _
  gi_wp2
  exact HRW.out
 refine AllReadyIn.cons rfl (fun K hK=> ?_) AllReadyIn.nil;go_simp;refine⟨trivial,?_⟩
 gi_at_call 46
 refine(callsIn_wide.2 (HOW.out _ HBD.out)).mono ?_;rintro e W5 ⟨um,ul,ut,up,uk,rfl,hr2,hb5⟩;obtain⟨c1,m1,r1,c2,m2,r2,c3,m3,r3,c4,m4,r4,c5,m5,r5,rfl,rfl,rfl,rfl,rfl⟩:=hr2.forms5;have hb15:=btr HBD.out hb5;have yc5:=HYB.out W5 hb15;obtain⟨fn,tmps,assign,body,hy,hR⟩:=Dt.yield_wide (m:=m) (HY.out ⟨x,.slice c1 m1 r1,.slice c2 m2 r2,.slice c3 m3 r3,.slice c4 m4 r4,.slice c5 m5 r5⟩ rfl W5 ((btr HB.out hb15)) ⟨Co.Rep.mono (fun k hk _=>Nat.le_trans HB.out.size hk) _ hr2,HWX.out,HSX.out⟩);unfold Co.encC Co.V at hy;dsimp only at hy;clear hb15 hb5 hr2;dsimp only;first|(refine hK _ _ ?_;clear hK K)|skip
 try simp only[Act.put,za,zb,zc]
 refine wpAnyIn_ready (rs:=[0]) (by kernel_rfl) (by simp) ?_;refine AllReadyIn.cons rfl (fun K hK=> ?_) AllReadyIn.nil;go_simp;first|(refine hK _ _ ?_;clear hK K)|skip
 try simp only[Act.put,za,zb,zc]
 refine wpAnyIn_ready (rs:=[3]) (by kernel_rfl) (by simp) ?_;refine AllReadyIn.cons rfl (fun K hK=> ?_) AllReadyIn.nil;go_simp;refine(Dt.round_wide hR).mono ?_;rintro e W6 hRW;obtain⟨b6,rfl⟩:=HBL.out _ _ hRW;have HRW:=zh hRW;clear hR hy hRW;dsimp only;first|(refine hK _ _ ?_;clear hK K)|skip
 try simp only[Act.put,za,zb,zc]
 refine wpAnyIn_ready (rs:=[4]) (by kernel_rfl) (by simp) ?_;refine AllReadyIn.cons rfl (fun K hK=> ?_) AllReadyIn.nil;go_simp;first|(refine hK _ _ ?_;clear hK K)|skip
 try simp only[Act.put,za,zb,zc]
 refine wpAnyIn_done (by kernel_rfl) ?_ _
 gi_wp2
 exact HRW.out
theorem coSee_any(n l y:Nat){R:Ending→World→Prop}{F:Nat→Prop}(x:Co.C)(vm vl vt vp vk:Value)(w:World)(hW:Co.Wf x)(hS:Co.Snd x)(hR:Co.Rep F w x vm vl vt vp vk)(hy:w.cell? ⟨y,0,none⟩=some (.func (.yield l) #[] #[]))
  (hY:∀p:Co.PC,p.c=x→∀W1,Below w.heap.size w W1→Co.VCF (fun k=>w.heap.size≤k) p W1→YieldAt Fence.wide n Tryz.prog l (Co.encC p) W1 R) (hB:∀e W,R e W→∃b,e= .returned (.bool b)):
  Calls Tryz.prog 45 #[Co.V x vm vl vt vp vk,.pointer (some ⟨y,0,none⟩)] w R:=
 (callsIn_wide (n:=2)).1 (coSee_in n 2 l y (by omega) x vm vl vt vp vk w hW hS hR hy hY hB)
end Go.Proofs.YtfjmlfbohenmfaaGreat
namespace Go.Proofs.YtfjmlfbohenmfaaGreat
open Go.RowKit Go.Maps Go.WideMaps
attribute [local go_sem] Oper.semAt_some
namespace Co
theorem snd_mem:∀(c:C),Snd c→∀x∈parts c,Snd x
 | .mk k n s d p l,h,x,hx=>by
  rw[parts]at hx;rcases List.mem_cons.1 hx with rfl|hx
  ·exact h
  ·exact go l (snd_parts h).2.2 x hx
where go:∀(l:List C),Snds l→∀x∈partsL l,Snd x
 |[],_,x,hx=>by rw[partsL]at hx;cases hx
 |c :: r,h,x,hx=>by
  rw[Snds]at h;rw[partsL]at hx;rcases List.mem_append.1 hx with hx|hx
  ·exact snd_mem c h.1 x hx
  ·exact go r h.2 x hx
theorem all_ok{c:C}(h:outE c=0):openE c=0∧check c (free c [] [])=0∧all c=parts c∧outL c=free c [] []∧Snd c:=by
 unfold outE at h;have h1:openE c=0:=by
  by_cases e:openE c=0
  ·exact e
  ·rw[if_pos e]at h;exact h
 rw[if_neg (by rw[h1];simp)]at h;refine⟨h1,h,?_,?_,?_⟩
 ·unfold all;rw[if_pos ⟨h1,h⟩]
 ·unfold outL;rw[if_neg (by rw[h1];simp)]
 ·have h2:goes true c 1 [] true 0 []=(0,(goes true c 1 [] true 0 []).2):=Prod.ext h1 rfl;exact(goes_snd c h2).1
theorem all_no{c:C}(h:outE c≠0):all c=[]:=by
 unfold all;rw[if_neg];intro h2;apply h;unfold outE;rw[if_neg (by rw[h2.1];simp)];exact h2.2
structure KR(dn:World→Nat→Prop)(w w':World):Prop where
 os:w'.os=w.os
 tape:w'.tape=w.tape
 output:w'.output=w.output
 size:w.heap.size≤w'.heap.size
 bl:∀k,k<w.heap.size→¬dn w k→w'.heap[k]?=w.heap[k]?
 more:∀k,dn w' k→dn w k∨(w.heap.size≤k∧k<w'.heap.size)
theorem KR.keep{dn:World→Nat→Prop}{lb:Nat→Prop}{w w':World}(h:KR dn w w')(hd:∀k,dn w k→lb k):Keep lb w w':=⟨h.os,h.tape,h.output,h.size,fun k hk hn=>h.bl k hk (fun e=>hn (hd k e))⟩
theorem KR.trans{dn:World→Nat→Prop}{a b c:World}(h:KR dn a b)(k:KR dn b c):KR dn a c:=
 ⟨k.os.trans h.os,k.tape.trans h.tape,k.output.trans h.output,Nat.le_trans h.size k.size,fun i hi hd=>(k.bl i (Nat.lt_of_lt_of_le hi h.size) (fun e=>(h.more i e).elim hd (fun e=>by omega))).trans (h.bl i hi hd),fun i hi=>(k.more i hi).elim (fun e=>(h.more i e).imp id (fun e=>⟨e.1,Nat.lt_of_lt_of_le e.2 k.size⟩)) (fun e=> .inr ⟨Nat.le_trans h.size e.1,e.2⟩)⟩
def DSt(dn:World→Nat→Prop)(n:Nat):Prop:=∀A B k,n≤A.heap.size→Below n A B→dn B k→dn A k
theorem KR.of_below{dn:World→Nat→Prop}{n:Nat}(hd:DSt dn n){a b:World}(hn:n≤a.heap.size)(h:Below a.heap.size a b):KR dn a b:=⟨h.os,h.tape,h.output,h.size,fun k hk _=>h.block k hk,fun _k hk=> .inl (hd _ _ _ hn (h.mono hn) hk)⟩
def tell(X ms mb Y l W0:Nat)(dn:World→Nat→Prop)(D0:Nat→Prop)(Wg:Nat)(J Jx:(Nat→Prop)→List PC→World→Prop)(c:C):WE:=
 ⟨X,ms,mb,none,.func (.func 45) #[] #[.pointer (some ⟨Y,0,none⟩)],fun k=>D0 k∨Wg≤k,
  fun pre W=>(∃ys:List PC,ys.map PC.c=pre∧J (fun k=>k=X∨k=ms∨k=mb) ys W)∧W.cell? ⟨Y,0,none⟩=some (.func (.yield l) #[] #[])∧W0≤W.heap.size∧Wg≤W.heap.size∧∀k,dn W k→(D0 k∨Wg≤k)∧k<W.heap.size,
  fun pre W=>(∃ys:List PC,ys.map PC.c=pre∧Jx (fun k=>k=X∨k=ms∨k=mb) ys W)∧W0≤W.heap.size,parts c,W0,dn⟩
def VCD(dn:World→Nat→Prop)(lo:Nat)(O:Nat→Prop)(p:PC)(W:World):Prop:=VCF (fun k=>lo≤k∧¬dn W k∧¬O k) p W
theorem tell_ok{X ms mb Y l nY N Wg:Nat}{dn:World→Nat→Prop}{D0:Nat→Prop}{J Jx:(Nat→Prop)→List PC→World→Prop}{c:C}{w:World}(hlb:∀k,D0 k→k<w.heap.size)(hst:DSt dn w.heap.size)(hJ:∀(O:Nat→Prop) s A B,(∀k,O k→w.heap.size≤k)→J O s A→w.heap.size≤A.heap.size→Keep O A B→J O s B)(hJx:∀(O:Nat→Prop) s A B,(∀k,O k→w.heap.size≤k)→Jx O s A→w.heap.size≤A.heap.size→Keep O A B→Jx O s B)
  (hY : ∀ (O : Nat → Prop) pre x W1, (∀ k, O k → w.heap.size ≤ k ∧ k < W1.heap.size) → J O pre W1 → VCD dn w.heap.size O x W1 → pre.length < N → YieldAt Fence.wide nY Tryz.prog l (encC x) W1 fun e W' =>
   (e= .returned (.bool true)∧J O (pre++[x]) W'∧KR dn W1 W')∨(e= .returned (.bool false)∧Jx O (pre++[x]) W'∧KR dn W1 W'))
  (hN:(parts c).length≤N) (hS:Snd c) (hY0:w.heap.size≤Y) (hX:Y<X) (hs:Y<ms) (hb:Y<mb) (hXg:X<Wg) (hsg:ms<Wg) (hbg:mb<Wg) (sb:ms≠mb) (xs:X≠ms) (xb:X≠mb):(tell X ms mb Y l w.heap.size dn D0 Wg J Jx c).Ok:=by
 have hown:∀k,(tell X ms mb Y l w.heap.size dn D0 Wg J Jx c).own k→Y<k∧k<Wg:=fun k h=>by
  rcases h with rfl|rfl|rfl|h
  ·exact⟨hX,hXg⟩
  ·exact⟨hs,hsg⟩
  ·exact⟨hb,hbg⟩
  ·cases h
 have hO:∀k,(k=X∨k=ms∨k=mb)→w.heap.size≤k:=fun k h=>by omega
 have hOk:∀A B,Keep (tell X ms mb Y l w.heap.size dn D0 Wg J Jx c).own A B→Keep (fun k=>k=X∨k=ms∨k=mb) A B:=fun A B h=>h.le fun k h=>by
  rcases h with h|h|h|h
  ·exact .inl h
  ·exact .inr (.inl h)
  ·exact .inr (.inr h)
  ·cases h
 have hbel:∀A B,w.heap.size≤A.heap.size→Keep (tell X ms mb Y l w.heap.size dn D0 Wg J Jx c).own A B→Below w.heap.size A B:=fun A B h hk=>hk.to_below (fun k h=>by have:=hown k h;omega) h
 refine⟨sb,nofun,nofun,xs,xb,nofun,fun k h h2=> ?_,?_,?_,?_,?_,.inr ⟨_,_,rfl,enters_of Tryz.func45 (by kernel_rfl) rfl,?_⟩⟩
 ·have:=hown k h;rcases h2 with h2|h2
  ·have:=hlb k h2;omega
  ·omega
 ·rintro s W k ⟨-,-,-,-,h⟩ - hk;exact(h k hk).2
 ·intro A B k hl hk hd;exact hst A B k hl (hbel A B hl hk) hd
 ·rintro s A B ⟨⟨ys,h1,h2⟩,h3,h4,h5,h6⟩ hk;refine⟨⟨ys,h1,hJ _ _ _ _ hO h2 h4 (hOk A B hk)⟩,?_,Nat.le_trans h4 hk.size,Nat.le_trans h5 hk.size,fun k hd=> ?_⟩
  ·exact(hk.cell 0 (block_lt_of_cell h3) (fun h=>Nat.lt_irrefl _ (hown Y h).1)).trans h3
  ·have h7:=h6 k (hst A B k h4 (hbel A B h4 hk) hd);exact⟨h7.1,Nat.lt_of_lt_of_le h7.2 hk.size⟩
 ·rintro s A B ⟨⟨ys,h1,h2⟩,h4⟩ hk;exact⟨⟨ys,h1,hJx _ _ _ _ hO h2 h4 (hOk A B hk)⟩,Nat.le_trans h4 hk.size⟩
 ·rintro G pre x vm vl vt vp vk W ⟨⟨ys,h1,h2⟩,h3,h4,h5,h6⟩ hpre hWx hRx hGx;have hmem:x∈parts c:=List.IsPrefix.subset hpre (List.mem_append_right _ (List.mem_singleton_self x));have hlen:ys.length<N:=by
   have h5:=List.IsPrefix.length_le hpre;have h6:ys.length=pre.length:=by rw[←h1,List.length_map]
   have h7:(tell X ms mb Y l w.heap.size dn D0 Wg J Jx c).tot=parts c:=rfl;rw[h7,List.length_append,List.length_singleton]at h5;omega
  have hkd:∀W',KR dn W W'→KD (tell X ms mb Y l w.heap.size dn D0 Wg J Jx c) W W':=fun W' h=>⟨h.size,fun k hk _ hd=>h.bl k hk hd,fun k hk=>(h.more k hk).imp id (fun e=>e.1)⟩
  have hkl:∀W',KR dn W W'→Keep (tell X ms mb Y l w.heap.size dn D0 Wg J Jx c).lb W W':=fun W' h=>h.keep (fun k hk=>(h6 k hk).1)
  have hjj:∀W',KR dn W W'→∀k,dn W' k→(D0 k∨Wg≤k)∧k<W'.heap.size:=fun W' h k hk=>(h.more k hk).elim (fun e=>⟨(h6 k e).1,Nat.lt_of_lt_of_le (h6 k e).2 h.size⟩) (fun e=>⟨.inr (Nat.le_trans h5 e.1),e.2⟩)
  have hyy:∀W',KR dn W W'→W'.cell? ⟨Y,0,none⟩=some (.func (.yield l) #[] #[]):=fun W' h=>((hkl W' h).cell 0 (block_lt_of_cell h3) (fun h=>h.elim (fun h=>by have:=hlb Y h;omega) (fun h=>absurd (show Wg≤Y from h) (by omega)))).trans h3
  refine(coSee_any nY l Y (R:=fun e W'=>∃p:PC,p.c=x∧((e= .returned (.bool true)∧J (fun k=>k=X∨k=ms∨k=mb) (ys++[p]) W'∧KR dn W W')∨(e= .returned (.bool false)∧Jx (fun k=>k=X∨k=ms∨k=mb) (ys++[p]) W'∧KR dn W W'))) x vm vl vt vp vk W hWx (snd_mem c hS x hmem) hRx h3 ?_ ?_).mono ?_
  ·intro p hp W1 hb1 hv;obtain⟨fn,tmps,assign,body,g1,g2⟩:=hY _ ys p W1 (fun k hk=>⟨hO k hk,by have:=hb1.size;omega⟩) (hJ _ _ _ _ hO h2 h4 (keep_of_below hb1)) (VCF.mono hv (fun k hk _=>⟨Nat.le_trans h4 hk,fun e=>by have:=(h6 k (hst W W1 k h4 (hb1.mono h4) e)).2;omega,fun e=>by have:=h5;omega⟩)) hlen;refine⟨fn,tmps,assign,body,g1,g2.mono ?_⟩;rintro e W2 (⟨g3,g4,g5⟩|⟨g3,g4,g5⟩)
   ·exact⟨p,hp,.inl ⟨g3,g4,(KR.of_below hst h4 hb1).trans g5⟩⟩
   ·exact⟨p,hp,.inr ⟨g3,g4,(KR.of_below hst h4 hb1).trans g5⟩⟩
  ·rintro e W2 ⟨p,-,⟨h,-⟩|⟨h,-⟩⟩
   ·exact⟨_,h⟩
   ·exact⟨_,h⟩
  ·rintro e W2 ⟨p,hp,⟨g1,g2,g3⟩|⟨g1,g2,g3⟩⟩
   ·exact .inl ⟨g1,⟨⟨ys++[p],by rw[List.map_append,h1,List.map_singleton,hp],g2⟩,hyy W2 g3,Nat.le_trans h4 g3.size,Nat.le_trans h5 g3.size,hjj W2 g3⟩,hkl W2 g3,hkd W2 g3⟩
   ·exact .inr ⟨g1,⟨⟨ys++[p],by rw[List.map_append,h1,List.map_singleton,hp],g2⟩,Nat.le_trans h4 g3.size⟩,hkl W2 g3,hkd W2 g3⟩
end Co
theorem coAll1_any(nY:Nat){N l:Nat}{dn:World→Nat→Prop}{J Jx:(Nat→Prop)→List Co.PC→World→Prop}{w:World}(hlb:∀k,dn w k→k<w.heap.size)(hst:Co.DSt dn w.heap.size)(hJ:∀(O:Nat→Prop) s A B,(∀k,O k→w.heap.size≤k)→J O s A→w.heap.size≤A.heap.size→Keep O A B→J O s B)(hJx:∀(O:Nat→Prop) s A B,(∀k,O k→w.heap.size≤k)→Jx O s A→w.heap.size≤A.heap.size→Keep O A B→Jx O s B)
  (hY : ∀ (O : Nat → Prop) pre x W1, (∀ k, O k → w.heap.size ≤ k ∧ k < W1.heap.size) → J O pre W1 → Co.VCD dn w.heap.size O x W1 → pre.length < N → YieldAt Fence.wide nY Tryz.prog l (Co.encC x) W1 fun e W' =>
   (e= .returned (.bool true)∧J O (pre++[x]) W'∧Co.KR dn W1 W')∨(e= .returned (.bool false)∧Jx O (pre++[x]) W'∧Co.KR dn W1 W'))
  {F:Nat→Prop} (c:Co.C) (vm vl vt vp vk:Value) (hW:Co.Wf c) (hR:Co.Rep F w c vm vl vt vp vk) (hF:∀k,F k→¬dn w k) (db:Nat) (hd:Co.Bc w db c vm vl vt vp vk) (hJ0:∀O:Nat→Prop,(∀k,O k→w.heap.size≤k)→J O [] w) (hN:(Co.all c).length≤N):
  Calls Tryz.prog 43 #[.func (.yield l) #[] #[],.pointer (some ⟨db,0,none⟩)] w fun e w'=>(∃v,e= .returned v)∧((∃(O:Nat→Prop) (xs:List Co.PC),xs.map Co.PC.c=Co.all c∧J O xs w')∨(∃(O:Nat→Prop) (xs:List Co.PC),xs.map Co.PC.c<+:Co.all c∧Jx O xs w')):=by
 obtain⟨w1,hw1⟩:∃w1,w.alloc (.cells #[.func (.yield l) #[] #[]] 75)=w1:=⟨_,rfl⟩
 obtain⟨hb1,hs1⟩:=new_below hw1;have hy1:=(Hp.new hw1).cell 0 rfl;have hdl:=hd.lt;have hd1:Co.Bc w1 db c vm vl vt vp vk:=hd.keep (S:=fun _=>False) (keep_of_below hb1) id;have ho:=outC_any c vm vl vt vp vk w1 hW (hR.below hb1);unfold Co.V at ho;obtain⟨E,hE⟩:∃E,E=Co.outE c:=⟨_,rfl⟩
 rw[←hE]at ho;have HE:=zh hE;have HD1:=zh hd1;have HB1:=zh hb1;have HY1:=zh hy1;have HJ:=zh hJ;have HJX:=zh hJx;have HYY:=zh hY;have HR:=zh hR;have HWF:=zh hW;have HF:=zh hF;have HLB:=zh hlb;have HST:=zh hst;have HJ0:=zh hJ0;have HS1:=zh hs1;have HDL:=zh hdl;have HNN:=zh hN;have hd1':Hp _ _ _ _:=hd1;have HD1':=zh hd1';have d0:=HD1'.out.cell 0 rfl;have d1:=HD1'.out.cell 1 rfl;have d2:=HD1'.out.cell 2 rfl;have d3:=HD1'.out.cell 3 rfl;have d4:=HD1'.out.cell 4 rfl;have d5:=HD1'.out.cell 5 rfl;have d6:=HD1'.out.cell 6 rfl;have d7:=HD1'.out.cell 7 rfl;have d8:=HD1'.out.cell 8 rfl;have d9:=HD1'.out.cell 9 rfl;have d10:=HD1'.out.cell 10 rfl;clear hb1 hs1 hy1 hdl hd1 hd1' hE hJ hJx hY hR hW hF hlb hst hJ0 hN hd;go_enter Tryz.func43,Tryz.ntmps43;go_wp2_with fail
 refine ho.mono ?_;rintro e w2 ⟨vf,rfl,hvf,hb2⟩;have HB2:=zh ((btr HB1.out hb2));have HB12:=zh hb2;have HD2:Hid (Hp w2 db _ _):=HD1'.out.below hb2;obtain⟨af,qf,rfl,hqf,hrf⟩:=hvf;have HVF:Hid (Dt.IRow (fun k=>w1.heap.size≤k) w2 (.slice af (Co.outL c).length qf) (Co.outL c)):=⟨af,qf,rfl,hqf,hrf⟩
 clear d0 d1 d2 d3 d4 d5 d6 d7 d8 d9 d10;clear ho hw1 hb2 hrf;by_cases hz:E=0
 case neg=>
  have hzb:(E !=0)=true:=by simpa using hz
  have HA:Hid (Co.all c=[]∧J (fun _=>False) [] w2):=⟨Co.all_no (by rw[←HE.out];exact hz),HJ.out _ _ _ _ (fun _ h=>h.elim) (HJ0.out _ (fun _ h=>h.elim)) (Nat.le_refl _) (keep_of_below HB2.out)⟩
  clear hz;go_wp2;refine bodyPost_ret (results_none rfl _ _ _) rfl ?_;exact⟨⟨_,rfl⟩,.inl ⟨_,[],by rw[HA.out.1];rfl,HA.out.2⟩⟩
 have hzb:(E !=0)=false:=by simpa using hz
 obtain⟨f1,f2,f3,f4,f5⟩:=Co.all_ok (HE.out.symm.trans hz);obtain⟨p1,p2,p3,p4⟩:=Co.free_facts f1 HWF.out;have hfr:=fresh_any (.slice af (Co.outL c).length qf) (Co.outL c) w2 HVF.out (by rw[f4];omega) (by rw[f4];exact p2);have HF2:=zh f2;have HF3:=zh f3;have HF4:=zh f4;have HF5:=zh f5;clear hz f1 f2 f3 f4 f5 p1 p2 p3 p4;go_wp2_with fail
 refine hfr.mono ?_;rintro e w3 ⟨X,ms,mb,rfl,hf⟩;obtain⟨w4,hw4⟩:∃w4,w3.setCell ⟨X,4,none⟩ (.func (.func 45) #[] #[.pointer (some ⟨w.heap.size,0,none⟩)])=w4:=⟨_,rfl⟩
 have k34:Keep (fun k=>k=X) w3 w4:=by rw[←hw4];exact set_keep _ _ _ _
 have hsz12:=HB12.out.size;have hs1:=HS1.out;have hX:=hf.lX;have hms:=hf.ls;have hmb:=hf.lb;have hw4s:w4.heap.size=w3.heap.size:=by rw[←hw4];exact World.size_setCell _ _ _
 have hXg:X<w4.heap.size:=by rw[hw4s];exact hf.hp.lt
 have hsg:ms<w4.heap.size:=by rw[hw4s];exact hf.hs.lt
 have hbg:mb<w4.heap.size:=by rw[hw4s];exact hf.hb.lt
 have hok:=Co.tell_ok (X:=X) (ms:=ms) (mb:=mb) (Y:=w.heap.size) (c:=c) (Wg:=w4.heap.size) (D0:=dn w) HLB.out HST.out HJ.out HJX.out HYY.out (by rw[←HF3.out];exact HNN.out) HF5.out (Nat.le_refl _) (by omega) (by omega) (by omega) hXg hsg hbg hf.sb hf.xs hf.xb;have hx4:Hp w4 X #[.int .i64 0,.map (some ms),.map (some mb),.map none,.func (.func 45) #[] #[.pointer (some ⟨w.heap.size,0,none⟩)],.bool false] 81:=by rw[←hw4];exact hf.hp.set 4 _
 have hb24:Below w2.heap.size w2 w4:=hf.kp.trans (k34.to_below (fun k e=>by omega) hf.kp.size);have hb04:Below w.heap.size w w4:=btr HB2.out hb24;have hwk:Co.Wk (Co.tell X ms mb w.heap.size l w.heap.size dn (dn w) w4.heap.size J Jx c) w4 0 false (Co.outL c).contains (Co.outL c).contains (fun _=>false) (Co.outL c).length:=
  ⟨hx4,hf.hs.keep k34 (fun e=>hf.xs e.symm),hf.hb.keep k34 (fun e=>hf.xb e.symm),nofun,hb04.size⟩
 have hown:∀k,(Co.tell X ms mb w.heap.size l w.heap.size dn (dn w) w4.heap.size J Jx c).own k→w.heap.size<k:=fun k h=>by
  rcases h with h|h|h|h
  ·have h:k=X:=h;omega
  ·have h:k=ms:=h;omega
  ·have h:k=mb:=h;omega
  ·cases h
 have hR1:Co.Rep (fun k=>k<w.heap.size∧¬dn w k) w4 c vm vl vt vp vk:=(Co.Rep.mono (fun b hb hl=>⟨hl,HF.out b hb⟩) c HR.out).below hb04;have hy4:w4.cell? ⟨w.heap.size,0,none⟩=some (.func (.yield l) #[] #[]):=by
  have h1:w2.cell? ⟨w.heap.size,0,none⟩=_:=(HB12.out.cell (p:=⟨w.heap.size,0,none⟩) (by show w.heap.size<w1.heap.size;omega)).trans HY1.out;exact(hb24.cell (p:=⟨w.heap.size,0,none⟩) (by show w.heap.size<w2.heap.size;omega)).trans h1
 have hln:(Co.outL c).length≤8192:=by
  rw[HF4.out];exact(Co.free_facts (Co.all_ok (HE.out.symm.trans (by simpa using hzb))).1 HWF.out).1
 have hgo:=coGoes_any (Co.tell X ms mb w.heap.size l w.heap.size dn (dn w) w4.heap.size J Jx c) hok c (fun k=>k<w.heap.size∧¬dn w k) vm vl vt vp vk w4 1 (Co.outL c) true 0 (Co.outL c) (Co.outL c).contains (Co.outL c).contains (fun _=>false) (Co.outL c).length [] HWF.out hR1 (fun k hk h=>h.elim (fun h=>by have:=hown k h;omega) (fun h=>h.elim hk.2 (fun h=>by have:=hk.1;have:=hb04.size;omega))) (by omega) hwk (by omega) (by omega) (fun x=>rfl) (fun x=>rfl) (fun x h=>h) ⟨⟨[],rfl,HJ.out _ _ _ _ (fun k h=>by omega) (HJ0.out _ (fun k h=>by omega)) (Nat.le_refl _) (keep_of_below hb04)⟩,hy4,hb04.size,Nat.le_refl _,fun k hk=>by have h:=HST.out w w4 k (Nat.le_refl _) hb04 hk;exact⟨.inl h,by have:=HLB.out k h;have:=hb04.size;omega⟩⟩ (List.prefix_refl _);unfold Co.V at hgo;have hgo':Calls Tryz.prog 36 #[.pointer (some ⟨X,0,none⟩),.agg #[.int .i64 c.k,.int .i64 c.n,.string c.s,.int .i64 c.d.k,.int .i64 c.d.n,.string c.d.s,vm,vl,vt,vp,vk],.int .i64 1,.bool true] w4 _:=hgo;have HD4:Hid (Hp w4 db _ _):=(HD2.out.below hb24)
 have x4:=hf.hp.cell 4 rfl;have xf4:=hf.hp.frz 4;obtain⟨d0,d1,d2,d3,d4,d5,d6,d7,d8,d9,d10⟩:=HD4.out.c11;clear hfr hf k34 hX hms hmb hw4s hXg hsg hbg hok hx4 hb24 hb04 hwk hown hR1 hy4 hgo hsz12 hs1 hln;go_wp2_with fail
 refine hgo'.mono ?_;rintro e w5 ⟨r,cnt',dn',sc',bd',fr',n',rfl,-,-,-,-,h⟩;have HFIN:Hid ((∃(O:Nat→Prop) (xs:List Co.PC),xs.map Co.PC.c=Co.all c∧J O xs w5)∨(∃(O:Nat→Prop) (xs:List Co.PC),xs.map Co.PC.c<+:Co.all c∧Jx O xs w5)):=by
  rw[HF3.out];rcases h with⟨-,hr,h0⟩|⟨-,-,pre,hpre,⟨ys,h1,h2⟩,-⟩
  ·have hr0:r=0:=by
    rw[hr,HF4.out];exact HF2.out
   obtain⟨-,-,-,-,⟨ys,h1,h2⟩,-⟩:=h0 hr0;exact .inl ⟨_,ys,h1,h2⟩
  ·exact .inr ⟨_,ys,by rw[h1];exact hpre,h2⟩
 clear hgo' h hw4 x4 xf4;clear d0 d1 d2 d3 d4 d5 d6 d7 d8 d9 d10;go_wp2;first|go_end0|go_ret2
 exact⟨⟨_,rfl⟩,HFIN.out⟩
theorem coAll_any(c:Co.C)(vm vl vt vp vk:Value)(w:World):
  Calls Tryz.prog 17 #[Co.V c vm vl vt vp vk] w fun e w'=>e= .returned (.func (.func 43) #[] #[.pointer (some ⟨w.heap.size,0,none⟩)])∧Below w.heap.size w w'∧Co.Bc w' w.heap.size c vm vl vt vp vk∧w.heap.size<w'.heap.size:=by
 unfold Co.V;obtain⟨w1,hw1⟩:∃w1,w.alloc (.cells #[.int .i64 c.k,.int .i64 c.n,.string c.s,.int .i64 c.d.k,.int .i64 c.d.n,.string c.d.s,vm,vl,vt,vp,vk] 28)=w1:=⟨_,rfl⟩
 obtain⟨hb1,hs1⟩:=new_below hw1;have hbc:Co.Bc w1 w.heap.size c vm vl vt vp vk:=Hp.new hw1;have hz:w.heap.size<w1.heap.size:=by omega
 go_enter Tryz.func17,Tryz.ntmps17;go_wp2;go_ret;exact⟨rfl,hb1,hbc,hz⟩
theorem coAll_stopsD(n:Nat){F:Nat→Prop}(c:Co.C)(vm vl vt vp vk:Value)(w0:World)(dn:World→Nat→Prop)(db:Nat)(hst:Co.DSt dn w0.heap.size)(hRz:∀k,dn w0 k→k<w0.heap.size+2)(hW:Co.Wf c)(hR:Co.Rep F w0 c vm vl vt vp vk)(hF:∀k,F k→k<w0.heap.size∧¬dn w0 k)(hd:Co.Bc w0 db c vm vl vt vp vk):
  Rb.SeqStopsO Fence.wide n Tryz.prog 43 #[.pointer (some ⟨db,0,none⟩)] Co.encC (Co.KR dn) (Co.VCD dn w0.heap.size) (fun xs=>xs.map Co.PC.c=Co.all c) (fun xs=>xs.map Co.PC.c<+:Co.all c) (Co.all c).length w0:=by
 intro l J Jx W hW0 hz hJ hJx hY h0;have hdw:∀k,dn W k→dn w0 k:=fun k hk=>hst w0 W k (Nat.le_refl _) hW0 hk
 have h:=coAll1_any (n - 1) (N:=(Co.all c).length) (l:=l) (dn:=dn) (J:=J) (Jx:=Jx) (w:=W) (fun k hk=>by have:=hRz k (hdw k hk);omega) (fun A B k hl hb hk=>hst A B k (Nat.le_trans hW0.size hl) (hb.mono hW0.size) hk) hJ hJx (fun O pre x W1 hO h1 h2 h3=>hY O pre x W1 hO h1 (Co.VCF.mono h2 (fun k hk _=>⟨Nat.le_trans hW0.size hk.1,hk.2⟩)) h3) (F:=F) c vm vl vt vp vk hW (hR.below hW0)
  (fun k hk h=>(hF k hk).2 (hdw k h)) db (hd.keep (S:=fun _=>False) (keep_of_below hW0) id) h0 (Nat.le_refl _)
 exact(callsIn_wide.2 h).mono (fun e w' h=>⟨h.1,h.2⟩)
theorem coAll_stops(n:Nat){F:Nat→Prop}(c:Co.C)(vm vl vt vp vk:Value)(w0:World)(R:Nat→Prop)(db:Nat)(hRz:∀k,R k→k<w0.heap.size)(hW:Co.Wf c)(hR:Co.Rep F w0 c vm vl vt vp vk)(hF:∀k,F k→k<w0.heap.size∧¬R k)(hd:Co.Bc w0 db c vm vl vt vp vk):
  Rb.SeqStopsB Fence.wide n Tryz.prog 43 #[.pointer (some ⟨db,0,none⟩)] Co.encC (Keep fun k=>R k∨k=w0.heap.size+1) Co.VC (fun xs=>xs.map Co.PC.c=Co.all c) (fun xs=>xs.map Co.PC.c<+:Co.all c) (Co.all c).length w0:=by
 have h:=coAll_stopsD n c vm vl vt vp vk w0 (fun _ k=>R k∨k=w0.heap.size+1) db (fun _ _ _ _ _ h=>h) (fun k hk=>by rcases hk with h|h;have:=hRz k h;omega;omega) hW hR (fun k hk=>⟨(hF k hk).1,fun h=>by have:=hF k hk;rcases h with h|h;exact this.2 h;omega⟩) hd;intro l J Jx W hW0 hz hJ hJx hY h0;have hc:∀A B,Keep (fun k=>R k∨k=w0.heap.size+1) A B→Co.KR (fun _ k=>R k∨k=w0.heap.size+1) A B:=fun A B k=>⟨k.os,k.tape,k.output,k.size,fun i hi hn=>k.block i hi hn,fun i hi=> .inl hi⟩
 refine(h l (fun _=>J) (fun _=>Jx) W hW0 hz (fun O s A B hO h1 hle hk=>hJ s A B h1 hle (hk.to_below hO hle)) (fun O s A B hO h1 hle hk=>hJx s A B h1 hle (hk.to_below hO hle)) (fun O pre x W1 hO h1 h2 h3=> ?_) (fun _ _=>h0)).mono ?_
 case refine_2=>
  rintro e w' ⟨h1,⟨O,xs,h2⟩|⟨O,xs,h2⟩⟩
  ·exact⟨h1,.inl ⟨xs,h2⟩⟩
  ·exact⟨h1,.inr ⟨xs,h2⟩⟩
 obtain⟨fn,tmps,assign,body,g1,g2⟩:=hY pre x W1 h1 (Co.VCF.mono (G:=fun _=>True) h2 (fun _ _ _=>trivial)) h3;refine⟨fn,tmps,assign,body,g1,g2.mono ?_⟩;rintro e W2 (⟨g3,g4,g5⟩|⟨g3,g4,g5⟩)
 ·exact .inl ⟨g3,g4,hc _ _ g5⟩
 ·exact .inr ⟨g3,g4,hc _ _ g5⟩
end Go.Proofs.YtfjmlfbohenmfaaGreat
namespace Go.Proofs.YtfjmlfbohenmfaaGreat
open Go.RowKit Go.Shelf Go.Maps Go.WideMaps
attribute [local go_sem] Oper.semAt_some
namespace Co
def setsOf(l:List C):List Int:=l.flatMap fun x=>if x.k=4 then [x.n]else []
def setV(c:C):List Int:=puts (setsOf (all c))
theorem setsOf_app(a b:List C):setsOf (a++b)=setsOf a++setsOf b:=by unfold setsOf;rw[List.flatMap_append]
theorem all_len(c:C):(all c).length≤8192:=by
 by_cases h:outE c=0
 ·obtain⟨h1,-,h3,-,-⟩:=all_ok h;rw[h3];have h2:goes true c 1 [] true 0 []=(0,(goes true c 1 [] true 0 []).2):=Prod.ext h1 rfl;obtain⟨g1,g2⟩:=goes_count c h2;omega
 ·rw[all_no h];simp
def SI(w:World)(Bx m:Nat)(pre:List PC)(W:World):Prop:=Boxed W Bx 79 (.map (some m))∧Set_ W m pre.length (setsOf (pre.map PC.c)).contains∧Below w.heap.size w W
theorem set_grown{W W':World}{row:Option Nat}{m n:Nat}{q:Int→Bool}(h:Set_ W m n q)(hg:W.grownBy W' row)(hne:some m≠row):Set_ W' m n q:=Vm.Mp.heap h (hg.block m (Vm.Mp.lt h) hne)
theorem SI.grown{w W W':World}{Bx m B:Nat}{pre:List PC}{row:Option Nat}(h:SI w Bx m pre W)(hw:w.heap.size≤B)(hR:Bx<B)(hm:m<B)(hg:W.grownBy W' row)(hr:∀r,row=some r→B≤r):SI w Bx m pre W':=
 ⟨h.1.kept hg (fun e=>by have:=hr Bx e.symm;omega),set_grown h.2.1 hg (fun e=>by have:=hr m e.symm;omega),Cd.below_grown h.2.2 hw hg hr⟩
def SAx(w:World)(Bx m:Nat)(tm:Nat→PC→Array Value)(pre:List PC)(x:PC)(a':Act)(W:World):Prop:=
 SI w Bx m pre W∧Wf x.c∧∃Xb,Bc W Xb x.c x.vm x.vl x.vt x.vp x.vk∧a'= {tmps:=tm Xb x,defers:=[]}
end Co
theorem setC_any{F:Nat→Prop}(c:Co.C)(vm vl vt vp vk:Value)(w:World)(hW:Co.Wf c)(hR:Co.Rep F w c vm vl vt vp vk):
  Calls Tryz.prog 18 #[Co.V c vm vl vt vp vk] w fun e w'=>∃v,e= .returned v∧Dt.IRow (fun k=>w.heap.size≤k) w' v (Co.setV c)∧Below w.heap.size w w':=by
 unfold Co.V;obtain⟨w1,hw1⟩:∃w1,w.alloc (.cells #[.int .i64 c.k,.int .i64 c.n,.string c.s,.int .i64 c.d.k,.int .i64 c.d.n,.string c.d.s,vm,vl,vt,vp,vk] 28)=w1:=⟨_,rfl⟩
 obtain⟨w2,hw2⟩:∃w2,w1.alloc (.map #[] 0)=w2:=⟨_,rfl⟩
 obtain⟨m,hm⟩:∃m,w1.heap.size=m:=⟨_,rfl⟩
 obtain⟨w3,hw3⟩:∃w3,w2.alloc (.cells #[.map (some m)] 79)=w3:=⟨_,rfl⟩
 obtain⟨Bx,hBx⟩:∃Bx,w2.heap.size=Bx:=⟨_,rfl⟩
 obtain⟨hb1,hs1⟩:=new_below hw1;obtain⟨hb2,hs2⟩:=new_below hw2;obtain⟨hb3,hs3⟩:=new_below hw3;have hc3:Hp w3 w.heap.size _ _:=((Hp.new hw1).below hb2).below hb3;have hst:=Co.Set_.made w1;rw[hw2,hm]at hst;have hbx:=Boxed.new w2 79 (.map (some m));rw[hw3,hBx]at hbx;have hb03:Below w.heap.size w w3:=hb1.trans ((hb2.mono (by omega)).trans (hb3.mono (by omega)));have HB3:=zh hb03;have HST:=zh (hst.below hb3);have HBX:=zh hbx;have HSZ:Hid (m=w.heap.size+1∧Bx=w.heap.size+2∧w3.heap.size=w.heap.size+3):=⟨by omega,by omega,by omega⟩
 have hal:=coAll_any c vm vl vt vp vk w3;unfold Co.V at hal;have Hc:=zh hc3;have HR:=zh hR;have HWF:=zh hW;obtain⟨c0,c1,c2,c3,c4,c5,c6,c7,c8,c9,c10⟩:=Hc.out.c11;have HLIM:=zh (Co.all_len c);clear hb1 hs1 hb2 hs2 hb3 hs3 hc3 hst hbx hb03 hW hR;have hmm:=@run_makeMap Tryz.prog;refine(callsIn_wide (n:=12)).1 ?_;refine callsIn_of_wp_marks Tryz.func18 rfl trivial ?_ rfl;simp only[Tryz.ntmps18,List.size_toArray,List.length_cons,List.length_nil,Nat.reduceAdd,Nat.reduceSub,Array.replicate_succ,Array.replicate_zero,List.push_toArray,List.append_toArray,List.nil_append,List.cons_append]
 gi_wp2_with (refine⟨trivial,?_⟩;gi_at_call 17;refine(callsIn_wide.2 hal).mono ?_;clear hal hw1 hw2 hw3 hmm;rintro e W0 ⟨rfl,hb4,hbc4,hz4⟩;have HW0:=zh (btr HB3.out hb4);have HST0:=zh (HST.out.below hb4);have HBX0:Hid (Boxed W0 Bx 79 (.map (some m))):=Cd.boxed_below HBX.out hb4 HBX.out.lt;have HBC4:=zh hbc4;have HZ4:=zh hz4;clear hb4 hbc4 hz4;clear c0 c1 c2 c3 c4 c5 c6 c7 c8 c9 c10)
 obtain⟨Y,hY⟩:∃Y,w3.heap.size=Y:=⟨_,rfl⟩
 have HY:=zh hY;rw[hY]at HBC4 HZ4 ⊢;clear hY;have hwz:w.heap.size≤W0.heap.size:=HW0.out.size;have hRz:=HBX0.out.lt;have hmz:m<W0.heap.size:=HST0.out.lt;have HRP:Hid (Co.Rep (fun k=>k<w.heap.size) W0 c vm vl vt vp vk):=(Co.Rep.mono (fun _ _ h=>h) c HR.out).below HW0.out;refine Rb.wpIn_rangeB (n:=12) rfl (by omega) (gf:=43) (lb:=#[.pointer (some ⟨Y,0,none⟩)]) rfl trivial (enters_of Tryz.func43 (by kernel_rfl) rfl)
  (encs:=Co.encC) (Kp:=Keep fun k=>k=m∨k=W0.heap.size+1) (V:=Co.VC) (S:=fun ys=>ys.map Co.PC.c=Co.all c) (Sp:=fun ys=>ys.map Co.PC.c<+:Co.all c) (N:=(Co.all c).length) (w0:=W0)
  (coAll_stops 11 c vm vl vt vp vk W0 (fun k=>k=m) Y (fun k e=>by omega) HWF.out HRP.out (fun k hk=>⟨by omega,fun e=>by have:=HSZ.out;omega⟩) HBC4.out)
  (fun h k=>h.trans k) (fun W o o' _ _=>Cd.keep_putObj W (W0.heap.size+1) o' (.inr rfl)) (Below.refl _ _) (fun _=>rfl)
  (Co.SI w Bx m) (fun _ _ _=>False)
  (fun pre W W' row h hg hr=>Co.SI.grown h hwz hRz hmz hg (fun r e=>(hr r e).1))
  (fun c pre W W' row h hg hr=>h.elim)
  (fun pre W W' h _ hb=>⟨Cd.boxed_below h.1 hb (by omega),Vm.Mp.heap h.2.1 (hb.block m (by omega)),h.2.2.trans (hb.mono (by omega))⟩)
  (fun c pre W W' h _ hb=>h.elim)
  ⟨HBX0.out,HST0.out.ext (fun x=>rfl),HW0.out⟩
  (Co.SAx w Bx m (fun Xb p=>#[.agg #[.int .i64 c.k,.int .i64 c.n,.string c.s,.int .i64 c.d.k,.int .i64 c.d.n,.string c.d.s,vm,vl,vt,vp,vk],.pointer (some ⟨w.heap.size,0,none⟩),.slice none 0 0,.pointer (some ⟨Bx,0,none⟩),.pointer (some ⟨Xb,0,none⟩),.map (some m),.agg #[.int .i64 c.k,.int .i64 c.n,.string c.s,.int .i64 c.d.k,.int .i64 c.d.n,.string c.d.s,vm,vl,vt,vp,vk],.func (.func 43) #[] #[.pointer (some ⟨Y,0,none⟩)],.agg #[.int .i64 p.c.k,.int .i64 p.c.n,.string p.c.s,.int .i64 p.c.d.k,.int .i64 p.c.d.n,.string p.c.d.s,p.vm,p.vl,p.vt,p.vp,p.vk],undef,undef,undef,undef,undef,undef,undef,undef,undef]))
  (fun pre y a' _ W W' row h hg hr=> ?grown)
  ?assign ?body ?done ?stop
 case grown=>
  obtain⟨h1,h2,Xb,h3,h4⟩:=h;refine⟨h1.grown hwz hRz hmz hg (fun r e=>(hr r e).1),h2,Xb,(hg.block Xb h3.lt (fun e=> ?_)).trans h3,h4⟩;obtain⟨-,o,ho,hc⟩:=hr Xb e.symm;rw[show W.heap[Xb]?=_ from h3]at ho;cases ho;cases hc
 case assign=>
  rintro l pre ⟨pc,pm,pl,pt,pp,pk⟩ W K hT hV hK;have HV:=zh hV;obtain⟨b1,n1,q1,b2,n2,q2,b3,n3,q3,b4,n4,q4,b5,n5,q5,e1,e2,e3,e4,e5⟩:=Co.Rep.forms5 (show Co.Rep (fun _=>True) W pc pm pl pt pp pk from hV.1);subst e1 e2 e3 e4 e5;unfold Co.encC Co.V;dsimp only
  gi_wp2
  refine hK _ _ ?_ ?_ ?_
  ·exact(KeepsOthers.alloc _ _).from _
  ·exact(Keep.refl _ _).alloc _
  exact⟨hT.grown hwz hRz hmz (World.grownBy_alloc W _ none) (by simp),HV.out.2.1,W.heap.size,Hp.new rfl,rfl⟩
 case body=>
  rintro l pre ⟨pc,pm,pl,pt,pp,pk⟩ a' W hl ⟨r,hr⟩ ⟨hT,hV,Xb,hX,rfl⟩ hlt;dsimp only at hX hV ⊢;have hX':Hp W Xb _ _:=hX;have x0:=hX'.cell 0 rfl;have x1:=hX'.cell 1 rfl;have b3:=hT.1.cell;have HT:=zh hT;by_cases h4:pc.k=4
  ·have hb4:(pc.k==4)=true:=by simpa using h4
   obtain⟨⟨hn1,hn2⟩,-⟩:=Co.wf_parts hV;have hlim:pre.length<maxLen:=by
    have:=HLIM.out;unfold maxLen;omega
   obtain⟨w',hput,hs',hk'⟩:=hT.2.1.put hlim hn1 hn2;have HF:Hid (KeepsFrom W0.heap.size W w'∧Keep (fun k=>k=m∨k=W0.heap.size+1) W w'∧Co.SI w Bx m (pre++[⟨pc,pm,pl,pt,pp,pk⟩]) w'):=by
    have hkk:Keep (fun k=>k=m∨k=W0.heap.size+1) W w':=hk'.le fun k e=> .inl e
    refine⟨⟨hk'.size,fun k o hB h _=>(hk'.block k (Array.getElem?_eq_some_iff.1 h).1 (fun e=>by omega)).trans h⟩,hkk,(hk'.block Bx hT.1.lt (fun e=>by have:=HSZ.out;omega)).trans hT.1,?_,HT.out.2.2.trans (hk'.to_below (fun k e=>by have:=HSZ.out;omega) HT.out.2.2.size)⟩;rw[List.length_append];refine hs'.ext fun y=> ?_
    rw[List.map_append,Co.setsOf_app,Bool.eq_iff_iff,Bool.or_eq_true,List.contains_iff_mem,List.contains_iff_mem,List.mem_append,decide_eq_true_eq];refine or_congr Iff.rfl ?_;unfold Co.setsOf;simp[h4]
   clear hT hV hX hX' h4 hs' hk' hlim
   gi_wp2
   exact HF.out
  ·have hb4:(pc.k==4)=false:=by simpa using h4
   have HF:Hid (Co.SI w Bx m (pre++[⟨pc,pm,pl,pt,pp,pk⟩]) W):=by
    refine⟨hT.1,?_,hT.2.2⟩;rw[List.length_append];refine(hT.2.1.mono (Nat.le_succ _)).ext fun y=> ?_
    rw[List.map_append,Co.setsOf_app];unfold Co.setsOf;simp[h4]
   clear hT hV hX hX' h4
   gi_wp2
   exact⟨KeepsFrom.refl _ _,Keep.refl _ _,HF.out⟩
 case done=>
  rintro D ys W hD hS hI hK;have b3:=hI.1.cell;have hke:=keysI_any (some m) W;have hset:=hI.2.1;rw[hS]at hset;have hl:ys.length=(Co.all c).length:=by rw[←hS,List.length_map]
  have hso:=sortedI_any m ys.length _ (Co.setV c) W hset (Co.puts_sorted _) (fun x=>by rw[Bool.eq_iff_iff,List.contains_iff_mem,List.contains_iff_mem];exact(Co.puts_mem _ x).symm) (by have:=HLIM.out;omega);have hb1:Below W.heap.size W (W.alloc (.cells #[.map (some m)] 79)):=(Below.refl _ _).alloc (Nat.le_refl _) _;have HB1:=zh hb1;have HI:=zh hI;clear hI hset hl hb1 hS
  gi_wp2_with (first
   |(refine⟨trivial,?_⟩;gi_at_call 48;refine(callsIn_wide.2 hke).mono ?_;rintro e w6 ⟨rfl,rfl⟩)
   |(refine⟨trivial,?_⟩;gi_at_call 47;refine(callsIn_wide.2 hso).mono ?_;rintro e w7 ⟨v,rfl,hrow,-,hb7⟩;have HROW:=zh hrow;have HB7:=zh ((btr HB1.out hb7));clear hrow hb7 hke hso b3)
   |fail)
  have hK7:w7.heap[D]?=some (.deferred (some [])):=(HB7.out.block D (Array.getElem?_eq_some_iff.1 hK).1).trans hK;refine⟨by simp,.inl ⟨_,_,rfl,run_takeDeferred hK7,?_⟩⟩;refine⟨_,results_tmp rfl _ _ _,v,rfl,?_,?_⟩
  ·exact Co.irow_mono (fun b hb _=>by have h2:=HI.out.2.2.size;have h3:=HB1.out.size;omega) (Dt.IRow.of_own (ownsRow_putObj HROW.out _ hK7 rfl))
  ·exact(HI.out.2.2.trans (HB7.out.mono HI.out.2.2.size)).trans (belowK_b (w:=w) (Nat.le_refl _) w7 D _ _ (by omega) hK7 rfl rfl)
 case stop=>
  rintro D c pre W hD hp h hK;exact h.elim
namespace Co
theorem eqlIn_seqC(d:Nat)(f:Fn)(ts lb:Array Value)(w:World):(Op.equalIn (d+1) 38 (.func f ts lb) .nilFunc).run Tryz.prog w= .ok false w:=by
 simp[Op.equalIn,run_underlying Tryz.underlying38]
theorem eql_seqC(f:Fn)(ts lb:Array Value)(w:World):(binOp .eql 38 (.func f ts lb) .nilFunc).run Tryz.prog w= .ok (.bool false) w:=by
 simp only[binOp];simp[Op.equal,Op.maxDepth,eqlIn_seqC 9999 f ts lb w]
def tdn(L Z:Nat)(W:World)(k:Nat):Prop:=k=L∨k=Z∨∃v,W.cell? ⟨L,0,none⟩=some v∧v.ownBlock=some k
theorem tdn_st{L Z n:Nat}(hL:L<n):DSt (tdn L Z) n:=by
 intro A B k hn hb h;rcases h with h|h|⟨v,h1,h2⟩
 ·exact .inl h
 ·exact .inr (.inl h)
 ·exact .inr (.inr ⟨v,(hb.cell (p:=⟨L,0,none⟩) hL).symm.trans h1,h2⟩)
structure TI(w:World)(m:Nat)(O:Nat→Prop)(pre:List PC)(W:World):Prop where
 row:∃v,Boxed W (w.heap.size+1) 26 v∧Rowing W (w.heap.size+2) v pre∧(∀k,v.ownBlock=some k→¬O k)∧∀p∈pre,p.rep (fun k=>w.heap.size+2≤k∧v.ownBlock≠some k∧¬O k) W
 lim:Boxed W w.heap.size 3 (.int .i64 (m:Int))
 bel:Below w.heap.size w W
theorem TI.grown{w W W':World}{m:Nat}{O:Nat→Prop}{pre:List PC}{row:Option Nat}(h:TI w m O pre W)(hg:W.grownBy W' row)(hr:∀r,row=some r→w.heap.size+2≤r∧∃o:Obj,W.heap[r]?=some o∧o.isCells=false):TI w m O pre W':=by
 obtain⟨v,h1,h2,h3,h4⟩:=h.row;have hk:Keep (fun k=>row=some k) W W':=⟨hg.os,hg.tape,hg.output,hg.size,fun k hk hn=>hg.block k hk (fun e=>hn e.symm)⟩
 refine⟨⟨v,h1.kept hg (fun e=>by have:=(hr _ e.symm).1;omega),h2.grown hg (fun r e=>(hr r e).2),h3,fun p hp=> ?_⟩,h.lim.kept hg (fun e=>by have:=(hr _ e.symm).1;omega),Cd.below_grown h.bel (B:=w.heap.size+2) (by omega) hg (fun r e=>(hr r e).1)⟩;exact Rep.mono (fun b hb _=>hb.1) p.c (Rep.keep hk (fun b hb _ e=>by obtain⟨-,o,ho,hc⟩:=hr b e;exact atC_not ho hc hb.2) p.c (rep_at p.c (h4 p hp)))
theorem TI.other{w A B:World}{m:Nat}{O:Nat→Prop}{pre:List PC}(h:TI w m O pre A)(hO:∀k,O k→w.heap.size+2+2≤k)(hk:Keep O A B):TI w m O pre B:=by
 obtain⟨v,h1,h2,h3,h4⟩:=h.row;have hb:Below w.heap.size A B:=hk.to_below (fun k h=>by have:=hO k h;omega) h.bel.size;refine⟨⟨v,(hk.block _ h1.lt (fun e=>by have:=hO _ e;omega)).trans h1,⟨Dt.own_keep h2.row hk h3,fun p hp=> ?_⟩,h3,fun p hp=>Rep.keep hk (fun b hb _=>hb.2.2) p.c (h4 p hp)⟩,(hk.block _ h.lim.lt (fun e=>by have:=hO _ e;omega)).trans h.lim,h.bel.trans hb⟩;exact Rep.mono (fun b hb _=>⟨hb.1,hb.2.1⟩) p.c (Rep.keep hk (fun b hb _=>hb.2.2) p.c (h4 p hp))
def putAll(g:Nat):World→Nat→List Value→World
 |w,_,[]=>w
 |w,o,v :: r=>putAll g (w.setCell ⟨g,o,none⟩ v) (o+1) r
theorem putAll_keep(g:Nat):∀(vs:List Value) (w:World) (o:Nat),Keep (fun k=>k=g) w (putAll g w o vs)
 |[],w,_o=>Keep.refl _ w
 |v :: r,w,o=>(set_keep w g o v).trans (putAll_keep g r _ _)
theorem own_putAll{base size n g cap:Nat}{e:TypeId}:∀(vs zs ys:List Value) (w:World),vs.length=zs.length→w.ownsRow base e size (.slice (some ⟨g,0,none⟩) n cap) n (ys++zs)→
  (putAll g w ys.length vs).ownsRow base e size (.slice (some ⟨g,0,none⟩) n cap) n (ys++vs)
 |[],[],ys,w,_,h=>h
 |[],_ :: _,_,_,hl,_=>by simp at hl
 |_ :: _,[],_,_,hl,_=>by simp at hl
 |v :: vs,z :: zs,ys,w,hl,h=>by
  have h1:=Pt.own_set (v:=v) h;have h2:=own_putAll vs zs (ys++[v]) _ (by simpa using hl) (by simpa using h1);rw[putAll];simpa using h2
theorem store_last{w w5:World}{base g cap:Nat}{v:Value}{ls:List PC}{p:PC}{zs:List Value}{S:Nat→Prop}(h:Rowing w base v ls)(hz:zs.length=11)(hk:Keep S w w5)(hS:∀k,base≤k→S k→v.ownBlock=some k)
  (hown:w5.ownsRow base 28 11 (.slice (some ⟨g,0,none⟩) (ls.length+1) cap) (ls.length+1) (flatC ls++zs)) (hg:v.ownBlock=some g∨w.heap.size≤g) (_hgb:base≤g) (hp:p.rep (fun k=>base≤k∧k<w.heap.size∧v.ownBlock≠some k) w):
  Rowing (putAll g w5 (ls.length*11) p.cells) base (.slice (some ⟨g,0,none⟩) (ls.length+1) cap) (ls++[p]):=by
 have h1:=own_putAll p.cells zs (flatC ls) w5 (by rw[hz];rfl) hown;rw[flatC_length]at h1;have hk2:Keep (fun k=>S k∨k=g) w (putAll g w5 (ls.length*11) p.cells):=(hk.le fun k e=> .inl e).trans ((putAll_keep g p.cells w5 (ls.length*11)).le fun k e=> .inr e);have hno:∀b,base≤b→b<w.heap.size→v.ownBlock≠some b→¬ (S b∨b=g):=fun b h1 h2 h3 h4=>by
  rcases h4 with h4|h4
  ·exact h3 (hS b h1 h4)
  ·rcases hg with hg|hg
   ·rw[h4]at h3;exact h3 hg
   ·omega
 have hng:∀b,b<w.heap.size→v.ownBlock≠some b→(Value.slice (some ⟨g,0,none⟩) (ls.length+1) cap).ownBlock≠some b:=fun b h2 h3 e=>by
  have e:g=b:=by simpa[Value.ownBlock]using e
  rcases hg with hg|hg
  ·rw[e]at hg;exact h3 hg
  ·omega
 refine⟨by rw[List.length_append,flatC_app];exact h1,fun q hq=> ?_⟩;rcases List.mem_append.1 hq with hq|hq
 ·have hr0:q.rep (fun k=>k<w.heap.size∧base≤k∧v.ownBlock≠some k) w:=Rep.mono (fun b hb hl=>⟨hl,hb⟩) q.c (h.rep q hq);exact Rep.mono (fun b hb _=>⟨hb.2.1,hng b hb.1 hb.2.2⟩) q.c (Rep.keep hk2 (fun b hb _=>hno b hb.2.1 hb.1 hb.2.2) q.c hr0)
 ·obtain rfl:q=p:=by simpa using hq
  exact Rep.mono (fun b hb _=>⟨hb.1,hng b hb.2.1 hb.2.2⟩) q.c (Rep.keep hk2 (fun b hb _=>hno b hb.1 hb.2.1 hb.2.2) q.c hp)
theorem cutG(G X:Prop)(m:G→X)(r:G):X:=m r
theorem putAll_eq(g:Nat):∀(vs:List Value) (w:World) (o:Nat),putAll g w o vs=w.setCells g o vs
 |[],_,_=>rfl
 |v :: r,w,o=>by rw[putAll,World.setCells,putAll_eq g r]
theorem setCell_comm{g L:Nat}(hne:g≠L)(w:World)(i j:Nat)(u v:Value):(w.setCell ⟨g,i,none⟩ u).setCell ⟨L,j,none⟩ v=(w.setCell ⟨L,j,none⟩ v).setCell ⟨g,i,none⟩ u:=by
 unfold World.setCell;congr 1;refine Array.ext_getElem? fun k=> ?_
 simp only[Array.getElem?_modify];by_cases h1:g=k
 ·have h2:¬L=k:=fun e=>hne (h1.trans e.symm)
  simp[h1,h2]
 ·by_cases h2:L=k
  ·simp[h1,h2]
  ·simp[h1,h2]
theorem setCells_comm{g L:Nat}(hne:g≠L):∀(vs:List Value) (w:World) (o j:Nat) (v:Value),(w.setCell ⟨L,j,none⟩ v).setCells g o vs=(w.setCells g o vs).setCell ⟨L,j,none⟩ v
 |[],_,_,_,_=>rfl
 |u :: r,w,o,j,v=>by rw[World.setCells,World.setCells,←setCell_comm hne,setCells_comm hne r]
theorem setCells_keep(g:Nat)(vs:List Value)(w:World)(o:Nat):Keep (fun k=>k=g) w (w.setCells g o vs):=by rw[←putAll_eq];exact putAll_keep g vs w o
theorem kr_put{L Z:Nat}(hLZ:L≠Z)(W:World)(o':Obj):KR (tdn L Z) W (W.putObj Z o'):=by
 have hg:=grownBy_putObj' W Z o';refine⟨hg.os,hg.tape,hg.output,hg.size,fun k hk hn=>hg.block k hk (fun e=>by cases e;exact hn (.inr (.inl rfl))),fun k hk=> .inl ?_⟩;rcases hk with h|h|⟨v,h1,h2⟩
 ·exact .inl h
 ·exact .inr (.inl h)
 ·refine .inr (.inr ⟨v,?_,h2⟩);rw[←h1];unfold World.cell?;by_cases hl:L<W.heap.size
  ·rw[hg.block L hl (fun e=>by cases e;exact hLZ rfl)]
  ·have e1:(W.putObj Z o').heap[L]?=W.heap[L]?:=by
    unfold World.putObj;simp[Array.getElem?_eq_none (Nat.le_of_not_lt hl)];omega
   rw[e1]
theorem VCD.grown{L Z lo:Nat}{O:Nat→Prop}{x:PC}{W W':World}{row:Option Nat}(h:VCD (tdn L Z) lo O x W)(hL:L<W.heap.size)(hg:W.grownBy W' row)(hr:∀r,row=some r→L<r∧∃o:Obj,W.heap[r]?=some o∧o.isCells=false):VCD (tdn L Z) lo O x W':=by
 have hk:Keep (fun k=>row=some k) W W':=⟨hg.os,hg.tape,hg.output,hg.size,fun k hk hn=>hg.block k hk (fun e=>hn e.symm)⟩
 have same:∀b,tdn L Z W' b→tdn L Z W b:=fun b hb=>by
  rcases hb with hb|hb|⟨v,h1,h2⟩
  ·exact .inl hb
  ·exact .inr (.inl hb)
  ·exact .inr (.inr ⟨v,(hk.cell 0 hL (fun e=>by have:=(hr _ e).1;omega)).symm.trans h1,h2⟩)
 exact⟨Rep.mono (fun b hb _=>⟨hb.1.1,fun e=>hb.1.2.1 (same b e),hb.1.2.2⟩) _ (Rep.keep hk (fun b hb _ e=>by obtain⟨-,o,ho,hc⟩:=hr b e;exact atC_not ho hc hb.2) _ (rep_at _ h.1)),h.2⟩
theorem rowK_mono{F G:Nat→Prop}{w:World}{v:Value}{l:List C}(hFG:∀b,F b→G b)(h:Row F w v l):Row G w v l:=by
 obtain⟨a,c,e1,e2,e3⟩:=h;refine⟨a,c,e1,e2,fun hn=> ?_⟩;obtain⟨b,o,g1,g2,g3,g4⟩:=e3 hn;exact⟨b,o,g1,hFG b g2,g3,Reps.mono (fun b hb _=>hFG b hb) l g4⟩
theorem take_prefix{α:Type}{pre xs:List α}{m:Nat}(h:pre<+:xs)(hm:m≤pre.length):pre.take m=xs.take m:=by
 obtain⟨r,rfl⟩:=h;rw[List.take_append_of_le_length hm]
def TAx(w:World)(m:Nat)(tm:Nat→PC→Array Value)(O:Nat→Prop)(pre:List PC)(x:PC)(a':Act)(W:World):Prop:=
 (TI w m O pre W∧pre.length≤m)∧(∀k,O k→w.heap.size+2+2≤k∧k<W.heap.size)∧VCD (tdn (w.heap.size+1) (w.heap.size+3)) (w.heap.size+2) O x W∧∃Xb,w.heap.size+2≤Xb∧(∀v,W.cell? ⟨w.heap.size+1,0,none⟩=some v→v.ownBlock≠some Xb)∧Bc W Xb x.c x.vm x.vl x.vt x.vp x.vk∧a'= {tmps:=tm Xb x,defers:=[]}
end Co
theorem coTold_any{F:Nat→Prop}(c:Co.C)(vm vl vt vp vk:Value)(m:Nat)(hm:m≤1048576)(db:Nat)(w:World)(hW:Co.Wf c)(hR:Co.Rep F w c vm vl vt vp vk)(hd:Co.Bc w db c vm vl vt vp vk):
  Calls Tryz.prog 16 #[.func (.func 43) #[] #[.pointer (some ⟨db,0,none⟩)],.int .i64 (m:Int)] w fun e w'=>∃v,e= .returned v∧Co.Row (fun k=>w.heap.size≤k) w' v ((Co.all c).take m)∧Below w.heap.size w w':=by
 refine(callsIn_wide (n:=12)).1 ?_;refine callsIn_of_wp_marks Tryz.func16 rfl trivial ?_ rfl;simp only[Tryz.ntmps16,List.size_toArray,List.length_cons,List.length_nil,Nat.reduceAdd,Nat.reduceSub,Array.replicate_succ,Array.replicate_zero,List.push_toArray,List.append_toArray,List.nil_append,List.cons_append]
 gi_wp2
 simp only[Co.eql_seqC]
 gi_wp2
 have bM:=Boxed.new w 3 (.int .i64 (m:Int));have bL:=Boxed.new (w.alloc (.cells #[.int .i64 (m:Int)] 3)) 26 (.slice none 0 0);rw[World.size_alloc]at bL;have hB0:Below w.heap.size w ((w.alloc (.cells #[.int .i64 (m:Int)] 3)).alloc (.cells #[.slice none 0 0] 26)):=((Below.refl _ w).alloc (Nat.le_refl _) _).alloc (by simp) _;have hsz:((w.alloc (.cells #[.int .i64 (m:Int)] 3)).alloc (.cells #[.slice none 0 0] 26)).heap.size=w.heap.size+2:=by simp
 have bM1:=bM.alloc (.cells #[.slice none 0 0] 26);obtain⟨W0,hW0⟩:∃W0,(w.alloc (.cells #[.int .i64 (m:Int)] 3)).alloc (.cells #[.slice none 0 0] 26)=W0:=⟨_,rfl⟩
 rw[hW0]at bM1 bL hB0 hsz ⊢;clear hW0 bM;have hdb:db<w.heap.size:=hd.lt;have HSZ:=zh hsz;have HB0:=zh hB0;have HLEN:=zh (Co.all_len c);refine Rb.wpIn_rangeO (n:=12) rfl (by omega) (gf:=43) (lb:=#[.pointer (some ⟨db,0,none⟩)]) rfl trivial (enters_of Tryz.func43 (by kernel_rfl) rfl)
  (encs:=Co.encC) (Kp:=Co.KR (Co.tdn (w.heap.size+1) (w.heap.size+3))) (V:=Co.VCD (Co.tdn (w.heap.size+1) (w.heap.size+3)) (w.heap.size+2)) (S:=fun ys=>ys.map Co.PC.c=Co.all c) (Sp:=fun ys=>ys.map Co.PC.c<+:Co.all c) (N:=(Co.all c).length) (w0:=W0)
  (by
   have h:=coAll_stopsD 11 (F:=fun k=>k<w.heap.size) c vm vl vt vp vk W0 (Co.tdn (w.heap.size+1) (w.heap.size+3)) db (Co.tdn_st (by omega)) (fun k hk=>by
     rcases hk with h|h|⟨v,h1,h2⟩
     ·omega
     ·omega
     ·rw[bL.cell]at h1;cases h1;cases h2) hW ((Co.Rep.mono (fun _ _ h=>h) c hR).below hB0) (fun k hk=>⟨by omega,fun h=>by
     rcases h with h|h|⟨v,h1,h2⟩
     ·omega
     ·omega
     ·rw[bL.cell]at h1;cases h1;cases h2⟩) (hd.keep (S:=fun _=>False) (keep_of_below hB0) id)
   rw[hsz]at h;exact h)
  (fun h k=>h.trans k) (fun W o o' ho hc=>by rw[hsz];exact Co.kr_put (by omega) W o') (Below.refl _ _) (fun _=>rfl)
  (fun O pre W=>Co.TI w m O pre W∧pre.length≤m) (fun O cd pre W=>cd= .exit 0∧m≤pre.length∧Co.TI w m O (pre.take m) W)
  (fun O pre W W' row h hg hr=>⟨h.1.grown hg (fun r e=>by rw[←hsz];exact hr r e),h.2⟩)
  (fun O cd pre W W' row h hg hr=>⟨h.1,h.2.1,h.2.2.grown hg (fun r e=>by rw[←hsz];exact hr r e)⟩)
  (fun O pre A B hO h hk=>⟨h.1.other (fun k hk=>by rw[←hsz];exact hO k hk) hk,h.2⟩)
  (fun O cd pre A B hO h hk=>⟨h.1,h.2.1,h.2.2.other (fun k hk=>by rw[←hsz];exact hO k hk) hk⟩)
  (fun O hO=>⟨⟨⟨_,bL,Co.Rowing.nil _ _,(fun k e=>nomatch e),(fun p hp=>nomatch hp)⟩,bM1,hB0⟩,Nat.zero_le _⟩)
  (Co.TAx w m (fun Xb p=>#[.func (.func 43) #[] #[.pointer (some ⟨db,0,none⟩)],.int .i64 (m:Int),undef,.pointer (some ⟨w.heap.size,0,none⟩),.slice none 0 0,.pointer (some ⟨w.heap.size+1,0,none⟩),.pointer (some ⟨Xb,0,none⟩),.func (.func 43) #[] #[.pointer (some ⟨db,0,none⟩)],.bool false,.func (.func 43) #[] #[.pointer (some ⟨db,0,none⟩)],.agg #[.int .i64 p.c.k,.int .i64 p.c.n,.string p.c.s,.int .i64 p.c.d.k,.int .i64 p.c.d.n,.string p.c.d.s,p.vm,p.vl,p.vt,p.vp,p.vk],undef,undef,undef,undef,undef,undef,undef,undef,undef,undef,undef]))
  (fun O pre y a' _ W W' row h hg hr=> ?grown)
  ?assign ?body ?done ?stop
 case grown=>
  obtain⟨h1,h2,h3,Xb,h4,h45,h5,h6⟩:=h;refine⟨⟨h1.1.grown hg (fun r e=>by rw[←hsz];exact hr r e),h1.2⟩,fun k hk=>⟨(h2 k hk).1,Nat.lt_of_lt_of_le (h2 k hk).2 hg.size⟩,?_,Xb,h4,(fun v hv=> ?_),(hg.block Xb h5.lt (fun e=> ?_)).trans h5,h6⟩
  ·obtain⟨v,hb,-⟩:=h1.1.row;exact h3.grown hb.lt hg (fun r e=>⟨by have:=(hr r e).1;omega,(hr r e).2⟩)
  ·obtain⟨v0,hb,-⟩:=h1.1.row;have e1:=(hb.kept hg (fun e=>by have:=(hr _ e.symm).1;omega)).cell;rw[e1]at hv;cases hv;exact h45 _ hb.cell
  ·obtain⟨-,o,ho,hc⟩:=hr Xb e.symm;rw[show W.heap[Xb]?=_ from h5]at ho;cases ho;cases hc
 case assign=>
  rintro O l pre ⟨pc,pm,pl,pt,pp,pk⟩ W K hO ⟨hT,hlm⟩ hV hK;have HV:=zh hV;have HT:=zh hT;have HO:=zh hO;have hwz:=hT.bel.size;obtain⟨b1,n1,q1,b2,n2,q2,b3,n3,q3,b4,n4,q4,b5,n5,q5,e1,e2,e3,e4,e5⟩:=Co.Rep.forms5 (show Co.Rep _ W pc pm pl pt pp pk from hV.1);subst e1 e2 e3 e4 e5;unfold Co.encC Co.V;dsimp only;clear hV hT hO
  gi_wp2
  have hL:w.heap.size+1<W.heap.size:=by obtain⟨v,h1,-⟩:=HT.out.row;exact h1.lt
  refine hK _ _ ?_ ?_ ?_
  ·exact(KeepsOthers.alloc _ _).from _
  ·exact Co.KR.of_below (Co.tdn_st (n:=w.heap.size+2) (by omega)) (by omega) ((Below.refl _ _).alloc (Nat.le_refl _) _)
  refine⟨⟨HT.out.grown (World.grownBy_alloc W _ none) (by simp),hlm⟩,fun k hk=> ?_,?_,W.heap.size,by omega,(fun v hv=> ?_),Hp.new rfl,rfl⟩
  ·have:=HO.out k hk;rw[World.size_alloc];omega
  ·exact Co.VCD.grown HV.out hL (World.grownBy_alloc W _ none) (by simp)
  ·obtain⟨v0,hb,hr0,-⟩:=HT.out.row;have e1:=(hb.alloc (.cells #[.int .i64 pc.k,.int .i64 pc.n,.string pc.s,.int .i64 pc.d.k,.int .i64 pc.d.n,.string pc.d.s,.slice b1 n1 q1,.slice b2 n2 q2,.slice b3 n3 q3,.slice b4 n4 q4,.slice b5 n5 q5] 28)).cell;rw[e1]at hv;cases hv;exact fun e=>Nat.lt_irrefl _ (Dt.own_lt hr0.row _ e).2
 case body=>
  rintro O l pre ⟨pc,pm,pl,pt,pp,pk⟩ a' W hl ⟨r,hr⟩ ⟨⟨hT,hlm⟩,hO,hV,Xb,hXl,hXr,hX,rfl⟩ hlt;dsimp only at hX hV ⊢;have HT:=zh hT;obtain⟨v,hb,hrow,hno,hreps⟩:=hT.row;have cL:=hb.cell;have fL:=hb.frozen;have cM:=hT.lim.cell;obtain⟨a,cp,rfl⟩:=Dt.row_form hrow.row;by_cases hge:m≤pre.length
  ·have hgei:(m:Int)≤(pre.length:Int):=by omega
   have he:(pre++[(⟨pc,pm,pl,pt,pp,pk⟩:Co.PC)]).take m=pre:=by rw[List.take_append_of_le_length hge,List.take_of_length_le hlm]
   have HE:=zh he;clear he hT hb hrow hno hreps hV hX hXr hO
   gi_wp2
   exact⟨KeepsFrom.refl _ _,⟨rfl,rfl,rfl,Nat.le_refl _,fun _ _ _=>rfl,fun _ h=> .inl h⟩,rfl,by simp;omega,by rw[HE.out];exact HT.out⟩
  ·have hgei:¬ (m:Int)≤(pre.length:Int):=by omega
   have HB:=zh hb;have HROW:=zh hrow;have HNO:=zh hno;have HREPS:=zh hreps;have HV:=zh hV;have HX:=zh hX;have HXR:=zh (hXr _ cL);have HO:=zh hO;obtain⟨b1,n1,q1,b2,n2,q2,b3,n3,q3,b4,n4,q4,b5,n5,q5,e1,e2,e3,e4,e5⟩:=Co.Rep.forms5 (show Co.Rep _ W pc pm pl pt pp pk from hV.1);subst e1 e2 e3 e4 e5;clear hT hb hrow hno hreps hV hX hXr hO
   gi_wp2
   refine Li.held (S:=fun W'=>Co.Bc W' Xb pc (.slice b1 n1 q1) (.slice b2 n2 q2) (.slice b3 n3 q3) (.slice b4 n4 q4) (.slice b5 n5 q5)) ?_ (by kernel_rfl) (by kernel_rfl) ?_ (fun hHeld=> ?_)
   ·rintro⟨a9,w9,h9⟩;exact h9
   ·exact HX.out.keep (S:=fun _=>False) (keep_of_below (Co.drew_below W)) id
   ·clear cL fL cM;refine Zm.u 1 ?_ rfl ?_ ?_;rotate_left
    ·intro w9 hSw;have hC:Hp w9 Xb _ _:=hSw;obtain⟨q0,q1,q2,q3,q4,q5,q6,q7,q8,q9,q10⟩:=hC.c11;clear hC;clear hSw;go_simp;try with_reducible rfl
    simp only[Act.put,za,zb,zc];have cLd:=((Co.drew_below W).cell (p:=⟨w.heap.size+1,0,none⟩) HB.out.lt).trans HB.out.cell;have HSd:Hid (Co.Bc W.drew Xb pc (.slice b1 n1 q1) (.slice b2 n2 q2) (.slice b3 n3 q3) (.slice b4 n4 q4) (.slice b5 n5 q5)):=HX.out.keep (S:=fun _=>False) (keep_of_below (Co.drew_below W)) id;obtain⟨wD,hwD⟩:∃wD,W.drew.alloc (.cells #[.int .i64 0,.int .i64 0,.string ⟨#[]⟩,.int .i64 0,.int .i64 0,.string ⟨#[]⟩,.slice none 0 0,.slice none 0 0,.slice none 0 0,.slice none 0 0,.slice none 0 0] 28)=wD:=⟨_,rfl⟩
    have hbD:Below W.heap.size W wD:=by rw[←hwD];exact(Co.drew_below W).alloc (by have:=(Co.drew_below W).size;omega) _
    have hsrc:Ap.Src wD (.slice (some ⟨W.heap.size,0,none⟩) 1 1) 1 [.int .i64 0,.int .i64 0,.string ⟨#[]⟩,.int .i64 0,.int .i64 0,.string ⟨#[]⟩,.slice none 0 0,.slice none 0 0,.slice none 0 0,.slice none 0 0,.slice none 0 0]:=by
     rw[←hwD];have h:=Co.srcNew (w:=W) (t:=28) (a:= .int .i64 0) (b:= .int .i64 0) (c:= .string ⟨#[]⟩) (d:= .int .i64 0) (e:= .int .i64 0) (f:= .string ⟨#[]⟩) (g:= .slice none 0 0) (h:= .slice none 0 0) (i:= .slice none 0 0) (j:= .slice none 0 0) (k:= .slice none 0 0) rfl;exact h
    have HBD:=zh hbD;have HSRC:=zh hsrc;have HWD:=zh hwD;have hSD:Co.Bc wD Xb pc (.slice b1 n1 q1) (.slice b2 n2 q2) (.slice b3 n3 q3) (.slice b4 n4 q4) (.slice b5 n5 q5):=
     HX.out.keep (S:=fun _=>False) (keep_of_below hbD) id
    have HSD:=zh hSD;clear hbD hsrc hSD;have cLD:=(HBD.out.cell (p:=⟨w.heap.size+1,0,none⟩) HB.out.lt).trans HB.out.cell;apply Co.cutG
    ·intro rest;refine Zm.q 0 3 rfl rfl (fun K hK=> ?_) (fun K hK=> ?_)
     ·go_simp;refine hK.out _ _ HSd.out (fun hHeld=> ?_);clear hK K;refine Zm.u 2 ?_ rfl ?_ ?_;rotate_left
      ·intro w9 hSw;clear hSw;go_simp;try with_reducible rfl
      simp only[Act.put,za,zb,zc];refine Zm.r 3 rfl (fun K hK=> ?_);go_simp;try rw[hwD]
      refine hK.out _ _ HSD.out (fun hHeld=> ?_);clear hK K;exact rest
     ·go_simp;try rw[hwD]
      refine hK.out _ _ HSD.out (fun hHeld=> ?_);clear hK K;refine Zm.r 0 rfl (fun K hK=> ?_);go_simp;refine hK.out _ _ HSD.out (fun hHeld=> ?_);clear hK K;refine Zm.u 2 ?_ rfl ?_ ?_;rotate_left
      ·intro w9 hSw;clear hSw;go_simp;try with_reducible rfl
      simp only[Act.put,za,zb,zc];exact rest
    clear cLd cLD hwD;have hHeld:=HSD.out;have hrD:wD.ownsRow (w.heap.size+2) 28 11 (.slice a pre.length cp) pre.length (Co.flatC pre):=(HROW.out.below HBD.out).row;have HRD:=zh hrD;clear hrD;obtain⟨i0,hi,hz0,hz1,hz2⟩:=info_parts Co.infoC;have hwz:=HT.out.bel.size;have hbs:w.heap.size+2≤wD.heap.size:=by have:=HB.out.lt;have:=HBD.out.size;omega
    have hlm2:pre.length+1≤1048577:=by omega
    refine Zm.r 4 rfl (fun K hK=> ?_);refine Ap.step rfl (.tmp 15) (.tmp 18) 26 (by kernel_rfl) (w.heap.size+2) 28 i0 (.agg #[.int .i64 0,.int .i64 0,.string ⟨#[]⟩,.int .i64 0,.int .i64 0,.string ⟨#[]⟩,.slice none 0 0,.slice none 0 0,.slice none 0 0,.slice none 0 0,.slice none 0 0]) 11 184 Tryz.underlying26 hi hz0 hz1 hz2 rfl (by decide) (.slice a pre.length cp) pre.length (Co.flatC pre) (by kernel_rfl) HRD.out (.slice (some ⟨W.heap.size,0,none⟩) 1 1) 1 [.int .i64 0,.int .i64 0,.string ⟨#[]⟩,.int .i64 0,.int .i64 0,.string ⟨#[]⟩,.slice none 0 0,.slice none 0 0,.slice none 0 0,.slice none 0 0,.slice none 0 0] (by kernel_rfl) HSRC.out rfl (by simp[Value.oneCell']) (by unfold maxLen;omega) (by omega) hbs ?_;intro v' w5 hown hgrow hat;obtain⟨g,c5,rfl⟩:∃g c5,v'= .slice (some ⟨g,0,none⟩) (pre.length+1) c5:=by
     rcases hown.2 with⟨-,h0⟩|⟨g,c5,-,e,-⟩
     ·omega
     ·exact⟨g,c5,e⟩
    have hrl:∀k,(Value.slice a pre.length cp).ownBlock=some k→w.heap.size+2≤k∧k<W.heap.size:=fun k e=>Dt.own_lt HROW.out.row k e
    have hS5:Co.Bc w5 Xb pc (.slice b1 n1 q1) (.slice b2 n2 q2) (.slice b3 n3 q3) (.slice b4 n4 q4) (.slice b5 n5 q5):=(hgrow.block Xb (Hp.lt HSD.out) (fun e=>HXR.out e.symm)).trans HSD.out;have HS5:=zh hS5;have HOWN:=zh hown;have HGR:=zh hgrow;have HAT:=zh hat;clear hS5 hown hgrow hat hrl;refine hK.out _ _ HS5.out (fun hHeld=> ?_);clear hK K;have hlti:(pre.length:Int)<(pre.length:Int)+1:=by omega
    have hcell:∀(j:Nat) (u:Value),[Value.int .i64 0,.int .i64 0,.string ⟨#[]⟩,.int .i64 0,.int .i64 0,.string ⟨#[]⟩,.slice none 0 0,.slice none 0 0,.slice none 0 0,.slice none 0 0,.slice none 0 0][j]?=some u→w5.cell? ⟨g,pre.length*11+j,none⟩=some u:=fun j u hu=>by
     have h:=HOWN.out.cells (g:=g) rfl (pre.length*11+j) u (by rw[List.getElem?_append_right (by rw[Co.flatC_length];omega),Co.flatC_length,Nat.add_sub_cancel_left];exact hu);rw[Addr.add_mid,Nat.zero_add]at h;exact h
    have hgb:w.heap.size+2≤g∧g<w5.heap.size:=Dt.own_lt HOWN.out g rfl;have hXg:Xb≠g:=by
     intro e;rcases HAT.out with h|h
     ·exact HXR.out (by rw[←h,e];rfl)
     ·have h:g=wD.heap.size:=by simpa[Value.ownBlock]using h
      have h1:=Hp.lt HX.out;have h2:=HBD.out.size;omega
    have hfz:∀j,w5.frozen? ⟨g,j,none⟩=false:=fun j=>by
     rcases HOWN.out.2 with⟨h1,h0⟩|⟨g',cap',cur',e1,e2,e3,e4⟩
     ·omega
     ·cases e1;exact Lib.frozen_of_heap e3 j
    have HTH:Hid (w5.there g (pre.length*11) 11):=fun j hj=>by
     refine⟨?_,hfz _⟩;rw[hcell j _ (List.getElem?_eq_getElem (by simpa using hj))]
     rfl
    have HBL:Hid (Boxed w5 (w.heap.size+1) 26 (.slice a pre.length cp)):=by
     have h1:wD.heap[w.heap.size+1]?=some (.cells #[.slice a pre.length cp] 26 (0,0)):=(HBD.out.block _ HB.out.lt).trans HB.out;refine(HGR.out.block _ (Array.getElem?_eq_some_iff.1 h1).1 (fun e=> ?_)).trans h1;have:=(Dt.own_lt HROW.out.row _ e.symm).1;omega
    obtain⟨w6,hw6⟩:∃w6,w5.setCells g (pre.length*11) (#[.int .i64 pc.k,.int .i64 pc.n,.string pc.s,.int .i64 pc.d.k,.int .i64 pc.d.n,.string pc.d.s,.slice b1 n1 q1,.slice b2 n2 q2,.slice b3 n3 q3,.slice b4 n4 q4,.slice b5 n5 q5]:Array Value).toList=w6:=⟨_,rfl⟩
    have hk6:Keep (fun k=>k=g) w5 w6:=by rw[←hw6];exact Co.setCells_keep _ _ _ _
    have HBL6:Hid (Boxed w6 (w.heap.size+1) 26 (.slice a pre.length cp)):=(hk6.block _ HBL.out.lt (by omega)).trans HBL.out;have HS6:Hid (Co.Bc w6 Xb pc (.slice b1 n1 q1) (.slice b2 n2 q2) (.slice b3 n3 q3) (.slice b4 n4 q4) (.slice b5 n5 q5)):=HS5.out.keep hk6 hXg;obtain⟨w7,hw7⟩:∃w7,w5.setCell ⟨w.heap.size+1,0,none⟩ (.slice (some ⟨g,0,none⟩) (pre.length+1) c5)=w7:=⟨_,rfl⟩
    have hk7:Keep (fun k=>k=w.heap.size+1) w5 w7:=by rw[←hw7];exact set_keep _ _ _ _
    have HS7:Hid (Co.Bc w7 Xb pc (.slice b1 n1 q1) (.slice b2 n2 q2) (.slice b3 n3 q3) (.slice b4 n4 q4) (.slice b5 n5 q5)):=HS5.out.keep hk7 (by omega);have HTH7:Hid (w7.there g (pre.length*11) 11):=fun j hj=>by
     have h:=HTH.out j hj;have e1:w7.heap[g]?=w5.heap[g]?:=hk7.block g hgb.2 (by omega);exact⟨by rw[World.cell?_of_block (a:=⟨g,pre.length*11+j,none⟩) e1];exact h.1,by rw[World.frozen?_of_block (a:=⟨g,pre.length*11+j,none⟩) e1];exact h.2⟩
    obtain⟨wF,hwF⟩:∃wF,w6.setCell ⟨w.heap.size+1,0,none⟩ (.slice (some ⟨g,0,none⟩) (pre.length+1) c5)=wF:=⟨_,rfl⟩
    have hwF7:w7.setCells g (pre.length*11) (#[.int .i64 pc.k,.int .i64 pc.n,.string pc.s,.int .i64 pc.d.k,.int .i64 pc.d.n,.string pc.d.s,.slice b1 n1 q1,.slice b2 n2 q2,.slice b3 n3 q3,.slice b4 n4 q4,.slice b5 n5 q5]:Array Value).toList=wF:=by rw[←hwF,←hw6,←hw7];exact Co.setCells_comm (by omega) _ _ _ _ _
    have HBF:Hid (Boxed wF (w.heap.size+1) 26 (.slice (some ⟨g,0,none⟩) (pre.length+1) c5)):=by rw[←hwF];exact HBL6.out.set _
    have hkF:Keep (fun k=>k=w.heap.size+1) w6 wF:=by rw[←hwF];exact set_keep _ _ _ _
    have HSF:Hid (Co.Bc wF Xb pc (.slice b1 n1 q1) (.slice b2 n2 q2) (.slice b3 n3 q3) (.slice b4 n4 q4) (.slice b5 n5 q5)):=HS6.out.keep hkF (by omega);have HKF:=zh hkF;have HK6:=zh hk6;have HGB:=zh hgb;clear hcell hfz hkF hk6 hk7 hXg hgb;refine Zm.u 5 ?_ rfl ?_ ?_;rotate_left
    ·intro w9 hSw;clear hSw;go_simp;try with_reducible rfl
    simp only[Act.put,za,zb,zc];apply Co.cutG
    ·intro rest;refine Zm.q 6 7 rfl rfl (fun K hK=> ?_) (fun K hK=> ?_)
     ·refine wp_store_mid 28 (.tmp 20) (.tmp 16) rfl g (pre.length*11) #[.int .i64 pc.k,.int .i64 pc.n,.string pc.s,.int .i64 pc.d.k,.int .i64 pc.d.n,.string pc.d.s,.slice b1 n1 q1,.slice b2 n2 q2,.slice b3 n3 q3,.slice b4 n4 q4,.slice b5 n5 q5] (by kernel_rfl) (by kernel_rfl) HTH.out (by kernel_rfl) (by kernel_rfl) ?_;rw[hw6];refine hK.out _ _ HS6.out (fun hHeld=> ?_);clear hK K;have cL6:=HBL6.out.cell;have fL6:=HBL6.out.frozen;refine Zm.r 7 rfl (fun K hK=> ?_);go_simp;try rw[hwF]
      refine hK.out _ _ HSF.out (fun hHeld=> ?_);clear hK K;refine wpAnyH_done (by kernel_rfl) ?_ _;exact rest
     ·have cL5:=HBL.out.cell;have fL5:=HBL.out.frozen;go_simp;try rw[hw7]
      refine hK.out _ _ HS7.out (fun hHeld=> ?_);clear hK K;refine Zm.r 6 rfl (fun K hK=> ?_);refine wp_store_mid 28 (.tmp 20) (.tmp 16) rfl g (pre.length*11) #[.int .i64 pc.k,.int .i64 pc.n,.string pc.s,.int .i64 pc.d.k,.int .i64 pc.d.n,.string pc.d.s,.slice b1 n1 q1,.slice b2 n2 q2,.slice b3 n3 q3,.slice b4 n4 q4,.slice b5 n5 q5] (by kernel_rfl) (by kernel_rfl) HTH7.out (by kernel_rfl) (by kernel_rfl) ?_;rw[hwF7];refine hK.out _ _ HSF.out (fun hHeld=> ?_);clear hK K;refine wpAnyH_done (by kernel_rfl) ?_ _;exact rest
    clear hwF hwF7;go_wp2;have hsz1:W.heap.size≤wD.heap.size:=HBD.out.size;have hkD5:Keep (fun k=>(Value.slice a pre.length cp).ownBlock=some k) wD w5:=⟨HGR.out.os,HGR.out.tape,HGR.out.output,HGR.out.size,fun k hk hn=>HGR.out.block k hk (fun e=>hn e.symm)⟩
    have hkD6:Keep (fun k=>(Value.slice a pre.length cp).ownBlock=some k∨k=g) wD w6:=(hkD5.le fun k h=> .inl h).trans (HK6.out.le fun k h=> .inr h);have hkWF:Keep (fun k=>(Value.slice a pre.length cp).ownBlock=some k∨k=g∨k=w.heap.size+1) W wF:=((keep_of_below HBD.out).trans (hkD6.le fun k h=>h.elim .inl (fun h=> .inr (.inl h)))).trans (HKF.out.le fun k h=> .inr (.inr h));have hg:(Value.slice a pre.length cp).ownBlock=some g∨g=wD.heap.size:=HAT.out.elim (fun h=> .inl (h.symm.trans rfl)) (fun h=> .inr (by simpa[Value.ownBlock]using h));have hol:∀k,(Value.slice a pre.length cp).ownBlock=some k→w.heap.size+2≤k∧k<W.heap.size:=fun k e=>Dt.own_lt HROW.out.row k e
    have hLW:=HB.out.lt;have hdn:∀k,¬Co.tdn (w.heap.size+1) (w.heap.size+3) W k→(Value.slice a pre.length cp).ownBlock≠some k:=fun k h e=>h (.inr (.inr ⟨_,HB.out.cell,e⟩))
    have hrx:Co.Rep (fun k=>(w.heap.size+2≤k∧(Value.slice a pre.length cp).ownBlock≠some k∧¬O k)∧k<W.heap.size) W pc (.slice b1 n1 q1) (.slice b2 n2 q2) (.slice b3 n3 q3) (.slice b4 n4 q4) (.slice b5 n5 q5):=Co.Rep.mono (fun b hb hl=>⟨⟨hb.1,hdn b hb.2.1,hb.2.2⟩,hl⟩) pc HV.out.1;have hnk:∀k,(w.heap.size+2≤k∧(Value.slice a pre.length cp).ownBlock≠some k∧¬O k)∧k<W.heap.size→¬ ((Value.slice a pre.length cp).ownBlock=some k∨k=g∨k=w.heap.size+1):=fun k hk h=>by
     rcases h with h|h|h
     ·exact hk.1.2.1 h
     ·rcases hg with e|e
      ·exact hk.1.2.1 (by rw[h];exact e)
      ·omega
     ·omega
    have hng:∀k,(w.heap.size+2≤k∧(Value.slice a pre.length cp).ownBlock≠some k∧¬O k)∧k<W.heap.size→(w.heap.size+2≤k∧(Value.slice (some ⟨g,0,none⟩) (pre.length+1) c5).ownBlock≠some k∧¬O k):=fun k hk=>⟨hk.1.1,fun e=>by
     have e:g=k:=by simpa[Value.ownBlock]using e
     rcases hg with h|h
     ·exact hk.1.2.1 (by rw[←e];exact h)
     ·omega,hk.1.2.2⟩
    have hrow6:Co.Rowing w6 (w.heap.size+2) (Value.slice (some ⟨g,0,none⟩) (pre.length+1) c5) (pre++[(⟨pc,.slice b1 n1 q1,.slice b2 n2 q2,.slice b3 n3 q3,.slice b4 n4 q4,.slice b5 n5 q5⟩:Co.PC)]):=by
     have h:=Co.store_last (w:=wD) (w5:=w5) (base:=w.heap.size+2) (p:=(⟨pc,.slice b1 n1 q1,.slice b2 n2 q2,.slice b3 n3 q3,.slice b4 n4 q4,.slice b5 n5 q5⟩:Co.PC)) (HROW.out.below HBD.out) rfl hkD5 (fun k _ h=>h) HOWN.out (hg.elim .inl (fun h=> .inr (Nat.le_of_eq h.symm))) HGB.out.1
      (Co.Rep.mono (fun b hb _=>⟨hb.1.1,Nat.lt_of_lt_of_le hb.2 hsz1,hb.1.2.1⟩) pc (hrx.below HBD.out))
     rw[Co.putAll_eq]at h;rw[←hw6];exact h
    have hlen:pre.length+1≤m:=by omega
    refine⟨⟨hkWF.size,fun k o hk ho hc=> ?_⟩,⟨hkWF.os,hkWF.tape,hkWF.output,hkWF.size,fun k hk hn=>hkWF.block k hk (fun h=> ?_),fun k hk=> ?_⟩,⟨⟨(Value.slice (some ⟨g,0,none⟩) (pre.length+1) c5),HBF.out,?_,fun k e hO=> ?_,fun p hp=> ?_⟩,?_,?_⟩,by rw[List.length_append];exact hlen⟩
    ·have hkl:k<W.heap.size:=(Array.getElem?_eq_some_iff.1 ho).1;have hcell:∀j,(Value.slice a pre.length cp).ownBlock=some j→∃cs ty fr,W.heap[j]?=some (.cells cs ty fr):=fun j e=>by
      rcases HROW.out.row.2 with⟨h1,h0⟩|⟨g',cap',cur',e1,e2,e3,e4⟩
      ·rw[h1]at e;cases e
      ·rw[e1]at e;cases e;exact⟨_,_,_,e3⟩
     refine(hkWF.block k hkl (fun h=> ?_)).trans ho;have hcc:∀j,(Value.slice a pre.length cp).ownBlock=some j→j≠k:=fun j e e2=>by
      obtain⟨cs,ty,fr,h3⟩:=hcell j e;rw[e2,ho]at h3;cases h3;cases hc
     rcases h with h|h|h
     ·exact hcc k h rfl
     ·rcases hg with e|e
      ·exact hcc g e h.symm
      ·omega
     ·omega
    ·rcases h with h|h|h
     ·exact hn (.inr (.inr ⟨_,HB.out.cell,h⟩))
     ·rcases hg with e|e
      ·exact hn (.inr (.inr ⟨_,HB.out.cell,by rw[h];exact e⟩))
      ·omega
     ·exact hn (.inl h)
    ·rcases hk with h|h|⟨v,h1,h2⟩
     ·exact .inl (.inl h)
     ·exact .inl (.inr (.inl h))
     ·rw[HBF.out.cell]at h1;cases h1;have e:g=k:=by simpa[Value.ownBlock]using h2
      rcases hg with e2|e2
      ·exact .inl (.inr (.inr ⟨_,HB.out.cell,by rw[←e];exact e2⟩))
      ·refine .inr ⟨by omega,?_⟩;have h5:=HGB.out.2;have h6:=HK6.out.size;have h7:=HKF.out.size;omega
    ·exact hrow6.keep HKF.out (fun k h1 _=>by omega)
    ·have e:g=k:=by simpa[Value.ownBlock]using e
     rcases hg with e2|e2
     ·exact HNO.out g e2 (by rw[e];exact hO)
     ·have:=(HO.out k hO).2;omega
    ·rcases List.mem_append.1 hp with hp|hp
     ·have h:=Co.Rep.mono (fun b hb hl=>(⟨hb,hl⟩:(w.heap.size+2≤b∧(Value.slice a pre.length cp).ownBlock≠some b∧¬O b)∧b<W.heap.size)) p.c (HREPS.out p hp);exact Co.Rep.mono (fun b hb _=>hng b hb) p.c (Co.Rep.keep hkWF (fun b hb _=>hnk b hb) p.c h)
     ·obtain rfl:p=(⟨pc,.slice b1 n1 q1,.slice b2 n2 q2,.slice b3 n3 q3,.slice b4 n4 q4,.slice b5 n5 q5⟩:Co.PC):=by simpa using hp
      exact Co.Rep.mono (fun b hb _=>hng b hb) pc (Co.Rep.keep hkWF (fun b hb _=>hnk b hb) pc hrx)
    ·exact(hkWF.block _ HT.out.lim.lt (fun h=>by
      rcases h with h|h|h
      ·have:=(hol _ h).1;omega
      ·have:=HGB.out.1;omega
      ·omega)).trans HT.out.lim
    ·exact HT.out.bel.trans (hkWF.to_below (fun k h=>by
      rcases h with h|h|h
      ·have:=(hol _ h).1;omega
      ·have:=HGB.out.1;omega
      ·omega) HT.out.bel.size)
 case done=>
  rintro O D ys W hD hS ⟨hI,hlm⟩ hK;obtain⟨v,h1,h2,h3,h4⟩:=hI.row;have cL:=h1.cell
  gi_wp2
  refine⟨by simp,.inl ⟨_,_,rfl,run_takeDeferred hK,?_⟩⟩;refine⟨_,results_tmp rfl _ _ _,v,rfl,?_,?_⟩
  ·refine Co.rowK_mono (F:=fun k=>w.heap.size+2≤k) (fun b hb=>by omega) ?_;rw[List.take_of_length_le (by rw[←hS,List.length_map];exact hlm),←hS];exact(h2.grown (grownBy_putObj' W D _) (fun r e=>by cases e;exact⟨_,hK,rfl⟩)).to_row
  ·exact hI.bel.trans (belowK_b (w:=w) (Nat.le_refl _) W D _ _ (by omega) hK rfl rfl)
 case stop=>
  rintro O D cd pre W hD hp ⟨rfl,hmp,hI⟩ hK;obtain⟨v,h1,h2,h3,h4⟩:=hI.row;have cL:=h1.cell
  gi_wp2
  refine⟨by simp,.inl ⟨_,_,rfl,run_takeDeferred hK,?_⟩⟩;refine⟨_,results_tmp rfl _ _ _,v,rfl,?_,?_⟩
  ·refine Co.rowK_mono (F:=fun k=>w.heap.size+2≤k) (fun b hb=>by omega) ?_;rw[←Co.take_prefix hp (by rw[List.length_map];exact hmp),←List.map_take];exact(h2.grown (grownBy_putObj' W D _) (fun r e=>by cases e;exact⟨_,hK,rfl⟩)).to_row
  ·exact hI.bel.trans (belowK_b (w:=w) (Nat.le_refl _) W D _ _ (by omega) hK rfl rfl)
end Go.Proofs.YtfjmlfbohenmfaaGreat
namespace Go.Proofs.YtfjmlfbohenmfaaGreat
open Go.RowKit
namespace Co
def ints(l:List Int):List Value:=l.map (Value.int .i64)
structure RW(G:Nat→Prop)(w:World)(base X:Nat)(e:Int)(opn:Bool)(pv bv:Value)(ps:List PC)(bd:List Int):Prop where
  hp:Hp w X #[pv,bv,.int .i64 e,.bool opn] 66
  rp:w.ownsRow base 28 11 pv ps.length (flatC ps)
  re:∀p∈ps,p.rep G w
  rb:w.ownsRow base 3 1 bv bd.length (ints bd)
  bx:base≤X
  np:pv.ownBlock≠some X
  nb:bv.ownBlock≠some X
  nn:∀k,pv.ownBlock=some k→bv.ownBlock≠some k
def WS(X:Nat)(pv bv:Value)(k:Nat):Prop:=k=X∨pv.ownBlock=some k∨bv.ownBlock=some k
def RV(w:World)(v v':Value):Prop:=∀k,v'.ownBlock=some k→v.ownBlock=some k∨w.heap.size≤k
theorem RV.refl(w:World)(v:Value):RV w v v:=fun _ h=> .inl h
theorem WS.low{G:Nat→Prop}{w:World}{base X:Nat}{e:Int}{opn:Bool}{pv bv:Value}{ps:List PC}{bd:List Int}(h:RW G w base X e opn pv bv ps bd){k:Nat}(hk:WS X pv bv k):base≤k:=by
  rcases hk with hk|hk|hk
  · have:=h.bx;omega
  · exact(Dt.own_lt h.rp k hk).1
  · exact(Dt.own_lt h.rb k hk).1
theorem RW.keep{G S:Nat→Prop}{w w':World}{base X:Nat}{e:Int}{opn:Bool}{pv bv:Value}{ps:List PC}{bd:List Int}(h:RW G w base X e opn pv bv ps bd)(hk:Keep S w w')(hS:∀k,k<w.heap.size→(G k∨WS X pv bv k)→¬S k):RW G w' base X e opn pv bv ps bd:=
  ⟨h.hp.keep hk (hS X h.hp.lt (.inr (.inl rfl))),Dt.own_keep h.rp hk (fun k e=>hS k (Dt.own_lt h.rp k e).2 (.inr (.inr (.inl e)))),fun p hp=>Rep.keep hk (fun b hb hl=>hS b hl (.inl hb)) p.c (h.re p hp),Dt.own_keep h.rb hk (fun k e=>hS k (Dt.own_lt h.rb k e).2 (.inr (.inr (.inr e)))),h.bx,h.np,h.nb,h.nn⟩
theorem RW.below{G:Nat→Prop}{w w':World}{base X:Nat}{e:Int}{opn:Bool}{pv bv:Value}{ps:List PC}{bd:List Int}(h:RW G w base X e opn pv bv ps bd)(hb:Below w.heap.size w w'):RW G w' base X e opn pv bv ps bd:=
  h.keep (S:=fun _=>False) (keep_of_below hb) (fun _ _ _ h=>h)
theorem RW.setE{G:Nat→Prop}{w:World}{base X:Nat}{e:Int}{opn:Bool}{pv bv:Value}{ps:List PC}{bd:List Int}(h:RW G w base X e opn pv bv ps bd)(hG:∀k,G k→k<base)(e':Int):RW G (w.setCell ⟨X,2,none⟩ (.int .i64 e')) base X e' opn pv bv ps bd:=by
  have k:=set_keep w X 2 (.int .i64 e');have hn:∀b,b<w.heap.size→G b→¬b=X:=fun b _ hb e=>by have:=hG b hb;have:=h.bx;omega
  exact⟨h.hp.set 2 _,Dt.own_keep h.rp k (fun j hj e=>h.np (by rw[hj,e])),fun p hp=>Rep.keep k (fun b hb hl=>hn b hl hb) p.c (h.re p hp),Dt.own_keep h.rb k (fun j hj e=>h.nb (by rw[hj,e])),h.bx,h.np,h.nb,h.nn⟩
theorem grown_keep2{w wA w5:World}{row:Option Nat}(hA:Below w.heap.size w wA)(hg:wA.grownBy w5 row):Keep (fun k=>row=some k) w w5:=
  ⟨hg.os.trans hA.os,hg.tape.trans hA.tape,hg.output.trans hA.output,Nat.le_trans hA.size hg.size,fun k hk hn=>(hg.block k (by have:=hA.size;omega) (fun e=>hn e.symm)).trans (hA.block k hk)⟩
theorem RW.pushB{G:Nat→Prop}{w wA w5:World}{base X:Nat}{e:Int}{opn:Bool}{pv bv bv':Value}{ps:List PC}{bd:List Int}{x:Int}(h:RW G w base X e opn pv bv ps bd)(hG:∀k,G k→k<base)(hA:Below w.heap.size w wA)
    (hown:w5.ownsRow base 3 1 bv' (bd.length+1) (ints bd++[.int .i64 x])) (hg:wA.grownBy w5 bv.ownBlock) (hat:bv'.ownBlock=bv.ownBlock∨bv'.ownBlock=some wA.heap.size):
    RW G (w5.setCell ⟨X,1,none⟩ bv') base X e opn pv bv' ps (bd++[x])∧Keep (WS X pv bv) w (w5.setCell ⟨X,1,none⟩ bv')∧RV w bv bv':=by
  have k1:=grown_keep2 hA hg;have k2:=set_keep w5 X 1 bv';have hX:=h.hp.lt;have hnX:¬bv.ownBlock=some X:=h.nb;have hp5:Hp w5 X #[pv,bv,.int .i64 e,.bool opn] 66:=h.hp.keep k1 hnX;have hs:=hA.size;have hrv:RV w bv bv':=fun k hk=>hat.elim (fun e=> .inl (e▸hk)) (fun e=> .inr (by rw[e]at hk;cases hk;exact hs))
  have hb'X:bv'.ownBlock≠some X:=fun e=>(hrv X e).elim hnX (fun h=>by omega)
  have hlow:∀k,bv.ownBlock=some k→base≤k:=fun k e=>(Dt.own_lt h.rb k e).1
  have k12:Keep (WS X pv bv) w (w5.setCell ⟨X,1,none⟩ bv'):=(k1.le fun k e=> .inr (.inr e)).trans (k2.le fun k e=> .inl e);refine⟨⟨hp5.set 1 _,?_,fun p hp=> ?_,?_,h.bx,h.np,hb'X,fun k hk e=> ?_⟩,k12,hrv⟩
  · exact Dt.own_keep (Dt.own_keep h.rp k1 (fun j hj e=>h.nn j hj e)) k2 (fun j hj e=>h.np (by rw[hj,e]))
  · exact Rep.keep k12 (fun b hb hl e=>by have:=hG b hb;have:=WS.low h e;omega) p.c (h.re p hp)
  · have:=Dt.own_keep hown k2 (fun j hj e=>hb'X (by rw[hj,e]))
    rw[List.length_append,show ints (bd++[x])=ints bd++[.int .i64 x]by unfold ints;simp];exact this
  · exact(hrv k e).elim (fun e=>h.nn k hk e) (fun h2=>by have:=(Dt.own_lt h.rp k hk).2;omega)
theorem RW.pushP{G:Nat→Prop}{w wA w5:World}{base X g cap:Nat}{e:Int}{opn:Bool}{pv bv:Value}{ps:List PC}{bd:List Int}{p:PC}{zs:List Value}(h:RW G w base X e opn pv bv ps bd)(hG:∀k,G k→k<base)(hA:Below w.heap.size w wA)(hz:zs.length=11)(hp:p.rep G w)
    (hown:w5.ownsRow base 28 11 (.slice (some ⟨g,0,none⟩) (ps.length+1) cap) (ps.length+1) (flatC ps++zs)) (hg:wA.grownBy w5 pv.ownBlock) (hat:pv.ownBlock=some g∨g=wA.heap.size):
    RW G ((w5.setCells g (ps.length*11) p.cells).setCell ⟨X,0,none⟩ (.slice (some ⟨g,0,none⟩) (ps.length+1) cap)) base X e opn (.slice (some ⟨g,0,none⟩) (ps.length+1) cap) bv (ps++[p]) bd∧Keep (WS X pv bv) w ((w5.setCells g (ps.length*11) p.cells).setCell ⟨X,0,none⟩ (.slice (some ⟨g,0,none⟩) (ps.length+1) cap))∧RV w pv (.slice (some ⟨g,0,none⟩) (ps.length+1) cap):=by
  have k1:=grown_keep2 hA hg;have h1:=own_putAll p.cells zs (flatC ps) w5 (by rw[hz];rfl) hown;rw[flatC_length,putAll_eq]at h1;have k2:=setCells_keep g p.cells w5 (ps.length*11);obtain⟨w6,hw6⟩:∃w6,w5.setCells g (ps.length*11) p.cells=w6:=⟨_,rfl⟩
  rw[hw6]at h1 k2 ⊢;have k3:=set_keep w6 X 0 (.slice (some ⟨g,0,none⟩) (ps.length+1) cap);have hs:=hA.size;have hX:=h.hp.lt;have hgX:g≠X:=fun e=>hat.elim (fun h2=>h.np (by rw[h2,e])) (fun h2=>by omega)
  have hrv:RV w pv (.slice (some ⟨g,0,none⟩) (ps.length+1) cap):=fun k hk=>by
    have e:g=k:=by simpa[Value.ownBlock]using hk
    exact hat.elim (fun h2=> .inl (by rw[h2,e])) (fun h2=> .inr (by omega))
  have hp6:Hp w6 X #[pv,bv,.int .i64 e,.bool opn] 66:=(h.hp.keep k1 h.np).keep k2 (fun e=>hgX e.symm);have k12:Keep (WS X pv bv) w (w6.setCell ⟨X,0,none⟩ (.slice (some ⟨g,0,none⟩) (ps.length+1) cap)):=by
    refine Keep.mono (((k1.le (T:=fun k=>WS X pv bv k∨k=g) fun k e=> .inl (.inr (.inl e))).trans (k2.le fun k e=> .inr e)).trans (k3.le fun k e=> .inl (.inl e))) (fun k hk e=> ?_);rcases e with e|e
    · exact e
    · exact hat.elim (fun h2=> .inr (.inl (by rw[h2,e]))) (fun h2=>by omega)
  have hnb:∀k,(Value.slice (some ⟨g,0,none⟩) (ps.length+1) cap).ownBlock=some k→bv.ownBlock≠some k:=fun k hk e=>
    (hrv k hk).elim (fun h2=>h.nn k h2 e) (fun h2=>by have:=(Dt.own_lt h.rb k e).2;omega)
  refine⟨⟨hp6.set 0 _,?_,fun q hq=> ?_,?_,h.bx,fun e=> ?_,h.nb,hnb⟩,k12,hrv⟩
  · rw[List.length_append,flatC_app]
    exact Dt.own_keep h1 k3 (fun j hj e => by have e2 : g = j := by simpa [Value.ownBlock] using hj
                                              omega)
  · have hr:q.rep G w:=by
      rcases List.mem_append.1 hq with hq|hq
      · exact h.re q hq
      · obtain rfl:q=p:=by simpa using hq
        exact hp
    exact Rep.keep k12 (fun b hb hl e=>by have:=hG b hb;have:=WS.low h e;omega) q.c hr
  · refine Dt.own_keep (Dt.own_keep (Dt.own_keep h.rb k1 (fun j hj e=>h.nn j e hj)) k2 (fun j hj e=>hnb j (by rw[e];rfl) hj)) k3 (fun j hj e=>h.nb (by rw[hj,e]))
  · have e:g=X:=by simpa[Value.ownBlock]using e
    exact hgX e
theorem RW.ib{G:Nat→Prop}{w:World}{base X:Nat}{e:Int}{opn:Bool}{pv bv:Value}{ps:List PC}{bd:List Int}(h:RW G w base X e opn pv bv ps bd):Dt.IRow (fun k=>base≤k) w bv bd:=Dt.IRow.of_own h.rb
def RPost(G:Nat→Prop)(base X:Nat)(opn:Bool)(pv bv:Value)(w:World)(c:C)(deep:Nat)(win:List Int)(top:Bool)(ps:List PC)(bd:List Int)(er:Int)(e:Ending)(w':World):Prop:=
  e= .returned (.tuple #[])∧∃e' pv' bv' ps' bd',RW G w' base X e' opn pv' bv' ps' bd'∧Keep (WS X pv bv) w w'∧RV w pv pv'∧RV w bv bv'∧(er≠0→e'=er)∧(er=0→e'=(goes opn c deep win top ps.length bd).1∧(e'=0→ps'.map PC.c=ps.map PC.c++parts c∧goes opn c deep win top ps.length bd=(0,ps'.length,bd')∧bd'.length≤1000000+32*ps'.length∧ps'.length≤8192))
def RGoesIs(c:C):Prop:=∀(G G2:Nat→Prop) (base X:Nat) (opn:Bool) (pv bv vm vl vt vp vk iv:Value) (ps:List PC) (bd win:List Int) (w:World) (deep:Nat) (top:Bool) (er:Int),
  Wf c→Rep G w c vm vl vt vp vk→(∀k,G k→k<base)→RW G w base X er opn pv bv ps bd→Dt.IRow G2 w iv win→(∀k,G2 k→k<w.heap.size→¬WS X pv bv k)→win.length≤1000000+32*deep→deep≤129→(er=0→bd.length≤1000000+32*ps.length∧ps.length≤8192)→
  Calls Tryz.prog 37 #[.pointer (some ⟨X,0,none⟩),V c vm vl vt vp vk,.int .i64 (deep:Int),iv,.bool top] w (RPost G base X opn pv bv w c deep win top ps bd er)
end Co
end Go.Proofs.YtfjmlfbohenmfaaGreat
namespace Go.Proofs.YtfjmlfbohenmfaaGreat
open Go.RowKit
attribute [local go_sem] Oper.semAt_some
namespace Co
theorem src1p{w wD:World}{a:Value}{t:TypeId}(hw:w.alloc (.cells #[a] t)=wD):Ap.Src wD (.slice (some ⟨w.heap.size,0,none⟩) 1 1) 1 [a]:=
 .inr ⟨_,_,rfl,fun z u hu=>by
  rw[Addr.add_mid,Nat.zero_add];have h2:#[a][z]?=some u:=by rw[←hu];simp
  exact(Hp.new hw).cell z h2⟩
def PutAt(l:List Int)(n:Int)(i:Nat)(done:Bool)(out:List Int):Prop:=if done then out++l.drop i=put l n else(∀x∈l.take i,x<n)∧out=l.take i
theorem put_skip:∀(l:List Int) (n:Int) (i:Nat),(∀x∈l.take i,x<n)→put l n=l.take i++put (l.drop i) n
 |[],n,i,_=>by simp
 |a :: r,n,0,_=>by simp
 |a :: r,n,i+1,h=>by
  have h1:a<n:=h a (by simp);rw[put,if_neg (by omega),if_neg (by omega),List.take_succ_cons,List.drop_succ_cons,put_skip r n i (fun x hx=>h x (by rw[List.take_succ_cons];exact List.mem_cons_of_mem _ hx))]
  rfl
theorem put_len(l:List Int)(n:Int):(put l n).length≤l.length+1:=by
 induction l with
 |nil=>simp[put]
 |cons a r ih=>
  rw[put];split
  ·simp
  split
  ·simp
  ·simp;omega
structure PInv(w:World)(l:List Int)(n:Int)(i:Nat)(done:Bool)(al:Option Addr)(m ql:Nat)(wx:World):Prop where
 row:∃out,m=out.length∧wx.ownsRow w.heap.size 3 1 (.slice al m ql) m (ints out)∧PutAt l n i done out∧m≤i+1
 bl:Below w.heap.size w wx
theorem own_snoc{w:World}{base n:Nat}{v:Value}{out:List Int}{x:Int}(h:w.ownsRow base 3 1 v n (ints out++[.int .i64 x])):w.ownsRow base 3 1 v n (ints (out++[x])):=by
 unfold ints at h ⊢;rw[List.map_append];exact h
theorem grown_bl{w wx wA w5:World}{al:Option Addr}{m ql:Nat}{xs:List Value}(hbl:Below w.heap.size w wx)(ho:wx.ownsRow w.heap.size 3 1 (.slice al m ql) m xs)(hA:Below wx.heap.size wx wA)(hg:wA.grownBy w5 (Value.slice al m ql).ownBlock):Below w.heap.size w w5:=
 hbl.trans ((grown_keep2 hA hg).to_below (fun k e=>(Dt.own_lt ho k e).1) hbl.size)
end Co
theorem putR_any{F:Nat→Prop}(v:Value)(l:List Int)(n:Int)(w:World)(h:Dt.IRow F w v l)(hl:l.length≤1000000):
  Calls Tryz.prog 55 #[v,.int .i64 n] w fun e w'=>∃v',e= .returned v'∧Dt.IRow (fun k=>w.heap.size≤k) w' v' (Co.put l n)∧Below w.heap.size w w':=by
 obtain⟨a,c,rfl,hlc,hpt⟩:=h;have h:Dt.IRow F w (.slice a l.length c) l:=⟨a,c,rfl,hlc,hpt⟩
 obtain⟨j0,hj,hj0,hj1,hj2⟩:=info_parts Dt.infoI;have HJ:=zh hj;have HJ0:=zh hj0;have HJ1:=zh hj1;have HJ2:=zh hj2;have HI:=zh h;have HINV:Hid (Co.PInv w l n 0 false none 0 0 w):=⟨⟨[],rfl,World.ownsRow_nil _ _ _ _,by unfold Co.PutAt;rw[if_neg (by simp)];simp,by omega⟩,Below.refl _ _⟩
 clear hj hj0 hj1 hj2 h hpt hlc;go_enter Tryz.func55,Tryz.ntmps55;go_wp2
 go_loopw [5,6,7] (fun v5 v6 v7 wr=>∃(i m ql:Nat) (al:Option Addr) (dn:Bool),v5= .slice al m ql∧v6= .bool dn∧v7= .int .i64 i∧i≤l.length∧Hid (Co.PInv w l n i dn al m ql wr)) (fun _ _ v7 _=>l.length - (intOf v7).toNat)
 case atStart=>exact⟨0,0,0,none,false,rfl,rfl,rfl,by omega,HINV⟩
 case round=>
  clear HINV;obtain⟨i,m,ql,al,dn,rfl,rfl,rfl,hi,HP⟩:=hrel;obtain⟨out,hm,hown,hput,hmi⟩:=HP.out.row;subst hm;have HO:=zh hown;have HPU:=zh hput;have HB:=zh HP.out.bl;have HWS:Hid (w.heap.size≤wr.heap.size):=HB.out.size;clear hown hput;by_cases hlt:i<l.length
  case neg=>
   have hge:(l.length:Int)≤(i:Int):=by omega
   obtain rfl:i=l.length:=by omega
   cases dn with
   |true=>
    have HF:Hid (Dt.IRow (fun k=>w.heap.size≤k) wr (.slice al out.length ql) (Co.put l n)):=by
     have h:=HPU.out;unfold Co.PutAt at h;rw[if_pos rfl,List.drop_length,List.append_nil]at h;rw[←h];exact Dt.IRow.of_own HO.out
    go_wp2;go_ret;exact⟨_,rfl,HF.out,HB.out⟩
   |false=>
    have HE:Hid (Co.put l n=out++[n]):=by
     have h:=HPU.out;unfold Co.PutAt at h;rw[if_neg (by simp),List.take_length]at h;show _=_;rw[Co.put_skip l n l.length (by rw[List.take_length];exact h.1),List.take_length,List.drop_length,h.2,Co.put]
    have hWA:wr.alloc (.cells #[.int .i64 n] 3)=wr.alloc (.cells #[.int .i64 n] 3):=rfl;obtain⟨hbA,hsA⟩:=new_below hWA;have HS:Hid (Ap.Src (wr.alloc (.cells #[.int .i64 n] 3)) (.slice (some ⟨wr.heap.size,0,none⟩) 1 1) 1 [.int .i64 n]):=Co.src1p hWA;have HRO:Hid ((wr.alloc (.cells #[.int .i64 n] 3)).ownsRow w.heap.size 3 1 (.slice al out.length ql) out.length (Co.ints out)):=Dt.own_keep (S:=fun _=>False) HO.out (keep_of_below hbA) (fun _ _ h=>h);have HBA:=zh hbA;have HSZ:Hid (w.heap.size≤(wr.alloc (.cells #[.int .i64 n] 3)).heap.size):=by have h1:=hbA.size;have h2:=HWS.out;show w.heap.size≤_;omega
    clear hWA hbA hsA;have hm1:out.length+1≤maxLen:=by unfold maxLen;omega
    have hm2:(out.length+1)*8≤140737488355328:=by omega
    go_wp2_with(at_builtin;refine Ap.list rfl _ _ 22 rfl w.heap.size 3 j0 (.int .i64 0) 1 8 Tryz.underlying22 HJ.out HJ0.out HJ1.out HJ2.out rfl (by decide) (.slice al out.length ql) out.length (Co.ints out) rfl HRO.out (.slice (some ⟨wr.heap.size,0,none⟩) 1 1) 1 [.int .i64 n] rfl HS.out rfl (by simp[Value.oneCell']) hm1 hm2 HSZ.out ?_;intro v' w5 hown hg hat;obtain⟨al',ql',rfl⟩:=Dt.row_form hown;have HOWN:=zh hown;have HGR:=zh hg;have HAT:=zh hat;clear hown hg hat)
    have HF:Hid (Dt.IRow (fun k=>w.heap.size≤k) w5 (.slice al' (out.length+1) ql') (Co.put l n)∧Below w.heap.size w w5):=by
     refine⟨?_,Co.grown_bl HB.out HO.out HBA.out HGR.out⟩;rw[HE.out];refine Dt.IRow.of_own ?_;rw[List.length_append,List.map_append];exact HOWN.out
    go_wp2;go_ret;exact⟨_,rfl,HF.out.1,HF.out.2⟩
  have hlti:(i:Int)<(l.length:Int):=by omega
  have hI2:=HI.out.keep (S:=fun _=>False) (keep_of_below HB.out) (fun _ _ _ h=>h);obtain⟨_,_,he,_,hrow⟩:=hI2;injection he with he1 he2 he3
  subst he1;clear he2 he3;obtain⟨pb,po,rfl,hGp,hbl,hcell⟩:=hrow (by intro h0;rw[h0]at hlt;simp at hlt);have p0:=hcell i hlt;obtain⟨x,hx⟩:∃x,l[i]=x:=⟨_,rfl⟩
  rw[hx]at p0;have HXX:=zh hx;clear hrow hcell hx hGp hbl
  cases dn with
  |true=>
   have hWA:wr.alloc (.cells #[.int .i64 x] 3)=wr.alloc (.cells #[.int .i64 x] 3):=rfl;obtain⟨hbA,hsA⟩:=new_below hWA;have HS:Hid (Ap.Src (wr.alloc (.cells #[.int .i64 x] 3)) (.slice (some ⟨wr.heap.size,0,none⟩) 1 1) 1 [.int .i64 x]):=Co.src1p hWA;have HRO:Hid ((wr.alloc (.cells #[.int .i64 x] 3)).ownsRow w.heap.size 3 1 (.slice al out.length ql) out.length (Co.ints out)):=Dt.own_keep (S:=fun _=>False) HO.out (keep_of_below hbA) (fun _ _ h=>h);have HBA:=zh hbA;have HSZ:Hid (w.heap.size≤(wr.alloc (.cells #[.int .i64 x] 3)).heap.size):=by have h1:=hbA.size;have h2:=HWS.out;show w.heap.size≤_;omega
   clear hWA hbA hsA;have hm1:out.length+1≤maxLen:=by unfold maxLen;omega
   have hm2:(out.length+1)*8≤140737488355328:=by omega
   go_wp2_with(at_builtin;refine Ap.list rfl _ _ 22 rfl w.heap.size 3 j0 (.int .i64 0) 1 8 Tryz.underlying22 HJ.out HJ0.out HJ1.out HJ2.out rfl (by decide) (.slice al out.length ql) out.length (Co.ints out) rfl HRO.out (.slice (some ⟨wr.heap.size,0,none⟩) 1 1) 1 [.int .i64 x] rfl HS.out rfl (by simp[Value.oneCell']) hm1 hm2 HSZ.out ?_;intro v' w5 hown hg hat;obtain⟨al',ql',rfl⟩:=Dt.row_form hown;have HOWN:=zh hown;have HGR:=zh hg;have HAT:=zh hat;clear hown hg hat)
   have HB5:=zh (Co.grown_bl HB.out HO.out HBA.out HGR.out);have HOWN2:Hid (w5.ownsRow w.heap.size 3 1 (.slice al' (out.length+1) ql') (out.length+1) (Co.ints (out++[x]))):=by
    have h:=HOWN.out;unfold Co.ints at h ⊢;rw[List.map_append];exact h
   clear p0;have HN:Hid (Co.PInv w l n (i+1) true al' (out.length+1) ql' w5):=by
    refine⟨⟨out++[x],by rw[List.length_append];rfl,HOWN2.out,?_,by omega⟩,HB5.out⟩;have h:=HPU.out;unfold Co.PutAt at h ⊢;rw[if_pos rfl]at h ⊢;rw[List.drop_eq_getElem_cons hlt,HXX.out]at h;rw[←h];simp
   go_wp2;go_roundw
   case rel=>exact⟨i+1,_,ql',al',true,rfl,rfl,by simp,by omega,HN⟩
   case measure=>simp[intOf];omega
  |false=>
   have hpu:(∀y∈l.take i,y<n)∧out=l.take i:=by
    have h:=HPU.out;unfold Co.PutAt at h;rw[if_neg (by simp)]at h;exact h
   have HPP:=zh hpu;clear hpu;have hoi:out.length≤i:=by rw[HPP.out.2,List.length_take];omega
   by_cases hle:n≤x
   case neg=>
    have hb:decide (n≤x)=false:=decide_eq_false hle;have hWA:wr.alloc (.cells #[.int .i64 x] 3)=wr.alloc (.cells #[.int .i64 x] 3):=rfl;obtain⟨hbA,hsA⟩:=new_below hWA;have HS:Hid (Ap.Src (wr.alloc (.cells #[.int .i64 x] 3)) (.slice (some ⟨wr.heap.size,0,none⟩) 1 1) 1 [.int .i64 x]):=Co.src1p hWA;have HRO:Hid ((wr.alloc (.cells #[.int .i64 x] 3)).ownsRow w.heap.size 3 1 (.slice al out.length ql) out.length (Co.ints out)):=Dt.own_keep (S:=fun _=>False) HO.out (keep_of_below hbA) (fun _ _ h=>h);have HBA:=zh hbA;have HSZ:Hid (w.heap.size≤(wr.alloc (.cells #[.int .i64 x] 3)).heap.size):=by have h1:=hbA.size;have h2:=HWS.out;show w.heap.size≤_;omega
    clear hWA hbA hsA;have hm1:out.length+1≤maxLen:=by unfold maxLen;omega
    have hm2:(out.length+1)*8≤140737488355328:=by omega
    go_wp2_with(at_builtin;refine Ap.list rfl _ _ 22 rfl w.heap.size 3 j0 (.int .i64 0) 1 8 Tryz.underlying22 HJ.out HJ0.out HJ1.out HJ2.out rfl (by decide) (.slice al out.length ql) out.length (Co.ints out) rfl HRO.out (.slice (some ⟨wr.heap.size,0,none⟩) 1 1) 1 [.int .i64 x] rfl HS.out rfl (by simp[Value.oneCell']) hm1 hm2 HSZ.out ?_;intro v' w5 hown hg hat;obtain⟨al',ql',rfl⟩:=Dt.row_form hown;have HOWN:=zh hown;have HGR:=zh hg;have HAT:=zh hat;clear hown hg hat)
    have HB5:=zh (Co.grown_bl HB.out HO.out HBA.out HGR.out);have HOWN2:Hid (w5.ownsRow w.heap.size 3 1 (.slice al' (out.length+1) ql') (out.length+1) (Co.ints (out++[x]))):=by
     have h:=HOWN.out;unfold Co.ints at h ⊢;rw[List.map_append];exact h
    clear p0;have HN:Hid (Co.PInv w l n (i+1) false al' (out.length+1) ql' w5):=by
     refine⟨⟨out++[x],by rw[List.length_append];rfl,HOWN2.out,?_,by omega⟩,HB5.out⟩;unfold Co.PutAt;rw[if_neg (by simp),List.take_succ_eq_append_getElem hlt,HXX.out,←HPP.out.2];refine⟨fun y hy=> ?_,rfl⟩;rcases List.mem_append.1 hy with hy|hy
     ·exact HPP.out.1 y (by rw[←HPP.out.2];exact hy)
     ·obtain rfl:y=x:=by simpa using hy
      omega
    go_wp2;go_roundw
    case rel=>exact⟨i+1,_,ql',al',false,rfl,rfl,by simp,by omega,HN⟩
    case measure=>simp[intOf];omega
   have hb:decide (n≤x)=true:=decide_eq_true hle;by_cases hlx:n<x
   ·have hb2:decide (n<x)=true:=decide_eq_true hlx;have HCELL:Hid (∀w4,Below w.heap.size w w4→w4.cell? ⟨pb,po+i,none⟩=some (.int .i64 x)):=fun w4 hb=>by
     have hk:=(HI.out.keep (S:=fun _=>False) (keep_of_below hb) (fun _ _ _ h=>h))
     obtain⟨_,_,he,_,hrow⟩:=hk;injection he with he1 he2 he3
     obtain⟨pb',po',e,hGp,hbl,hcell⟩:=hrow (by intro h0;rw[h0]at hlt;simp at hlt);rw[←he1]at e;cases e;rw[←HXX.out];exact hcell i hlt
    have hWA:wr.alloc (.cells #[.int .i64 n] 3)=wr.alloc (.cells #[.int .i64 n] 3):=rfl;obtain⟨hbA,hsA⟩:=new_below hWA;have HS:Hid (Ap.Src (wr.alloc (.cells #[.int .i64 n] 3)) (.slice (some ⟨wr.heap.size,0,none⟩) 1 1) 1 [.int .i64 n]):=Co.src1p hWA;have HRO:Hid ((wr.alloc (.cells #[.int .i64 n] 3)).ownsRow w.heap.size 3 1 (.slice al out.length ql) out.length (Co.ints out)):=Dt.own_keep (S:=fun _=>False) HO.out (keep_of_below hbA) (fun _ _ h=>h);have HBA:=zh hbA;have HSZ:Hid (w.heap.size≤(wr.alloc (.cells #[.int .i64 n] 3)).heap.size):=by have h1:=hbA.size;have h2:=HWS.out;show w.heap.size≤_;omega
    clear hWA hbA hsA;have hm1:out.length+1≤maxLen:=by unfold maxLen;omega
    have hm2:(out.length+1)*8≤140737488355328:=by omega
    go_wp2_with(first|(at_builtin;refine Ap.list rfl _ _ 22 rfl w.heap.size 3 j0 (.int .i64 0) 1 8 Tryz.underlying22 HJ.out HJ0.out HJ1.out HJ2.out rfl (by decide) (.slice al out.length ql) out.length (Co.ints out) rfl HRO.out (.slice (some ⟨wr.heap.size,0,none⟩) 1 1) 1 [.int .i64 n] rfl HS.out rfl (by simp[Value.oneCell']) hm1 hm2 HSZ.out ?_;intro v' w4 hown hg hat;obtain⟨al',ql',rfl⟩:=Dt.row_form hown;have HOWN:=zh hown;have HGR:=zh hg;have HAT:=zh hat;have HOWN4:Hid (w4.ownsRow w.heap.size 3 1 (.slice al' (out.length+1) ql') (out.length+1) (Co.ints (out++[n]))):=Co.own_snoc hown;have HB4:Hid (Below w.heap.size w w4):=Co.grown_bl HB.out HO.out HBA.out hg;have p4:=HCELL.out _ HB4.out;clear hown hg hat p0 HS HRO HBA HSZ HOWN HGR HAT hm1 hm2;have hWA:(w4.alloc (.cells #[.int .i64 x] 3))=(w4.alloc (.cells #[.int .i64 x] 3)):=rfl;obtain⟨hbA,hsA⟩:=new_below hWA;have HS2:Hid (Ap.Src (w4.alloc (.cells #[.int .i64 x] 3)) (.slice (some ⟨w4.heap.size,0,none⟩) 1 1) 1 [.int .i64 x]):=Co.src1p hWA;have HRO2:Hid ((w4.alloc (.cells #[.int .i64 x] 3)).ownsRow w.heap.size 3 1 (.slice al' (out.length+1) ql') (out.length+1) (Co.ints (out++[n]))):=Dt.own_keep (S:=fun _=>False) HOWN4.out (keep_of_below hbA) (fun _ _ h=>h);have HBA2:=zh hbA;have HSZ2:Hid (w.heap.size≤(w4.alloc (.cells #[.int .i64 x] 3)).heap.size):=zh (Nat.le_trans HB4.out.size hbA.size);clear hWA hbA hsA;have hn1:out.length+1+1≤maxLen:=(by unfold maxLen;omega);have hn2:(out.length+1+1)*8≤140737488355328:=(by omega))|(at_builtin;refine Ap.list rfl _ _ 22 rfl w.heap.size 3 j0 (.int .i64 0) 1 8 Tryz.underlying22 HJ.out HJ0.out HJ1.out HJ2.out rfl (by decide) (.slice al' (out.length+1) ql') (out.length+1) (Co.ints (out++[n])) rfl HRO2.out (.slice (some ⟨w4.heap.size,0,none⟩) 1 1) 1 [.int .i64 x] rfl HS2.out rfl (by simp[Value.oneCell']) hn1 hn2 HSZ2.out ?_;intro v' w5 hown hg hat;obtain⟨al5,ql5,rfl⟩:=Dt.row_form hown;have HOWN:=zh hown;have HGR:=zh hg;have HAT:=zh hat;clear hown hg hat p4))
    have HB5:=zh (Co.grown_bl HB4.out HOWN4.out HBA2.out HGR.out);have HOWN2:Hid (w5.ownsRow w.heap.size 3 1 (.slice al5 (out.length+1+1) ql5) (out.length+1+1) (Co.ints (out++[n]++[x]))):=by
     have h:=HOWN.out;unfold Co.ints at h ⊢;rw[List.map_append (l₁:=out++[n])];exact h
    have HN:Hid (Co.PInv w l n (i+1) true al5 (out.length+1+1) ql5 w5):=by
     refine⟨⟨out++[n]++[x],by rw[List.length_append,List.length_append];rfl,HOWN2.out,?_,by omega⟩,HB5.out⟩;unfold Co.PutAt;rw[if_pos rfl,Co.put_skip l n i HPP.out.1,←HPP.out.2,List.drop_eq_getElem_cons hlt,HXX.out,Co.put,if_pos hlx];simp
    go_wp2;go_roundw
    case rel=>exact⟨i+1,_,ql5,al5,true,rfl,rfl,by simp,by omega,HN⟩
    case measure=>simp[intOf];omega
   ·have hb2:decide (n<x)=false:=decide_eq_false hlx;have hWA:wr.alloc (.cells #[.int .i64 x] 3)=wr.alloc (.cells #[.int .i64 x] 3):=rfl;obtain⟨hbA,hsA⟩:=new_below hWA;have HS:Hid (Ap.Src (wr.alloc (.cells #[.int .i64 x] 3)) (.slice (some ⟨wr.heap.size,0,none⟩) 1 1) 1 [.int .i64 x]):=Co.src1p hWA;have HRO:Hid ((wr.alloc (.cells #[.int .i64 x] 3)).ownsRow w.heap.size 3 1 (.slice al out.length ql) out.length (Co.ints out)):=Dt.own_keep (S:=fun _=>False) HO.out (keep_of_below hbA) (fun _ _ h=>h);have HBA:=zh hbA;have HSZ:Hid (w.heap.size≤(wr.alloc (.cells #[.int .i64 x] 3)).heap.size):=by have h1:=hbA.size;have h2:=HWS.out;show w.heap.size≤_;omega
    clear hWA hbA hsA;have hm1:out.length+1≤maxLen:=by unfold maxLen;omega
    have hm2:(out.length+1)*8≤140737488355328:=by omega
    go_wp2_with(at_builtin;refine Ap.list rfl _ _ 22 rfl w.heap.size 3 j0 (.int .i64 0) 1 8 Tryz.underlying22 HJ.out HJ0.out HJ1.out HJ2.out rfl (by decide) (.slice al out.length ql) out.length (Co.ints out) rfl HRO.out (.slice (some ⟨wr.heap.size,0,none⟩) 1 1) 1 [.int .i64 x] rfl HS.out rfl (by simp[Value.oneCell']) hm1 hm2 HSZ.out ?_;intro v' w5 hown hg hat;obtain⟨al',ql',rfl⟩:=Dt.row_form hown;have HOWN:=zh hown;have HGR:=zh hg;have HAT:=zh hat;clear hown hg hat)
    have HB5:=zh (Co.grown_bl HB.out HO.out HBA.out HGR.out);have HOWN2:Hid (w5.ownsRow w.heap.size 3 1 (.slice al' (out.length+1) ql') (out.length+1) (Co.ints (out++[x]))):=by
     have h:=HOWN.out;unfold Co.ints at h ⊢;rw[List.map_append];exact h
    clear p0;have HN:Hid (Co.PInv w l n (i+1) true al' (out.length+1) ql' w5):=by
     refine⟨⟨out++[x],by rw[List.length_append];rfl,HOWN2.out,?_,by omega⟩,HB5.out⟩;unfold Co.PutAt;rw[if_pos rfl,Co.put_skip l n i HPP.out.1,←HPP.out.2,List.drop_eq_getElem_cons hlt,HXX.out,Co.put,if_neg hlx,if_pos (by omega)];simp
    go_wp2;go_roundw
    case rel=>exact⟨i+1,_,ql',al',true,rfl,rfl,by simp,by omega,HN⟩
    case measure=>simp[intOf];omega
end Go.Proofs.YtfjmlfbohenmfaaGreat
namespace Go.Proofs.YtfjmlfbohenmfaaGreat
open Go.RowKit Go.Shelf Go.Maps Go.WideMaps Go.Sort
attribute [local go_sem] Oper.semAt_some
namespace Co
abbrev Nm:=List UInt8
def putT:List Nm→Nm→List Nm
  |[],n=>[n]
  |x :: r,n=>if n<x then n :: x :: r else if n=x then x :: r else x :: putT r n
def putsT(l:List Nm):List Nm:=l.foldl putT []
theorem nm_lt{x y:Nm}(h:¬x<y)(h2:¬x=y):y<x:=by
  by_cases h3:y<x
  · exact h3
  · exact absurd (List.le_antisymm (List.not_lt.1 h3) (List.not_lt.1 h)) h2
theorem putT_mem:∀(l:List Nm) (n x:Nm),x∈putT l n↔x∈l∨x=n
  |[],n,x=>by rw[putT];simp
  | y :: r, n, x => by
    rw[putT];split
    · simp only[List.mem_cons]
      constructor
      · rintro(h|h|h)
        · exact .inr h
        · exact .inl (.inl h)
        · exact .inl (.inr h)
      · rintro((h|h)|h)
        · exact .inr (.inl h)
        · exact .inr (.inr h)
        · exact .inl h
    split
    · rename_i h1 h2
      subst h2;simp only[List.mem_cons];constructor
      · exact fun h=> .inl h
      · rintro(h|h)
        · exact h
        · exact .inl h
    · simp only[List.mem_cons]
      rw[putT_mem r n x];constructor
      · rintro(h|h|h)
        · exact .inl (.inl h)
        · exact .inl (.inr h)
        · exact .inr h
      · rintro((h|h)|h)
        · exact .inl h
        · exact .inr (.inl h)
        · exact .inr (.inr h)
theorem putT_sorted:∀ {l:List Nm} (n:Nm),l.Pairwise (· < ·)→(putT l n).Pairwise (· < ·)
  |[],n,_=>by rw[putT];simp
  | y :: r, n, h => by
    rw[List.pairwise_cons]at h;rw[putT];split
    · rename_i h1
      rw[List.pairwise_cons,List.pairwise_cons];refine⟨fun x hx=> ?_,h⟩;rcases List.mem_cons.1 hx with rfl|hx
      · exact h1
      · exact List.lt_trans h1 (h.1 x hx)
    split
    · rw[List.pairwise_cons];exact h
    · rename_i h1 h2
      rw[List.pairwise_cons];refine⟨fun x hx=> ?_,putT_sorted n h.2⟩;rcases(putT_mem r n x).1 hx with hx|rfl
      · exact h.1 x hx
      · exact nm_lt h1 h2
theorem foldl_putT:∀(l acc:List Nm),acc.Pairwise (· < ·)→(l.foldl putT acc).Pairwise (· < ·)∧∀x,x∈l.foldl putT acc↔x∈acc∨x∈l
  |[],acc,h=>⟨h,fun x=>by simp⟩
  | n :: r, acc, h => by
    obtain⟨h1,h2⟩:=foldl_putT r (putT acc n) (putT_sorted n h);rw[List.foldl_cons];refine⟨h1,fun x=> ?_⟩;rw[h2,putT_mem,List.mem_cons,or_assoc]
theorem putsT_mem(l:List Nm)(x:Nm):x∈putsT l↔x∈l:=by
  unfold putsT;rw[(foldl_putT l [] List.Pairwise.nil).2];simp
theorem putsT_sorted(l:List Nm):(putsT l).Pairwise (· < ·):=(foldl_putT l [] List.Pairwise.nil).1
def globsOf(l:List C):List Nm:=l.flatMap fun x=>if x.k=3∨x.k=5∨x.k=6 then [x.s.data.toList]else []
def globV(c:C):List Nm:=putsT (globsOf (all c))
theorem globsOf_app(a b:List C):globsOf (a++b)=globsOf a++globsOf b:=by unfold globsOf;rw[List.flatMap_append]
theorem str_list(s:ByteArray):(⟨s.data.toList.toArray⟩:ByteArray)=s:=by cases s;simp
def mSB:Vm.MK Tryz.prog Nm Bool where
  mt:=86
  kt:=9
  et:=4
  under:=Tryz.underlying86
  keyed:=string_keyed Tryz.underlying9
  kv:=fun x=> .string ⟨x.toArray⟩
  kl:=fun x=> .string x
  okK:=fun x=>x.length≤maxLen
  keyOf_:=fun k h=>by
    have:=keyOf_string_mk Tryz.underlying9 (P:=Tryz.prog) (s:=⟨k.toArray⟩) (by show k.toArray.size≤maxLen;simpa using h);simpa using this
  kl_inj:=fun a b h=>by cases h;rfl
  isKey:=fun _=>trivial
  ev:=fun b=> .bool b
  ed:=fun b=> .lit (.bool b)
  ed_inj:=fun a b h=>by cases h;rfl
  z:=false
  zero:=zeroB
  rd:=rdB
  rd_ev:=fun _=>rfl
  rd_inv:=mIB.rd_inv
def onT(q:Nm→Bool):Nm→Option Bool:=fun x=>if q x then some true else none
theorem onT_upd(q:Nm→Bool)(s:Nm):Vm.upd (onT q) s true=onT fun x=>q x||decide (x=s):=by
  funext x
  unfold Vm.upd onT;dsimp only;by_cases h:x=s
  · rw[if_pos h,if_pos (by simp[h])]
  · rw[if_neg h]
    by_cases hq:q x=true <;> simp[h,hq]
def TSet(w:World)(b n:Nat)(q:Nm→Bool):Prop:=Vm.Mp mSB w b n (onT q)
theorem TSet.ext{w:World}{b n:Nat}{q q':Nm→Bool}(h:TSet w b n q)(e:∀x,q x=q' x):TSet w b n q':=by rw[show q'=q from funext fun x=>(e x).symm];exact h
theorem TSet.mono{w:World}{b n m:Nat}{q:Nm→Bool}(h:TSet w b n q)(hm:n≤m):TSet w b m q:=Vm.Mp.mono h hm
theorem TSet.made(w:World):TSet (w.alloc (.map #[] 0)) w.heap.size 0 fun _=>false:=Vm.Mp.made mSB w
theorem TSet.put{w:World}{b n:Nat}{q:Nm→Bool}(h:TSet w b n q)(hn:n<maxLen){s:ByteArray}(hs:s.size≤maxLen):
    ∃w',(Instr.mapUpdate 86 (.map (some b)) (.string s) (.bool true)).run Tryz.prog w= .ok () w'∧TSet w' b (n+1) (fun x=>q x||decide (x=s.data.toList))∧Keep (fun k=>k=b) w w':=by
  obtain⟨w',h2,h3,h4⟩:=Vm.Mp.set h hn (s:=s.data.toList) (by show s.data.toList.length≤maxLen;simpa using hs) true;rw[onT_upd]at h3;rw[show mSB.kv s.data.toList= .string s from by show Value.string _=_;rw[str_list]]at h2;exact⟨w',h2,h3,h4⟩
theorem sortedT_of_perm{ss L:List Nm}(h:ss.Perm L)(hL:L.Pairwise (· < ·)):ss.mergeSort (fun x y=>decide (x≤y))=L:=by
  have e:=mergeSort_of_perm h;have e2:L.mergeSort leB=L:=List.mergeSort_of_pairwise (hL.imp fun {a b} hab=>by simp only[leB,decide_eq_true_eq];exact List.le_of_lt hab);exact e.trans e2
theorem fm_name(k:Int):((fm k).2.1==2)=decide (k=3∨k=5∨k=6):=by
  by_cases h:1≤k∧k≤10
  · obtain rfl|rfl|rfl|rfl|rfl|rfl|rfl|rfl|rfl|rfl:k=1∨k=2∨k=3∨k=4∨k=5∨k=6∨k=7∨k=8∨k=9∨k=10:=by omega
    all_goals rfl
  · unfold fm
    rw[if_neg h,decide_eq_false (by omega)]
    rfl
theorem nrow_mono{F G:Nat→Prop}{w:World}{v:Value}{l:List ByteArray}(hFG:∀b,F b→b<w.heap.size→G b)(h:Cd.NameRow F w v l):Cd.NameRow G w v l:=by
  obtain⟨a0,c0,i1,i2,i3⟩:=h;refine⟨a0,c0,i1,i2,fun hn=> ?_⟩;obtain⟨b,o,g1,g2,g3,g4⟩:=i3 hn;exact⟨b,o,g1,hFG b g2 g3,g3,g4⟩
theorem nameRow_of_own{w:World}{base:Nat}{v:Value}{l:List Nm}(h:w.ownsRow base 9 1 v l.length (l.map encStr)):Cd.NameRow (fun k=>base≤k) w v (l.map fun x=>⟨x.toArray⟩):=by
  have hc:=fun g hg=>h.cells (g:=g) hg
  rcases h.2 with⟨h1,h0⟩|⟨g,cap,cur,rfl,e2,e3,e4,_⟩
  · have:l=[]:=List.length_eq_zero_iff.1 h0
    subst this;exact⟨none,0,by rw[h1];rfl,Nat.le_refl _,fun hn=>absurd rfl hn⟩
  · refine⟨some ⟨g,0,none⟩,cap,by simp,by simpa using e4,fun _=>⟨g,0,rfl,e2,(Array.getElem?_eq_some_iff.1 e3).1,fun j hj=> ?_⟩⟩
    have hj':j<l.length:=by simpa using hj
    have:=hc g rfl j (encStr l[j]) (by simp[hj']);rw[show(⟨g,0,none⟩:Addr).add j=⟨g,0+j,none⟩by unfold Addr.add;split <;> simp_all]at this;rw[this];simp[encStr]
end Co
theorem sortsS(m:Nat):AnyZ.SortsIn Tryz.prog Tryz.sortedS_ren Fence.wide m:=
  ⟨fun blk off cap ss W hH hblk hsz=>callsIn_wide.2 (AnyM.slices_Sort_string Tryz.sortS blk off cap ss W hH hblk hsz),
   fun p cap W=>callsIn_wide.2 (AnyM.slices_Sort_string_none Tryz.sortS p cap W)⟩
theorem keysS_any(mb:Option Nat)(W:World):Calls Tryz.prog 51 #[.map mb] W fun e w'=>e= .returned (.func (.func 76) #[] #[.pointer (some ⟨W.heap.size,0,none⟩)])∧w'=W.alloc (.cells #[.map mb] 86):=
  (callsIn_wide (n:=5)).1 (AnyZ.keys_in Tryz.keysS Fence.wide 5 trivial rfl mb W)
theorem sortedS_any(b n:Nat)(q:Co.Nm→Bool)(L:List Co.Nm)(W:World)(h:Co.TSet W b n q)(hL:L.Pairwise (· < ·))(hm:∀x,q x=L.contains x)(hn:n≤16777216):
    Calls Tryz.prog 50 #[.func (.func 76) #[] #[.pointer (some ⟨W.heap.size,0,none⟩)]] (W.alloc (.cells #[.map (some b)] 86)) fun e w'=>∃v,e= .returned v∧
      w'.ownsRow (W.alloc (.cells #[.map (some b)] 86)).heap.size 9 1 v L.length (L.map encStr)∧(v= .slice none 0 0↔L=[])∧Below (W.alloc (.cells #[.map (some b)] 86)).heap.size (W.alloc (.cells #[.map (some b)] 86)) w':=by
  obtain⟨D0,hown,hhas⟩:=h;have hown0:=hown;have hbl:=hown.lt;have hsz:=hown.size_le;have hseq:SeqGives Fence.wide 2 Tryz.prog 76 #[.pointer (some ⟨W.heap.size,0,none⟩)] encStr (fun ss=>ss.Perm (strKeys D0)) (Maps.size D0) (W.alloc (.cells #[.map (some b)] 86)):=
    AnyZ.keys_gives (ρ:=Tryz.keysS_ren) {Tryz.keysS with} Fence.wide _ trivial rfl (by omega) W.heap.size b n D0 _ (by simp) (by simp) (by
      obtain⟨es,clock,hb,Ft,hs,hD⟩:=hown;exact⟨es,clock,(Below.heap_alloc _ _ b hbl).trans hb,Ft,hs,hD⟩)
  have cS:=AnyZ.sorted_in Tryz.sortedS Fence.wide 5 trivial trivial trivial trivial rfl (by omega) (sortsS _) (enters_of Tryz.func75 (by kernel_rfl) rfl) 76 #[.pointer (some ⟨W.heap.size,0,none⟩)] trivial (enters_of Tryz.func76 (by kernel_rfl) rfl) _ _ (by unfold maxLen;omega) (by omega) _ hseq;change CallsIn _ _ Tryz.prog 50 _ _ _ at cS;refine((callsIn_wide (n:=5)).1 cS).mono ?_;rintro e w' ⟨v,ss,rfl,hS,hrow,hnil,hb⟩;have hnd:L.Nodup:=List.Pairwise.imp (fun {a b} (hab:a<b) (e:a=b)=>List.lt_irrefl b (by rw[e]at hab;exact hab)) hL;have hLK:L.Perm (strKeys D0):=by
    obtain⟨es,hD,hpw,_⟩:=hown0.entries Co.mSB.keyed;obtain⟨es',hD',hko⟩:=hown0.keysOf;obtain rfl:es=es':=by rw[hD]at hD';simpa using hD'
    subst hD;refine perm_strKeys hpw (fun p hp=>by obtain⟨v,hv⟩:=hko p hp;obtain⟨x,_,hx,_⟩:=Maps.keyOf_str Tryz.underlying9 hv;exact⟨x,hx⟩) hnd fun x=> ?_
    have h1:=(hhas x).1;rw[show Co.mSB.kl x=Lit.string x from rfl]at h1;rw[h1,←List.contains_iff_mem,←hm x];unfold Co.onT;cases q x <;> simp
  have hp:ss.Perm L:=hS.trans hLK.symm;rw[Co.sortedT_of_perm hp hL,hp.length_eq]at hrow;refine⟨v,rfl,hrow,hnil.trans ⟨fun e=> ?_,fun e=> ?_⟩,hb⟩
  · rw[e]at hp;exact hp.nil_eq.symm
  · rw[e]at hp;exact hp.eq_nil
namespace Co
def GI(w:World)(Bx m:Nat)(pre:List PC)(W:World):Prop:=Boxed W Bx 86 (.map (some m))∧TSet W m pre.length (globsOf (pre.map PC.c)).contains∧Below w.heap.size w W
theorem tset_grown{W W':World}{row:Option Nat}{m n:Nat}{q:Nm→Bool}(h:TSet W m n q)(hg:W.grownBy W' row)(hne:some m≠row):TSet W' m n q:=Vm.Mp.heap h (hg.block m (Vm.Mp.lt h) hne)
theorem GI.grown{w W W':World}{Bx m B:Nat}{pre:List PC}{row:Option Nat}(h:GI w Bx m pre W)(hw:w.heap.size≤B)(hR:Bx<B)(hm:m<B)(hg:W.grownBy W' row)(hr:∀r,row=some r→B≤r):GI w Bx m pre W':=
  ⟨h.1.kept hg (fun e=>by have:=hr Bx e.symm;omega),tset_grown h.2.1 hg (fun e=>by have:=hr m e.symm;omega),Cd.below_grown h.2.2 hw hg hr⟩
def GAx(w:World)(Bx m:Nat)(tm:Nat→PC→Array Value)(pre:List PC)(x:PC)(a':Act)(W:World):Prop:=
  GI w Bx m pre W∧Wf x.c∧∃Xb,Bc W Xb x.c x.vm x.vl x.vt x.vp x.vk∧a'= {tmps:=tm Xb x,defers:=[]}
end Co
theorem globC_any{F:Nat→Prop}(c:Co.C)(vm vl vt vp vk:Value)(w:World)(hW:Co.Wf c)(hR:Co.Rep F w c vm vl vt vp vk):
    Calls Tryz.prog 20 #[Co.V c vm vl vt vp vk] w fun e w'=>∃v,e= .returned v∧Cd.NameRow (fun k=>w.heap.size≤k) w' v ((Co.globV c).map fun x=>⟨x.toArray⟩)∧Below w.heap.size w w':=by
  unfold Co.V;obtain⟨w1,hw1⟩:∃w1,w.alloc (.cells #[.int .i64 c.k,.int .i64 c.n,.string c.s,.int .i64 c.d.k,.int .i64 c.d.n,.string c.d.s,vm,vl,vt,vp,vk] 28)=w1:=⟨_,rfl⟩
  obtain⟨w2,hw2⟩:∃w2,w1.alloc (.map #[] 0)=w2:=⟨_,rfl⟩
  obtain⟨m,hm⟩:∃m,w1.heap.size=m:=⟨_,rfl⟩
  obtain⟨w3,hw3⟩:∃w3,w2.alloc (.cells #[.map (some m)] 86)=w3:=⟨_,rfl⟩
  obtain⟨Bx,hBx⟩:∃Bx,w2.heap.size=Bx:=⟨_,rfl⟩
  obtain⟨hb1,hs1⟩:=new_below hw1;obtain⟨hb2,hs2⟩:=new_below hw2;obtain⟨hb3,hs3⟩:=new_below hw3;have hc3:Hp w3 w.heap.size _ _:=((Hp.new hw1).below hb2).below hb3;have hst:=Co.TSet.made w1;rw[hw2,hm]at hst;have hbx:=Boxed.new w2 86 (.map (some m));rw[hw3,hBx]at hbx;have hb03:Below w.heap.size w w3:=hb1.trans ((hb2.mono (by omega)).trans (hb3.mono (by omega)));have HB3:=zh hb03;have HST:=zh (Vm.Mp.below hst hb3:Co.TSet _ _ _ _);have HBX:=zh hbx;have HSZ:Hid (m=w.heap.size+1∧Bx=w.heap.size+2∧w3.heap.size=w.heap.size+3):=⟨by omega,by omega,by omega⟩
  have hal:=coAll_any c vm vl vt vp vk w3;unfold Co.V at hal;have Hc:=zh hc3;have HR:=zh hR;have HWF:=zh hW;obtain⟨c0,c1,c2,c3,c4,c5,c6,c7,c8,c9,c10⟩:=Hc.out.c11;have HLIM:=zh (Co.all_len c);clear hb1 hs1 hb2 hs2 hb3 hs3 hc3 hst hbx hb03 hW hR;have hmm:=@run_makeMap Tryz.prog;refine(callsIn_wide (n:=12)).1 ?_;refine callsIn_of_wp_marks Tryz.func20 rfl trivial ?_ rfl;simp only[Tryz.ntmps20,List.size_toArray,List.length_cons,List.length_nil,Nat.reduceAdd,Nat.reduceSub,Array.replicate_succ,Array.replicate_zero,List.push_toArray,List.append_toArray,List.nil_append,List.cons_append]
  gi_wp2_with (refine⟨trivial,?_⟩;gi_at_call 17;refine(callsIn_wide.2 hal).mono ?_;clear hal hw1 hw2 hw3 hmm;rintro e W0 ⟨rfl,hb4,hbc4,hz4⟩;have HW0:=zh (btr HB3.out hb4);have HST0:=zh (Vm.Mp.below HST.out hb4:Co.TSet _ _ _ _);have HBX0:Hid (Boxed W0 Bx 86 (.map (some m))):=Cd.boxed_below HBX.out hb4 HBX.out.lt;have HBC4:=zh hbc4;have HZ4:=zh hz4;clear hb4 hbc4 hz4;clear c0 c1 c2 c3 c4 c5 c6 c7 c8 c9 c10)
  obtain⟨Y,hY⟩:∃Y,w3.heap.size=Y:=⟨_,rfl⟩
  have HY:=zh hY;rw[hY]at HBC4 HZ4 ⊢;clear hY;have hwz:w.heap.size≤W0.heap.size:=HW0.out.size;have hRz:=HBX0.out.lt;have hmz:m<W0.heap.size:=Vm.Mp.lt HST0.out;have HRP:Hid (Co.Rep (fun k=>k<w.heap.size) W0 c vm vl vt vp vk):=(Co.Rep.mono (fun _ _ h=>h) c HR.out).below HW0.out;refine Rb.wpIn_rangeB (n:=12) rfl (by omega) (gf:=43) (lb:=#[.pointer (some ⟨Y,0,none⟩)]) rfl trivial (enters_of Tryz.func43 (by kernel_rfl) rfl)
    (encs:=Co.encC) (Kp:=Keep fun k=>k=m∨k=W0.heap.size+1) (V:=Co.VC) (S:=fun ys=>ys.map Co.PC.c=Co.all c) (Sp:=fun ys=>ys.map Co.PC.c<+:Co.all c) (N:=(Co.all c).length) (w0:=W0)
    (coAll_stops 11 c vm vl vt vp vk W0 (fun k=>k=m) Y (fun k e=>by omega) HWF.out HRP.out (fun k hk=>⟨by omega,fun e=>by have:=HSZ.out;omega⟩) HBC4.out)
    (fun h k=>h.trans k) (fun W o o' _ _=>Cd.keep_putObj W (W0.heap.size+1) o' (.inr rfl)) (Below.refl _ _) (fun _=>rfl)
    (Co.GI w Bx m) (fun _ _ _=>False)
    (fun pre W W' row h hg hr=>Co.GI.grown h hwz hRz hmz hg (fun r e=>(hr r e).1))
    (fun c pre W W' row h hg hr=>h.elim)
    (fun pre W W' h _ hb=>⟨Cd.boxed_below h.1 hb (by omega),Vm.Mp.heap h.2.1 (hb.block m (by omega)),h.2.2.trans (hb.mono (by omega))⟩)
    (fun c pre W W' h _ hb=>h.elim)
    ⟨HBX0.out,Co.TSet.ext HST0.out (fun x=>rfl),HW0.out⟩
    (Co.GAx w Bx m (fun Xb p=>#[.agg #[.int .i64 c.k,.int .i64 c.n,.string c.s,.int .i64 c.d.k,.int .i64 c.d.n,.string c.d.s,vm,vl,vt,vp,vk],.pointer (some ⟨w.heap.size,0,none⟩),.slice none 0 0,.pointer (some ⟨Bx,0,none⟩),.pointer (some ⟨Xb,0,none⟩),undef,undef,.map (some m),.agg #[.int .i64 c.k,.int .i64 c.n,.string c.s,.int .i64 c.d.k,.int .i64 c.d.n,.string c.d.s,vm,vl,vt,vp,vk],.func (.func 43) #[] #[.pointer (some ⟨Y,0,none⟩)],.agg #[.int .i64 p.c.k,.int .i64 p.c.n,.string p.c.s,.int .i64 p.c.d.k,.int .i64 p.c.d.n,.string p.c.d.s,p.vm,p.vl,p.vt,p.vp,p.vk],undef,undef,undef,undef,undef,undef,undef,undef,undef,undef,undef,undef,undef,undef,undef]))
    (fun pre y a' _ W W' row h hg hr=> ?grown)
    ?assign ?body ?done ?stop
  case grown=>
    obtain⟨h1,h2,Xb,h3,h4⟩:=h;refine⟨h1.grown hwz hRz hmz hg (fun r e=>(hr r e).1),h2,Xb,(hg.block Xb h3.lt (fun e=> ?_)).trans h3,h4⟩;obtain⟨-,o,ho,hc⟩:=hr Xb e.symm;rw[show W.heap[Xb]?=_ from h3]at ho;cases ho;cases hc
  case assign=>
    rintro l pre ⟨pc,pm,pl,pt,pp,pk⟩ W K hT hV hK;have HV:=zh hV;obtain⟨b1,n1,q1,b2,n2,q2,b3,n3,q3,b4,n4,q4,b5,n5,q5,e1,e2,e3,e4,e5⟩:=Co.Rep.forms5 (show Co.Rep (fun _=>True) W pc pm pl pt pp pk from hV.1);subst e1 e2 e3 e4 e5;unfold Co.encC Co.V;dsimp only
    gi_wp2
    refine hK _ _ ?_ ?_ ?_
    · exact(KeepsOthers.alloc _ _).from _
    · exact(Keep.refl _ _).alloc _
    exact⟨hT.grown hwz hRz hmz (World.grownBy_alloc W _ none) (by simp),HV.out.2.1,W.heap.size,Hp.new rfl,rfl⟩
  case body=>
    rintro l pre ⟨pc,pm,pl,pt,pp,pk⟩ a' W hl ⟨r,hr⟩ ⟨hT,hV,Xb,hX,rfl⟩ hlt;dsimp only at hX hV ⊢;have hX':Hp W Xb _ _:=hX;have x0:=hX'.cell 0 rfl;have x1:=hX'.cell 1 rfl;have b3:=hT.1.cell;have HT:=zh hT;have hfm:=fun W=>forms_any pc.k W
    obtain⟨fs,fh,fl,ft,hfv,hfh⟩:∃(fs:ByteArray) (fh fl ft:Int),Co.fmV pc.k= .agg #[.string fs,.int .i64 fh,.int .i64 fl,.int .i64 ft]∧(fh==2)=decide (pc.k=3∨pc.k=5∨pc.k=6):=⟨_,_,_,_,rfl,Co.fm_name pc.k⟩
    rw[hfv]at hfm;obtain⟨ik,hik⟩:∃ik,Co.isKind pc.k=ik:=⟨_,rfl⟩
    rw[hik]at hfm;have HX':=zh hX';clear hfv hik;obtain⟨G,hG⟩:∃G,decide (pc.k=3∨pc.k=5∨pc.k=6)=G:=⟨_,rfl⟩
    rw[hG]at hfh;have HG:=zh hG;have hsz:pc.s.size≤maxLen:=by have:=(Co.wf_parts hV).2.1;unfold maxLen;omega
    clear hG hT hV hX hX'
    cases G with
    | true =>
      gi_wp2_with (first
        |(refine⟨trivial,?_⟩;gi_at_call 49;refine(callsIn_wide.2 (hfm _)).mono ?_;rintro e w2 ⟨rfl,hb2⟩;clear hfm x0 x1 b3;have hw3:w2.alloc (.cells #[.string fs,.int .i64 fh,.int .i64 fl,.int .i64 ft] 88)=w2.alloc (.cells #[.string fs,.int .i64 fh,.int .i64 fl,.int .i64 ft] 88):=rfl;obtain⟨hb3,-⟩:=new_below hw3;have f0:=(Hp.new hw3).cell 0 rfl;have f1:=(Hp.new hw3).cell 1 rfl;have HB23:=zh ((btr hb2 hb3));have hX3:=HX'.out.below HB23.out;have x2:=hX3.cell 2 rfl;have b3:=(Cd.boxed_below HT.out.1 HB23.out HT.out.1.lt).cell;obtain⟨w',hput,hs',hk'⟩:=Co.TSet.put (Vm.Mp.below HT.out.2.1 HB23.out:Co.TSet _ _ _ _) (by have:=HLIM.out;unfold maxLen;omega) hsz;have HF:=zh (And.intro hs' hk');clear hb2 hb3 hw3 hX3 hs' hk')
        |fail)
      have hk0:Keep (fun k=>k=m) W w':=((Keep.refl _ W).below HB23.out).trans HF.out.2;have hkk:Keep (fun k=>k=m∨k=W0.heap.size+1) W w':=hk0.le fun k e=> .inl e
      refine⟨⟨hk0.size,fun k o hB h _=>(hk0.block k (Array.getElem?_eq_some_iff.1 h).1 (fun e=>by omega)).trans h⟩,hkk,(hk0.block Bx HT.out.1.lt (fun e=>by have:=HSZ.out;omega)).trans HT.out.1,?_,HT.out.2.2.trans (hk0.to_below (fun k e=>by have:=HSZ.out;omega) HT.out.2.2.size)⟩;rw[List.length_append];refine HF.out.1.ext fun y=> ?_
      have hq:=of_decide_eq_true HG.out;rw[List.map_append,Co.globsOf_app,Bool.eq_iff_iff,Bool.or_eq_true,List.contains_iff_mem,List.contains_iff_mem,List.mem_append,decide_eq_true_eq];refine or_congr Iff.rfl ?_;unfold Co.globsOf;simp[hq]
    | false =>
      have HF:Hid (Co.GI w Bx m (pre++[⟨pc,pm,pl,pt,pp,pk⟩]) W):=by
        have hq:=of_decide_eq_false HG.out;refine⟨HT.out.1,?_,HT.out.2.2⟩;rw[List.length_append];refine(Co.TSet.mono HT.out.2.1 (Nat.le_succ _)).ext fun y=> ?_
        rw[List.map_append,Co.globsOf_app];unfold Co.globsOf;simp[hq]
      clear hsz
      gi_wp2_with (first
        |(refine⟨trivial,?_⟩;gi_at_call 49;refine(callsIn_wide.2 (hfm _)).mono ?_;rintro e w2 ⟨rfl,hb2⟩;clear hfm x0 x1 b3;have hw3:w2.alloc (.cells #[.string fs,.int .i64 fh,.int .i64 fl,.int .i64 ft] 88)=w2.alloc (.cells #[.string fs,.int .i64 fh,.int .i64 fl,.int .i64 ft] 88):=rfl;obtain⟨hb3,-⟩:=new_below hw3;have f0:=(Hp.new hw3).cell 0 rfl;have f1:=(Hp.new hw3).cell 1 rfl;have HB23:=zh ((btr hb2 hb3));clear hb2 hb3 hw3)
        |fail)
      have hk0:Keep (fun k=>k=m) W _:=(Keep.refl _ W).below HB23.out;refine⟨⟨hk0.size,fun k o hB h _=>(HB23.out.block k (Array.getElem?_eq_some_iff.1 h).1).trans h⟩,hk0.le fun k e=> .inl e,?_⟩;have h:=HF.out;exact⟨Cd.boxed_below h.1 HB23.out h.1.lt,Vm.Mp.heap h.2.1 (HB23.out.block m (Vm.Mp.lt h.2.1)),h.2.2.trans (HB23.out.mono h.2.2.size)⟩
  case done=>
    rintro D ys W hD hS hI hK;have b3:=hI.1.cell;have hke:=keysS_any (some m) W;have hset:=hI.2.1;rw[hS]at hset;have hl:ys.length=(Co.all c).length:=by rw[←hS,List.length_map]
    have hso:=sortedS_any m ys.length _ (Co.globV c) W hset (Co.putsT_sorted _) (fun x=>by rw[Bool.eq_iff_iff,List.contains_iff_mem,List.contains_iff_mem];exact(Co.putsT_mem _ x).symm) (by have:=HLIM.out;omega);have hb1:Below W.heap.size W (W.alloc (.cells #[.map (some m)] 86)):=(Below.refl _ _).alloc (Nat.le_refl _) _;have HB1:=zh hb1;have HI:=zh hI;clear hI hset hl hb1 hS
    gi_wp2_with (first
      |(refine⟨trivial,?_⟩;gi_at_call 51;refine(callsIn_wide.2 hke).mono ?_;rintro e w6 ⟨rfl,rfl⟩)
      |(refine⟨trivial,?_⟩;gi_at_call 50;refine(callsIn_wide.2 hso).mono ?_;rintro e w7 ⟨v,rfl,hrow,-,hb7⟩;have HROW:=zh hrow;have HB7:=zh ((btr HB1.out hb7));clear hrow hb7 hke hso b3)
      |fail)
    have hK7:w7.heap[D]?=some (.deferred (some [])):=(HB7.out.block D (Array.getElem?_eq_some_iff.1 hK).1).trans hK;refine⟨by simp,.inl ⟨_,_,rfl,run_takeDeferred hK7,?_⟩⟩;refine⟨_,results_tmp rfl _ _ _,v,rfl,?_,?_⟩
    · exact Co.nrow_mono (fun b hb _=>by have h2:=HI.out.2.2.size;have h3:=HB1.out.size;omega) (Co.nameRow_of_own (ownsRow_putObj HROW.out _ hK7 rfl))
    · exact(HI.out.2.2.trans (HB7.out.mono HI.out.2.2.size)).trans (belowK_b (w:=w) (Nat.le_refl _) w7 D _ _ (by omega) hK7 rfl rfl)
  case stop=>
    rintro D c pre W hD hp h hK;exact h.elim
end Go.Proofs.YtfjmlfbohenmfaaGreat
namespace Go.Proofs.YtfjmlfbohenmfaaGreat
open Go.RowKit Go.Maps Go.WideMaps
attribute [local go_sem] Oper.semAt_some
namespace Co
mutual
theorem snd_alone:∀(c:C),Snd c→∀x∈parts c,alone x=true
 | .mk k n s d p l,h,x,hx=>by
  rw[Snd]at h;rw[parts]at hx;rcases List.mem_cons.1 hx with rfl|hx
  ·exact h.1
  ·exact snds_alone l h.2.2 x hx
theorem snds_alone:∀(l:List C),Snds l→∀x∈partsL l,alone x=true
 |[],_,x,hx=>by rw[partsL]at hx;simp at hx
 |c :: r,h,x,hx=>by
  rw[Snds]at h;rw[partsL]at hx;rcases List.mem_append.1 hx with hx|hx
  ·exact snd_alone c h.1 x hx
  ·exact snds_alone r h.2 x hx
end
theorem check_p32{c:C}{win:List Int}(h:check c win=0):∀x∈parts c,x.p.length≤32:=fun x hx=>
 alone_p32 (snd_alone c (goes_snd (r:=(goes false c 1 win true 0 win).2) c (Prod.ext h rfl)).1 x hx)
end Co
theorem coAlike_any{F G:Nat→Prop}(a b:Co.C)(vm vl vt vp vk um ul ut up uk:Value)(w:World)(hWa:Co.Wf a)(hWb:Co.Wf b)(hRa:Co.Rep F w a vm vl vt vp vk)(hRb:Co.Rep G w b um ul ut up uk):
  Calls Tryz.prog 14 #[Co.V a vm vl vt vp vk,Co.V b um ul ut up uk] w fun e w'=>e= .returned (.bool (Co.alike a b))∧Below w.heap.size w w':=by
 unfold Co.V;obtain⟨w1,hw1⟩:∃w1,w.alloc (.cells #[.int .i64 a.k,.int .i64 a.n,.string a.s,.int .i64 a.d.k,.int .i64 a.d.n,.string a.d.s,vm,vl,vt,vp,vk] 28)=w1:=⟨_,rfl⟩
 obtain⟨w2,hw2⟩:∃w2,w1.alloc (.cells #[.int .i64 b.k,.int .i64 b.n,.string b.s,.int .i64 b.d.k,.int .i64 b.d.n,.string b.d.s,um,ul,ut,up,uk] 28)=w2:=⟨_,rfl⟩
 obtain⟨hb1,hs1⟩:=new_below hw1;obtain⟨hb2,hs2⟩:=new_below hw2;obtain⟨B0,hB0⟩:∃B0,w1.heap.size=B0:=⟨_,rfl⟩
 have ha:Hp w2 w.heap.size _ _:=(Hp.new hw1).below hb2;have hb:Hp w2 w1.heap.size _ _:=Hp.new hw2;rw[hB0]at hb;have hb02:Below w.heap.size w w2:=hb1.trans (hb2.mono (by omega));have hca:=fun W (hb:Below w2.heap.size w2 W)=>checkC_any (F':=fun _=>True) a vm vl vt vp vk (.slice none 0 0) [] W hWa ((hRa.below hb02).below hb) ⟨none,0,rfl,Nat.le_refl _,fun h=>absurd rfl h⟩ (by simp) (by simp)
 have hcb:=fun W (hb:Below w2.heap.size w2 W)=>checkC_any (F':=fun _=>True) b um ul ut up uk (.slice none 0 0) [] W hWb ((hRb.below hb02).below hb) ⟨none,0,rfl,Nat.le_refl _,fun h=>absurd rfl h⟩ (by simp) (by simp)
 unfold Co.V at hca hcb;obtain⟨ea,hea⟩:∃ea,Co.check a []=ea:=⟨_,rfl⟩
 obtain⟨eb,heb⟩:∃eb,Co.check b []=eb:=⟨_,rfl⟩
 have hal:Co.alike a b=(decide (ea=0)&&decide (eb=0)&&(Co.besideG Co.step a b 1 8192 []).1):=by rw[←hea,←heb,Co.besideG_step];rfl
 rw[hea]at hca;rw[heb]at hcb;rw[hal];have HA:=zh ha;have HB:=zh hb;have HB02:=zh hb02;have HWA:=zh hWa;have HWB:=zh hWb;have HRA:=zh hRa;have HRB:=zh hRb;have HEA:=zh hea;have HSZ:Hid (w2.heap.size=w.heap.size+2):=by show _=_;omega
 obtain⟨a0,a1,a2,a3,a4,a5,a6,a7,a8,a9,a10⟩:=HA.out.c11;obtain⟨b0,b1,b2,b3,b4,b5,b6,b7,b8,b9,b10⟩:=HB.out.c11;clear ha hb hb1 hb2 hs1 hs2 hb02 hWa hWb hRa hRb hea heb hal;by_cases h1:ea=0
 case neg=>
  have t1:(ea !=0)=true:=by simpa using h1
  have D1:decide (ea=0)=false:=decide_eq_false h1;clear h1;rw[D1];go_enter Tryz.func14,Tryz.ntmps14;go_wp2_with fail
  refine(hca w2 (Below.refl _ _)).mono ?_;rintro e w3 ⟨rfl,hb3⟩;have HB3:Hid (Below w.heap.size w w3):=btr HB02.out hb3;clear hca hcb hb3 hw1 hw2;clear a0 a1 a2 a3 a4 a5 a6 a7 a8 a9 a10 b0 b1 b2 b3 b4 b5 b6 b7 b8 b9 b10;go_wp2;go_ret;exact⟨rfl,HB3.out⟩
 have t1:(ea !=0)=false:=by simpa using h1
 subst h1;by_cases h2:eb=0
 case neg=>
  have t2:(eb !=0)=true:=by simpa using h2
  have D1:decide (eb=0)=false:=decide_eq_false h2;clear h2;rw[D1];go_enter Tryz.func14,Tryz.ntmps14;go_wp2_with fail
  refine(hca w2 (Below.refl _ _)).mono ?_;rintro e w3 ⟨rfl,hb3⟩;have HB3:=zh hb3;have HBB:=zh (HB.out.below hb3);clear hca hb3 hw1 hw2;clear a0 a1 a2 a3 a4 a5 a6 a7 a8 a9 a10 b0 b1 b2 b3 b4 b5 b6 b7 b8 b9 b10;obtain⟨b0,b1,b2,b3,b4,b5,b6,b7,b8,b9,b10⟩:=HBB.out.c11;go_wp2_with fail
  refine(hcb w3 HB3.out).mono ?_;rintro e w4 ⟨rfl,hb4⟩;have HB4:Hid (Below w.heap.size w w4):=HB02.out.trans (((btr HB3.out hb4)).mono HB02.out.size);clear hcb hb4;clear b0 b1 b2 b3 b4 b5 b6 b7 b8 b9 b10;go_wp2;go_ret;exact⟨by simp,HB4.out⟩
 have t2:(eb !=0)=false:=by simpa using h2
 subst h2;have hmm:=@run_makeMap Tryz.prog;obtain⟨R,hR⟩:∃R,(Co.besideG Co.step a b 1 8192 []).1=R:=⟨_,rfl⟩
 rw[hR,show(decide ((0:Int)=0)&&decide ((0:Int)=0)&&R)=R by simp];have HR:=zh hR;clear hR;go_enter Tryz.func14,Tryz.ntmps14;go_wp2_with fail
 refine(hca w2 (Below.refl _ _)).mono ?_;rintro e w3 ⟨rfl,hb3⟩;have HB3:=zh hb3;have HBB:=zh (HB.out.below hb3);clear hca hb3 hw1 hw2;clear a0 a1 a2 a3 a4 a5 a6 a7 a8 a9 a10 b0 b1 b2 b3 b4 b5 b6 b7 b8 b9 b10;obtain⟨b0,b1,b2,b3,b4,b5,b6,b7,b8,b9,b10⟩:=HBB.out.c11;go_wp2_with fail
 refine(hcb w3 HB3.out).mono ?_;rintro e w4 ⟨rfl,hb4⟩;have HB4:Hid (Below w2.heap.size w2 w4):=btr HB3.out hb4;clear hcb hb4;clear b0 b1 b2 b3 b4 b5 b6 b7 b8 b9 b10;obtain⟨m1,hm1⟩:∃m1,w4.alloc (.map #[] 0)=m1:=⟨_,rfl⟩
 obtain⟨m2,hm2⟩:∃m2,m1.alloc (.map #[] 0)=m2:=⟨_,rfl⟩
 obtain⟨m3,hm3⟩:∃m3,m2.alloc (.cells #[.map none] 71)=m3:=⟨_,rfl⟩
 obtain⟨m4,hm4⟩:∃m4,m3.alloc (.cells #[.map none] 71)=m4:=⟨_,rfl⟩
 obtain⟨m5,hm5⟩:∃m5,m4.setCell ⟨m2.heap.size,0,none⟩ (.map (some w4.heap.size))=m5:=⟨_,rfl⟩
 obtain⟨m6,hm6⟩:∃m6,m5.setCell ⟨m3.heap.size,0,none⟩ (.map (some m1.heap.size))=m6:=⟨_,rfl⟩
 obtain⟨m7,hm7⟩:∃m7,m6.alloc (.cells #[.int .i64 8192] 3)=m7:=⟨_,rfl⟩
 obtain⟨b1,s1⟩:=new_below hm1;obtain⟨b2,s2⟩:=new_below hm2;obtain⟨b3,s3⟩:=new_below hm3;obtain⟨b4,s4⟩:=new_below hm4;obtain⟨b7,s7⟩:=new_below hm7;have k5:Keep (fun k=>k=m2.heap.size) m4 m5:=by rw[←hm5];exact set_keep _ _ _ _
 have k6:Keep (fun k=>k=m3.heap.size) m5 m6:=by rw[←hm6];exact set_keep _ _ _ _
 have z5:m5.heap.size=m4.heap.size:=by rw[←hm5];exact World.size_setCell _ _ _
 have z6:m6.heap.size=m5.heap.size:=by rw[←hm6];exact World.size_setCell _ _ _
 have hz:=HB4.out.size;have hT4:Hp m4 m2.heap.size #[.map none] 71:=(Hp.new hm3).below b4;have hB5:Hp m5 m3.heap.size #[.map none] 71:=(Hp.new hm4).keep k5 (by omega);have hT5:Hp m5 m2.heap.size #[.map (some w4.heap.size)] 71:=by rw[←hm5];exact hT4.set 0 _
 have hB6:Hp m6 m3.heap.size #[.map (some m1.heap.size)] 71:=by rw[←hm6];exact hB5.set 0 _
 have hT7:Hp m7 m2.heap.size #[.map (some w4.heap.size)] 71:=(hT5.keep k6 (by omega)).below b7;have hB7:Hp m7 m3.heap.size #[.map (some m1.heap.size)] 71:=hB6.below b7;have p1:Vm.Mp Co.mLL m1 w4.heap.size 0 fun _=>none:=by rw[←hm1];exact Vm.Mp.made _ _
 have p2:Vm.Mp Co.mLL m2 m1.heap.size 0 fun _=>none:=by rw[←hm2];exact Vm.Mp.made _ _
 have kk:∀n,n≤m2.heap.size→Below n m2 m7:=fun n hn=>((b3.mono hn).trans (b4.mono (by omega))).trans (((k5.to_below (n:=n) (fun k e=>by omega) (by omega)).trans (k6.to_below (fun k e=>by omega) (by omega))).trans (b7.mono (by omega)))
 have q1:Vm.Mp Co.mLL m7 w4.heap.size 0 fun _=>none:=(p1.below b2).below (kk _ (Nat.le_refl _))
 have q2:Vm.Mp Co.mLL m7 m1.heap.size 0 fun _=>none:=p2.below (kk _ (Nat.le_refl _))
 have hb47:Below w4.heap.size w4 m7:=b1.trans ((b2.mono (by omega)).trans (kk _ (by omega)));have hb27:Below w2.heap.size w2 m7:=btr HB4.out hb47;have HA7:=zh (HA.out.below hb27);have HB7:=zh (HB.out.below hb27);have hb07:Below w.heap.size w m7:=btr HB02.out hb27;have hsz:=HSZ.out;have hl:Co.LB m7 m6.heap.size 8192:=Co.LB.new hm7;have hd1:m2.heap.size≠w4.heap.size∧m2.heap.size≠m1.heap.size∧m3.heap.size≠w4.heap.size∧m3.heap.size≠m1.heap.size∧w4.heap.size≠m1.heap.size:=by omega
 have hlb:∀k,(Co.akA m2.heap.size m3.heap.size w4.heap.size m1.heap.size m7.heap.size).lb k→w.heap.size≤k∧k<m7.heap.size:=fun k h=>by
  rcases h with h|h|h|h <;> omega
 have hc:=coBes_any (Co.akA m2.heap.size m3.heap.size w4.heap.size m1.heap.size m7.heap.size) (Co.akA_ok hd1 (by omega)) m6.heap.size (fun h=>by rcases h with h|h|h|h <;> omega) a b (fun k=>k<w.heap.size) (fun k=>k<w.heap.size) vm vl vt vp vk um ul ut up uk m7 1 8192 [] HWA.out HWB.out (fun k hk h=>h.elim (fun e=>by omega) (fun h=>by have:=hlb k h;omega)) (fun k hk h=>h.elim (fun e=>by omega) (fun h=>by have:=hlb k h;omega)) ((Co.Rep.mono (fun _ _ h=>h) a HRA.out).below hb07) ((Co.Rep.mono (fun _ _ h=>h) b HRB.out).below hb07) hl ⟨hT7,hB7,q1,q2⟩ (by omega) (by omega) (by omega) (fun _ x hx=>Co.check_p32 HEA.out x hx) (by unfold Co.AK.room;simp[Co.akA]) (Nat.le_refl _);unfold Co.BPost at hc;rw[show(Co.akA m2.heap.size m3.heap.size w4.heap.size m1.heap.size m7.heap.size).st=Co.step from rfl,HR.out]at hc;have hc':Calls Tryz.prog 38 #[.agg #[.int .i64 a.k,.int .i64 a.n,.string a.s,.int .i64 a.d.k,.int .i64 a.d.n,.string a.d.s,vm,vl,vt,vp,vk],.agg #[.int .i64 b.k,.int .i64 b.n,.string b.s,.int .i64 b.d.k,.int .i64 b.d.n,.string b.d.s,um,ul,ut,up,uk],.int .i64 1,.pointer (some ⟨m6.heap.size,0,none⟩),.func (.func 41) #[] #[.pointer (some ⟨m2.heap.size,0,none⟩),.pointer (some ⟨m3.heap.size,0,none⟩)]] m7 fun e w'=>e= .returned (.bool R)∧Below w.heap.size w w':=hc.mono fun e w' h=>⟨h.1,hb07.trans (h.2.1.to_below (fun k hk=>hk.elim (fun e=>by omega) (fun h=>(hlb k h).1)) (by omega))⟩
 have x5:=hT4.cell 0 rfl;have xf5:=hT4.frz 0;have x6:=hB5.cell 0 rfl;have xf6:=hB5.frz 0;clear hc hlb hd1 hl hb07 hsz hb27 hb47 q1 q2 p1 p2 kk hB7 hT7 hB6 hT5 hB5 hT4 hz z5 z6 k5 k6 b1 b2 b3 b4 b7 s1 s2 s3 s4 s7;obtain⟨a0,a1,a2,a3,a4,a5,a6,a7,a8,a9,a10⟩:=HA7.out.c11;obtain⟨b0,b1,b2,b3,b4,b5,b6,b7,b8,b9,b10⟩:=HB7.out.c11;go_wp2_with fail
 refine hc'.mono ?_;rintro e w9 ⟨rfl,hb9⟩;have HB9:=zh hb9;clear hc' hb9 hm1 hm2 hm3 hm4 hm5 hm6 hm7 x5 xf5 x6 xf6 hmm;clear a0 a1 a2 a3 a4 a5 a6 a7 a8 a9 a10 b0 b1 b2 b3 b4 b5 b6 b7 b8 b9 b10;go_wp2;go_ret;exact⟨rfl,HB9.out⟩
end Go.Proofs.YtfjmlfbohenmfaaGreat
