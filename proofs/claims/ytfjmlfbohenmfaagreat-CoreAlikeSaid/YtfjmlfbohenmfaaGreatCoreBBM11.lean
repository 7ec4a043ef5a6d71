/-
  CoChkb, CoOutb, CoLikeb.
-/
import Derived.Test.YtfjmlfbohenmfaaGreatCoreBBM10
import Derived.Test.YtfjmlfbohenmfaaGreatCoGoesb
import Derived.Test.YtfjmlfbohenmfaaGreatCoreBBM2
import Derived.Test.YtfjmlfbohenmfaaGreatCoreBBM7
import Derived.Test.YtfjmlfbohenmfaaGreatCoBesb
import Derived.BigRegion
set_option maxRecDepth 100000
set_option maxHeartbeats 32000000
namespace Go.Proofs.YtfjmlfbohenmfaaGreat
open Go.RowKit Go.Maps Go.WideMaps
attribute [local go_sem] Oper.semAt_some
namespace Co
def quiet(X ms mb:Nat)(mf:Option Nat)(c:C):WE:=⟨X,ms,mb,mf,.nilFunc,fun _=>False,fun _ _=>True,fun _ _=>False,parts c,0,fun _ _=>False⟩
end Co
theorem goes_fresh{G:Nat→Prop}(c:Co.C)(vm vl vt vp vk:Value){w w':World}{X ms mb n:Nat}{q:Int→Bool}(hf:Co.Fr w w' X ms mb n q)(win:List Int)(top:Bool)(hR:Co.Rep G w c vm vl vt vp vk)(hW:Co.Wf c)(hn:n≤1048576)(hq:∀x,q x=win.contains x):
  Calls Tryz.prog 36 #[.pointer (some ⟨X,0,none⟩),Co.V c vm vl vt vp vk,.int .i64 1,.bool top] w' fun e w3=>e= .returned (.int .i64 (Co.goes false c 1 win top 0 win).1)∧Below w.heap.size w w3:=by
 have hown:∀k,(Co.quiet X ms mb none c).ch k→w.heap.size≤k:=fun k h=>by
  have h1:=hf.lX;have h2:=hf.ls;have h3:=hf.lb;rcases h with(rfl|rfl|rfl|h)|h
  ·exact h1
  ·exact h2
  ·exact h3
  ·cases h
  ·exact h.elim
 have hok:(Co.quiet X ms mb none c).Ok:=⟨hf.sb,nofun,nofun,hf.xs,hf.xb,nofun,fun _ _ h=>h,fun _ _ _ _ _ h=>h.elim,fun _ _ _ _ _ h=>h,fun _ _ _ _ _=>trivial,fun _ _ _ h _=>h.elim,.inl ⟨rfl,fun _ _ _ _=>trivial⟩⟩
 have hR1:Co.Rep (fun k=>k<w.heap.size) w c vm vl vt vp vk:=Co.Rep.mono (fun _ _ h=>h) c hR;refine(coGoes_any (Co.quiet X ms mb none c) hok c (fun k=>k<w.heap.size) vm vl vt vp vk w' 1 win top 0 win q q (fun _=>false) n [] hW (hR1.below hf.kp) (fun k hk h=>by have:=hown k h;omega) (by omega) ⟨hf.hp,hf.hs,hf.hb,fun b h=>(nomatch h),Nat.zero_le _⟩ (by omega) (by omega) hq hq (fun x h=>h) trivial (List.prefix_refl _)).mono ?_;rintro e w3 ⟨r,cnt',dn',sc',bd',fr',n',rfl,hwk,hk,-,-,h|⟨-,-,pre,-,hx⟩⟩
 ·refine⟨by rw[h.2.1];rfl,hf.kp.trans (hk.kp.to_below hown hf.kp.size)⟩
 ·exact hx.elim
theorem checkC_any{F F':Nat→Prop}(c:Co.C)(vm vl vt vp vk vw:Value)(win:List Int)(w:World)(hW:Co.Wf c)(hR:Co.Rep F w c vm vl vt vp vk)(hv:Dt.IRow F' w vw win)(hwl:win.length≤1048576)(hwr:∀x∈win,-9223372036854775808≤x∧x≤9223372036854775807):
  Calls Tryz.prog 10 #[Co.V c vm vl vt vp vk,vw] w fun e w'=>e= .returned (.int .i64 (Co.check c win))∧Below w.heap.size w w':=by
 unfold Co.V;obtain⟨w1,hw1⟩:∃w1,w.alloc (.cells #[.int .i64 c.k,.int .i64 c.n,.string c.s,.int .i64 c.d.k,.int .i64 c.d.n,.string c.d.s,vm,vl,vt,vp,vk] 28)=w1:=⟨_,rfl⟩
 obtain⟨hb1,hs1⟩:=new_below hw1;have hbc:Co.Bc w1 w.heap.size c vm vl vt vp vk:=Hp.new hw1;have hbd:=Co.drew_below w1;have HBC:Hid (Co.Bc w1.drew w.heap.size c vm vl vt vp vk):=hbc.keep (S:=fun _=>False) (keep_of_below hbd) id;have HREP:=zh (hR.below hb1);have HWF:=zh hW;have HROW:Hid (Dt.IRow F' w1 vw win):=hv.keep (keep_of_below (S:=fun _=>False) hb1) (fun _ _ _ h=>h);have HWR:=zh hwr;have HB1:Hid (Below w.heap.size w w1.drew):=hb1.trans ((Co.drew_below w1).mono hb1.size);clear hb1 hs1 hW hR hv hwr hbc;go_enter Tryz.func10,Tryz.ntmps10;go_wp2;refine wp_region_noPanic ?_;refine wp_region_held_drew (S:=fun W=>Co.Bc W w.heap.size c vm vl vt vp vk) (by kernel_rfl) HBC.out (fun hHeld=> ?_);refine Zm.u 0 ?_ rfl ?_ ?_;rotate_left
 ·intro w hSw;clear hSw;go_simp;try with_reducible rfl
 simp only[Act.put,za,zb,zc];refine Zm.u 2 ?_ rfl ?_ ?_;rotate_left
 ·intro w hSw;have hC:Hp w _ _ _:=hSw;obtain⟨q0,q1,q2,q3,q4,q5,q6,q7,q8,q9,q10⟩:=hC.c11;clear hC;go_simp;try with_reducible rfl
 simp only[Act.put,za,zb,zc];refine Zm.r 1 rfl (fun K hK=> ?_);go_simp;refine(fresh_any vw win w1.drew (HROW.out.keep (keep_of_below (S:=fun _=>False) hbd) (fun _ _ _ h=>h)) hwl HWR.out).mono ?_;rintro e w2 ⟨X,ms,mb,rfl,hfr⟩;dsimp only;have HFR:=zh hfr;refine hK.out _ _ (HBC.out.keep (S:=fun _=>False) (keep_of_below hfr.kp) id) (fun hHeld=> ?_);clear hK K;try simp only[Act.put,za,zb,zc]
 have hgo:=goes_fresh c vm vl vt vp vk hfr win true (HREP.out.below hbd) HWF.out hwl (fun x=>rfl);unfold Co.V at hgo;clear hfr;refine Zm.r 3 rfl (fun K hK=> ?_);go_simp;refine hgo.mono ?_;rintro e w3 ⟨rfl,hb3⟩;dsimp only;have HB3:=zh hb3;refine hK.out _ _ (HBC.out.keep (S:=fun _=>False) (keep_of_below hb3) id) (fun hHeld=> ?_);clear hK K;try simp only[Act.put,za,zb,zc]
 clear hgo hb3;refine Zm.r 4 rfl (fun K hK=> ?_);go_simp;refine hK.out _ _ hHeld (fun hHeld=> ?_);clear hK K;try simp only[Act.put,za,zb,zc]
 refine wpAnyH_done (by kernel_rfl) ?_ _;refine NoPanic.normal ?_;go_wp2;go_ret;exact⟨rfl,(btr HB1.out HB3.out)⟩
namespace Co
def loose(X ms mb mf:Nat)(c:C):WE:=⟨X,ms,mb,some mf,.nilFunc,fun _=>False,fun _ _=>True,fun _ _=>False,parts c,0,fun _ _=>False⟩
def outE(c:C):Int:=if openE c≠0 then openE c else check c (free c [] [])
def outL(c:C):List Int:=if openE c≠0 then []else free c [] []
theorem frees_len:∀(c:C) (win:List Int),(frees c win).length≤(parts c).length
 | .mk k n s d p l,win=>by
  rw[frees,parts,List.length_append,List.length_cons];have:=freesL_len l (inner k p win);split <;> simp <;> omega
where freesL_len:∀(l:List C) (win:List Int),(freesL l win).length≤(partsL l).length
 |[],_=>by rw[freesL];simp
 |c :: r,win=>by
  rw[freesL,partsL,List.length_append,List.length_append];have h1:=frees_len c win;have h2:=freesL_len r win;omega
mutual
theorem goes_count{opn:Bool}:∀(c:C) {deep:Nat} {win:List Int} {top:Bool} {cnt:Nat} {bd:List Int} {r:Nat×List Int},goes opn c deep win top cnt bd=(0,r)→r.1=cnt+(parts c).length∧r.1≤8192
 | .mk k n s d p l,deep,win,top,cnt,bd,r,h=>by
  obtain⟨h1,h2⟩:=goes_ok h;have h4:=here_room h1;obtain⟨g1,g2⟩:=goesL_count l (by omega) h2;rw[parts,List.length_cons];exact⟨by omega,g2⟩
theorem goesL_count{opn:Bool}:∀(l:List C) {deep:Nat} {win:List Int} {top:Bool} {cnt:Nat} {bd:List Int} {r:Nat×List Int},cnt≤8192→goesL opn l deep win top cnt bd=(0,r)→r.1=cnt+(partsL l).length∧r.1≤8192
 |[],_,_,_,cnt,_,r,hc,h=>by
  rw[goesL]at h;cases h;rw[partsL];exact⟨by simp,hc⟩
 |c :: l,deep,win,top,cnt,bd,r,hc,h=>by
  obtain⟨q,h1,h2⟩:=goesL_ok h;obtain⟨g1,g2⟩:=goes_count c h1;obtain⟨g3,g4⟩:=goesL_count l g2 h2;rw[partsL,List.length_append];exact⟨by omega,g4⟩
end
theorem frees_range:∀(c:C) (win:List Int),Wf c→∀x∈frees c win,-9223372036854775808≤x∧x≤9223372036854775807
 | .mk k n s d p l,win,h,x,hx=>by
  have hw:=wf_parts h;rw[frees]at hx;rcases List.mem_append.1 hx with hx|hx
  ·split at hx
   ·rw[List.mem_singleton]at hx;subst hx;exact hw.1
   ·cases hx
  ·exact go l (inner k p win) hw.2.2.2.2.2.2 x hx
where go:∀(l:List C) (win:List Int),Wfs l→∀x∈freesL l win,-9223372036854775808≤x∧x≤9223372036854775807
 |[],_,_,x,hx=>by rw[freesL]at hx;cases hx
 |c :: r,win,h,x,hx=>by
  rw[Wfs]at h;rw[freesL]at hx;rcases List.mem_append.1 hx with hx|hx
  ·exact frees_range c win h.1 x hx
  ·exact go r win h.2 x hx
theorem nodup_len:∀ {a b:List Int},a.Nodup→(∀x∈a,x∈b)→a.length≤b.length
 |[],_,_,_=>by simp
 |x :: a,b,ha,hs=>by
  rw[List.nodup_cons]at ha;have hx:x∈b:=hs x List.mem_cons_self;have h1:=nodup_len (a:=a) (b:=b.erase x) ha.2 fun y hy=>(List.mem_erase_of_ne (fun e=>ha.1 (by rw[←e];exact hy))).2 (hs y (List.mem_cons_of_mem _ hy))
  rw[List.length_erase_of_mem hx]at h1;have h2:0<b.length:=List.length_pos_of_mem hx;rw[List.length_cons];omega
theorem free_facts{c:C}(h:openE c=0)(hW:Wf c):(free c [] []).length≤8192∧(∀x∈free c [] [],-9223372036854775808≤x∧x≤9223372036854775807)∧(free c [] []).Pairwise (· < ·)∧∀x,(frees c []).contains x=(free c [] []).contains x:=by
 have h1:goes true c 1 [] true 0 []=(0,(goes true c 1 [] true 0 []).2):=Prod.ext h rfl;obtain⟨g1,g2⟩:=goes_count c h1;have hm:∀x,x∈free c [] []↔x∈frees c []:=fun x=>by rw[free_puts];exact puts_mem _ x
 have hs:(free c [] []).Pairwise (· < ·):=by rw[free_puts];exact puts_sorted _
 refine⟨?_,fun x hx=>frees_range c [] hW x ((hm x).1 hx),hs,fun x=>by rw[Bool.eq_iff_iff,List.contains_iff_mem,List.contains_iff_mem];exact(hm x).symm⟩;have h2:=nodup_len (hs.imp fun {a b} hab=>by omega) (fun x hx=>(hm x).1 hx);have h3:=frees_len c [];omega
end Co
theorem outC_any{F:Nat→Prop}(c:Co.C)(vm vl vt vp vk:Value)(w:World)(hW:Co.Wf c)(hR:Co.Rep F w c vm vl vt vp vk):
  Calls Tryz.prog 44 #[Co.V c vm vl vt vp vk] w fun e w'=>∃v,e= .returned (.tuple #[v,.int .i64 (Co.outE c)])∧Dt.IRow (fun k=>w.heap.size≤k) w' v (Co.outL c)∧Below w.heap.size w w':=by
 unfold Co.V;obtain⟨w1,hw1⟩:∃w1,w.alloc (.cells #[.int .i64 c.k,.int .i64 c.n,.string c.s,.int .i64 c.d.k,.int .i64 c.d.n,.string c.d.s,vm,vl,vt,vp,vk] 28)=w1:=⟨_,rfl⟩
 obtain⟨hb1,hs1⟩:=new_below hw1;have HBC:Hid (Co.Bc w1 w.heap.size c vm vl vt vp vk):=Hp.new hw1;have hfr:=fresh_any (F:=fun _=>True) (.slice none 0 0) [] w1 ⟨none,0,rfl,Nat.le_refl _,fun h=>absurd rfl h⟩ (by simp) (fun x h=>by cases h);have HREP:=zh (hR.below hb1);have HWF:=zh hW;have HB1:=zh hb1;have HS1:=zh hs1;have hmm:=@run_makeMap Tryz.prog;clear hb1 hs1 hW hR;go_enter Tryz.func44,Tryz.ntmps44;go_wp2_with fail
 refine hfr.mono ?_;rintro e w2 ⟨X,ms,mb,rfl,hf⟩;obtain⟨w3,hw3⟩:∃w3,w2.alloc (.map #[] 0)=w3:=⟨_,rfl⟩
 obtain⟨hb3,hs3⟩:=new_below hw3;have hm3:=Co.Set_.made w2;rw[hw3]at hm3;obtain⟨mf,hmf⟩:∃mf,w2.heap.size=mf:=⟨_,rfl⟩
 rw[hmf]at hm3 hs3;have hx3:=hf.hp.below hb3;obtain⟨w4,hw4⟩:∃w4,w3.setCell ⟨X,3,none⟩ (.map (some mf))=w4:=⟨_,rfl⟩
 have k34:Keep (fun k=>k=X) w3 w4:=by rw[←hw4];exact set_keep _ _ _ _
 have hXl:X<w2.heap.size:=hf.hp.lt;have hx4:Hp w4 X #[.int .i64 0,.map (some ms),.map (some mb),.map (some mf),.nilFunc,.bool false] 81:=by rw[←hw4];exact hx3.set 3 _
 have hb24:Below w1.heap.size w2 w4:=(hb3.mono (by have:=hf.kp.size;omega)).trans (k34.to_below (fun k e=>by have:=hf.lX;omega) (by have:=hf.kp.size;omega));have hb14:Below w1.heap.size w1 w4:=hf.kp.trans hb24;have hok:(Co.loose X ms mb mf c).Ok:=⟨hf.sb,fun h=>(by have h:=Option.some.inj h;have h:mf=ms:=h;have:=hf.hs.lt;omega),fun h=>(by have h:=Option.some.inj h;have h:mf=mb:=h;have:=hf.hb.lt;omega),hf.xs,hf.xb,fun h=>(by have h:=Option.some.inj h;have h:mf=X:=h;omega),fun _ _ h=>h,fun _ _ _ _ _ h=>h.elim,fun _ _ _ _ _ h=>h,fun _ _ _ _ _=>trivial,fun _ _ _ h _=>h.elim,.inl ⟨rfl,fun _ _ _ _=>trivial⟩⟩
 have hwk:Co.Wk (Co.loose X ms mb mf c) w4 0 false (fun _=>false) (fun _=>false) (fun _=>false) 0:=
  ⟨hx4,((hf.hs.below hb3).keep k34 (fun e=>hf.xs e.symm)).ext (fun x=>by simp),((hf.hb.below hb3).keep k34 (fun e=>hf.xb e.symm)).ext (fun x=>by simp),fun b hb=>(by cases hb;exact hm3.keep k34 (fun e=>by omega)),Nat.zero_le _⟩
 have hown:∀k,(Co.loose X ms mb mf c).ch k→w1.heap.size≤k:=fun k h=>by
  have h1:=hf.lX;have h2:=hf.ls;have h3:=hf.lb;have h4:=hf.kp.size;rcases h with(rfl|rfl|rfl|h)|h
  ·exact h1
  ·exact h2
  ·exact h3
  ·cases h;omega
  ·exact h.elim
 have hR1:Co.Rep (fun k=>k<w1.heap.size) w1 c vm vl vt vp vk:=Co.Rep.mono (fun _ _ h=>h) c HREP.out;have hgo:=coGoes_any (Co.loose X ms mb mf c) hok c (fun k=>k<w1.heap.size) vm vl vt vp vk w4 1 [] true 0 [] (fun _=>false) (fun _=>false) (fun _=>false) 0 [] HWF.out (hR1.below hb14) (fun k hk h=>by have:=hown k h;omega) (by omega) hwk (by omega) (by omega) (fun x=>by simp) (fun x=>by simp) (fun x h=>h) trivial (List.prefix_refl _);unfold Co.V at hgo;have HBC4:=zh (HBC.out.keep (S:=fun _=>False) (keep_of_below hb14) id);have HB14:=zh hb14;have HOWN:=zh hown;have x3:=hx3.cell 3 rfl;have xf3:=hx3.frz 3;obtain⟨c0,c1,c2,c3,c4,c5,c6,c7,c8,c9,c10⟩:=HBC4.out.c11;clear hf hfr hw1 hb3 hs3 hm3 hx3 k34 hXl hx4 hb24 hb14 hok hwk hown hR1;have hgo':Calls Tryz.prog 36 #[.pointer (some ⟨X,0,none⟩),.agg #[.int .i64 c.k,.int .i64 c.n,.string c.s,.int .i64 c.d.k,.int .i64 c.d.n,.string c.d.s,vm,vl,vt,vp,vk],.int .i64 1,.bool true] w4 (Co.GPost (Co.loose X ms mb mf c) c 1 [] true 0 [] (fun _=>false) (fun _=>false) [] w4):=hgo;clear hgo;go_wp2_with fail
 refine hgo'.mono ?_;rintro e w5 ⟨r,cnt',dn',sc',bd',fr',n',rfl,hwk,hk,hn,hc,h|⟨-,-,pre,-,hx⟩⟩
 case inr=>exact hx.elim
 obtain⟨-,hr,h0⟩:=h;have hr':r=Co.openE c:=hr;have HK5:Hid (Below w.heap.size w w5):=HB1.out.trans ((HB14.out.trans (hk.kp.to_below HOWN.out HB14.out.size)).mono HB1.out.size);have HBC5:=zh (HBC4.out.keep hk.kp (fun e=>by have h1:=HOWN.out _ e;have h2:=HS1.out;omega));have HREP5:Hid (Co.Rep (fun k=>k<w1.heap.size) w5 c vm vl vt vp vk):=Co.Rep.keep hk.kp (fun b hb _ e=>by have h1:=HOWN.out _ e;omega) c ((Co.Rep.mono (G:=fun k=>k<w1.heap.size) (fun _ _ h=>h) c HREP.out).below HB14.out);clear hgo' hw3 hw4 x3 xf3 hmm;clear c0 c1 c2 c3 c4 c5 c6 c7 c8 c9 c10;by_cases hz:r=0
 case neg=>
  have hzb:(r !=0)=true:=by simpa using hz
  have HE:Hid (Co.outE c=r∧Co.outL c=[]):=by
   unfold Co.outE Co.outL;rw[←hr',if_pos hz,if_pos hz];exact⟨rfl,rfl⟩
  clear hz hr hr' h0 hwk hk hn hc;go_wp2
  go_ret2
  exact⟨.slice none 0 0,by rw[HE.out.1];rfl,by rw[HE.out.2];exact⟨none,0,rfl,Nat.le_refl _,fun h=>absurd rfl h⟩,HK5.out⟩
 obtain⟨-,-,-,hfr,-⟩:=h0 hz;have hop:Co.openE c=0:=hr'.symm.trans hz;obtain⟨f1,f2,f3,f4⟩:=Co.free_facts hop HWF.out;have hset:=hwk.hf mf rfl;have hx5:w5.cell? ⟨X,3,none⟩=some (.map (some mf)):=hwk.hp.cell 3 rfl;have hn':=hn hz;have hke:=keysI_any (some mf) w5;have hso:=sortedI_any mf n' fr' (Co.free c [] []) w5 hset f3 (fun x=>by rw[hfr,f4];simp) (by omega);subst hz;have HOP:=zh hop;have HF1:=zh f1;have HF2:=zh f2;have hb56:Below w5.heap.size w5 (w5.alloc (.cells #[.map (some mf)] 79)):=(Below.refl _ _).alloc (Nat.le_refl _) _;have HB56:=zh hb56;clear hr hr' h0 hwk hk hn hc hfr hop f1 f2 f3 f4 hset hn' hb56;go_wp2_with(first
  |(go_at_call 48;refine hke.mono ?_;rintro e w6 ⟨rfl,rfl⟩)
  |(go_at_call 47;refine hso.mono ?_;rintro e w7 ⟨v,rfl,hrow,-,hb7⟩;obtain⟨a7,q7,rfl⟩:=Dt.row_form hrow;have HROW:=zh hrow;have HB57:=zh ((btr HB56.out hb7));clear hrow hb7 hke hso hx5;have HBC7:=zh (HBC5.out.keep (S:=fun _=>False) (keep_of_below HB57.out) id);obtain⟨c0,c1,c2,c3,c4,c5,c6,c7,c8,c9,c10⟩:=HBC7.out.c11)
  |fail)
 have hirow:Dt.IRow (fun k=>w5.heap.size≤k) w7 (.slice a7 (Co.free c [] []).length q7) (Co.free c [] []):=Co.irow_mono (fun b hb _=>by have:=HB56.out.size;omega) (Dt.IRow.of_own HROW.out);have hck:=checkC_any c vm vl vt vp vk (.slice a7 (Co.free c [] []).length q7) (Co.free c [] []) w7 HWF.out (HREP5.out.below HB57.out) hirow (by have:=HF1.out;omega) HF2.out;unfold Co.V at hck;have HIR:=zh hirow;clear hirow;refine hck.mono ?_;rintro e w8 ⟨rfl,hb8⟩;have HE:Hid (Co.outE c=Co.check c (Co.free c [] [])∧Co.outL c=Co.free c [] []):=by
  unfold Co.outE Co.outL;rw[HOP.out];exact⟨rfl,rfl⟩
 have HI8:Hid (Dt.IRow (fun k=>w.heap.size≤k) w8 (.slice a7 (Co.free c [] []).length q7) (Co.free c [] [])):=Co.irow_mono (fun b hb _=>by have:=HK5.out.size;omega) (HIR.out.keep (keep_of_below (S:=fun _=>False) hb8) (fun _ _ _ h=>h));have HB8:Hid (Below w.heap.size w w8):=HK5.out.trans (((btr HB57.out hb8)).mono HK5.out.size);clear hck hb8;clear c0 c1 c2 c3 c4 c5 c6 c7 c8 c9 c10;go_wp2
 go_ret2
 exact⟨.slice a7 (Co.free c [] []).length q7,by rw[HE.out.1];rfl,by rw[HE.out.2];exact HI8.out,HB8.out⟩
namespace Co
def freeV(c:C):List Int:=if outE c=0 then outL c else []
end Co
theorem freeC_any{F:Nat→Prop}(c:Co.C)(vm vl vt vp vk:Value)(w:World)(hW:Co.Wf c)(hR:Co.Rep F w c vm vl vt vp vk):
  Calls Tryz.prog 21 #[Co.V c vm vl vt vp vk] w fun e w'=>∃v,e= .returned v∧Dt.IRow (fun k=>w.heap.size≤k) w' v (Co.freeV c)∧Below w.heap.size w w':=by
 unfold Co.V;obtain⟨w1,hw1⟩:∃w1,w.alloc (.cells #[.int .i64 c.k,.int .i64 c.n,.string c.s,.int .i64 c.d.k,.int .i64 c.d.n,.string c.d.s,vm,vl,vt,vp,vk] 28)=w1:=⟨_,rfl⟩
 obtain⟨hb1,hs1⟩:=new_below hw1;have Hc:=zh (Hp.new hw1);have ho:=outC_any c vm vl vt vp vk w1 hW (hR.below hb1);unfold Co.V at ho;have HB1:=zh hb1;obtain⟨c0,c1,c2,c3,c4,c5,c6,c7,c8,c9,c10⟩:=Hc.out.c11;obtain⟨E,hE⟩:∃E,E=Co.outE c:=⟨_,rfl⟩
 rw[←hE]at ho;have HE:=zh hE;clear hb1 hs1 hW hR hE;go_enter Tryz.func21,Tryz.ntmps21;go_wp2_with fail
 refine ho.mono ?_;rintro e w2 ⟨v,rfl,hv,hb2⟩;have HV:Hid (Dt.IRow (fun k=>w.heap.size≤k) w2 v (Co.outL c)):=Co.irow_mono (fun b hb _=>by have:=HB1.out.size;omega) hv;have HB2:=zh ((btr HB1.out hb2));obtain⟨a,q,rfl,-⟩:=hv;clear ho hw1 hb2;clear c0 c1 c2 c3 c4 c5 c6 c7 c8 c9 c10;by_cases hz:E=0
 ·have hzb:(E==0)=true:=by simpa using hz
  have HF:Hid (Co.freeV c=Co.outL c):=by unfold Co.freeV;rw[←HE.out,if_pos hz];rfl
  clear hz;go_wp2;go_ret;exact⟨_,rfl,by rw[HF.out];exact HV.out,HB2.out⟩
 ·have hzb:(E==0)=false:=by simpa using hz
  have HF:Hid (Co.freeV c=[]):=by unfold Co.freeV;rw[←HE.out,if_neg hz];rfl
  clear hz;go_wp2;go_ret;exact⟨_,rfl,by rw[HF.out];exact⟨none,0,rfl,Nat.le_refl _,fun h=>absurd rfl h⟩,HB2.out⟩
theorem same1_any(m:List (Int×Int))(x y:Int)(W:World):Calls Tryz.prog 39 #[.int .i64 x,.int .i64 y] W fun e w'=>e= .returned (.bool (Co.eqs m x y).1)∧w'=W:=by
  show Calls _ _ _ W fun e w'=>e= .returned (.bool (decide (x=y)))∧w'=W
  obtain⟨R,hR⟩:∃R,(x==y)=R:=⟨_,rfl⟩
  have e:decide (x=y)=R:=by rw[←hR];by_cases h:x=y <;> simp[h]
  rw[e];clear e;go_enter Tryz.func39,Tryz.ntmps39;go_wp2;go_ret;exact⟨rfl,rfl⟩
namespace Co
def akS:AK where
  f:=39
  cap:=#[]
  lb:=fun _=>False
  Sa:=fun _ m=>m=[]
  st:=eqs
  g:=false
  lim:=0
theorem akS_ok:akS.Ok where
  ent:=enters_of Tryz.func39 (by kernel_rfl) rfl
  keep:=fun _ _ _ _ h _ _=>h
  len:=fun m x y=>Nat.le_refl _
  lbl:=fun _ h=>h.elim
  told:=fun W m x y h _ _ _=>(same1_any m x y W).mono fun e w' ⟨h1,h2⟩=>⟨h1,by rw[h2];exact Keep.refl _ _,fun _=>h⟩
theorem LB.new{w w1:World}{x:Int}(h:w.alloc (.cells #[.int .i64 x] 3)=w1):LB w1 w.heap.size x:=Hp.new h
end Co
theorem coSame_any{F G:Nat→Prop}(a b:Co.C)(vm vl vt vp vk um ul ut up uk:Value)(w:World)(hWa:Co.Wf a)(hWb:Co.Wf b)(hRa:Co.Rep F w a vm vl vt vp vk)(hRb:Co.Rep G w b um ul ut up uk):
    Calls Tryz.prog 12 #[Co.V a vm vl vt vp vk,Co.V b um ul ut up uk] w fun e w'=>e= .returned (.bool (Co.same a b))∧Below w.heap.size w w':=by
  unfold Co.V;obtain⟨w1,hw1⟩:∃w1,w.alloc (.cells #[.int .i64 a.k,.int .i64 a.n,.string a.s,.int .i64 a.d.k,.int .i64 a.d.n,.string a.d.s,vm,vl,vt,vp,vk] 28)=w1:=⟨_,rfl⟩
  obtain⟨w2,hw2⟩:∃w2,w1.alloc (.cells #[.int .i64 b.k,.int .i64 b.n,.string b.s,.int .i64 b.d.k,.int .i64 b.d.n,.string b.d.s,um,ul,ut,up,uk] 28)=w2:=⟨_,rfl⟩
  obtain⟨w3,hw3⟩:∃w3,w2.alloc (.cells #[.int .i64 8192] 3)=w3:=⟨_,rfl⟩
  obtain⟨hb1,hs1⟩:=new_below hw1;obtain⟨hb2,hs2⟩:=new_below hw2;obtain⟨hb3,hs3⟩:=new_below hw3;obtain⟨L,hL⟩:∃L,w2.heap.size=L:=⟨_,rfl⟩
  obtain⟨B0,hB0⟩:∃B0,w1.heap.size=B0:=⟨_,rfl⟩
  have ha:Hp w3 w.heap.size _ _:=((Hp.new hw1).below hb2).below hb3;have hb:Hp w3 w1.heap.size _ _:=(Hp.new hw2).below hb3;rw[hB0]at hb;have hl:=Co.LB.new hw3;rw[hL]at hl;have hb03:Below w.heap.size w w3:=hb1.trans ((hb2.mono (by omega)).trans (hb3.mono (by omega)));have hc:=coBes_any Co.akS Co.akS_ok L id a b (fun k=>k<w.heap.size) (fun k=>k<w.heap.size) vm vl vt vp vk um ul ut up uk w3 1 8192 [] hWa hWb (fun k hk h=>h.elim (fun e=>by omega) id) (fun k hk h=>h.elim (fun e=>by omega) id) ((Co.Rep.mono (fun _ _ h=>h) a hRa).below hb03) ((Co.Rep.mono (fun _ _ h=>h) b hRb).below hb03) hl rfl (by omega) (by omega) (by omega) (fun e=>by cases e) (by unfold Co.AK.room;show((([]:List (Int×Int)).length:Nat):Int)≤0;simp) (Nat.zero_le _);unfold Co.BPost at hc;rw[show Co.akS.st=Co.eqs from rfl,Co.besideG_eqs]at hc;dsimp only at hc;rw[show(Co.pairs a b 1 8192).1=Co.same a b from rfl]at hc;obtain⟨R,hR⟩:∃R,Co.same a b=R:=⟨_,rfl⟩
  rw[hR]at hc ⊢;have hc':Calls Tryz.prog 38 #[.agg #[.int .i64 a.k,.int .i64 a.n,.string a.s,.int .i64 a.d.k,.int .i64 a.d.n,.string a.d.s,vm,vl,vt,vp,vk],.agg #[.int .i64 b.k,.int .i64 b.n,.string b.s,.int .i64 b.d.k,.int .i64 b.d.n,.string b.d.s,um,ul,ut,up,uk],.int .i64 1,.pointer (some ⟨L,0,none⟩),.func (.func 39) #[] #[]] w3 fun e w'=>e= .returned (.bool R)∧Below w.heap.size w w':=hc.mono fun e w' h=>⟨h.1,hb03.trans (h.2.1.to_below (fun k hk=>hk.elim (fun e=>by omega) (fun h=>h.elim)) (by omega))⟩
  have HA:=zh ha;have HB:=zh hb;clear hc ha hb hl hb03 hb1 hb2 hb3 hs1 hs2 hs3 hWa hWb hRa hRb hR;obtain⟨a0,a1,a2,a3,a4,a5,a6,a7,a8,a9,a10⟩:=HA.out.c11;obtain⟨b0,b1,b2,b3,b4,b5,b6,b7,b8,b9,b10⟩:=HB.out.c11;go_enter Tryz.func12,Tryz.ntmps12;go_wp2_with fail
  refine hc'.mono ?_;rintro e w4 ⟨rfl,hb4⟩;have HB4:=zh hb4;clear hc' hb4 hw1 hw2 hw3;clear a0 a1 a2 a3 a4 a5 a6 a7 a8 a9 a10 b0 b1 b2 b3 b4 b5 b6 b7 b8 b9 b10;go_wp2;go_ret;exact⟨rfl,HB4.out⟩
namespace Co
def rdI:Value→Option (DataW Unit×List MemPlace)
  | .int .i64 a=>some (.lit (.int .i64 a),[])
  |_=>none
theorem zeroL(w:World):(zeroValue 2).run Tryz.prog w= .ok (.int .i64 0) w:=by kernel_rfl
def mLL:Vm.MK Tryz.prog Int Int where
  mt:=71
  kt:=2
  et:=2
  under:=Tryz.underlying71
  keyed:=int_keyed Tryz.underlying2
  kv:=fun x=> .int .i64 x
  kl:=fun x=> .int .i64 x
  okK:=fun x=> -9223372036854775808≤x∧x≤9223372036854775807
  keyOf_:=fun k h=>keyOf_int_mk Tryz.underlying2 (by show(decide (IntKind.i64.min≤k)&&decide (k≤IntKind.i64.max))=true;rw[show IntKind.i64.min= -9223372036854775808 by decide,show IntKind.i64.max=9223372036854775807 by decide,decide_eq_true h.1,decide_eq_true h.2];rfl)
  kl_inj:=fun a b h=>by cases h;rfl
  isKey:=fun _=>trivial
  ev:=fun x=> .int .i64 x
  ed:=fun x=> .lit (.int .i64 x)
  ed_inj:=fun a b h=>by cases h;rfl
  z:=0
  zero:=zeroL
  rd:=rdI
  rd_ev:=fun _=>rfl
  rd_inv:=fun x q h=>by
    unfold rdI at h;split at h
    · rename_i a
      cases h;exact⟨a,rfl,rfl⟩
    · cases h
def there(m:List (Int×Int)):Int→Option Int:=fun x=>(m.find? (·.1=x)).map (·.2)
def back(m:List (Int×Int)):Int→Option Int:=fun y=>(m.find? (·.2=y)).map (·.1)
theorem there_new{m:List (Int×Int)}{x y:Int}(h:there m x=none):there (m++[(x,y)])=Vm.upd (there m) x y:=by
  funext z
  unfold Vm.upd;unfold there at h ⊢;rw[List.find?_append];by_cases e:z=x
  · subst e
    rw[if_pos rfl];rw[Option.map_eq_none_iff]at h;rw[h];simp
  · rw[if_neg e]
    cases h2:m.find? (·.1=z)with
    |some u=>simp
    |none=>simp[Ne.symm e]
theorem back_new{m:List (Int×Int)}{x y:Int}(h:back m y=none):back (m++[(x,y)])=Vm.upd (back m) y x:=by
  funext z
  unfold Vm.upd;unfold back at h ⊢;rw[List.find?_append];by_cases e:z=y
  · subst e
    rw[if_pos rfl];rw[Option.map_eq_none_iff]at h;rw[h];simp
  · rw[if_neg e]
    cases h2:m.find? (·.2=z)with
    |some u=>simp
    |none=>simp[Ne.symm e]
theorem step_eq(m:List (Int×Int))(x y:Int):step m x y=if(!(there m x).isSome&& !(back m y).isSome)then(true,m++[(x,y)])else(((there m x).isSome&&(back m y).isSome&&decide ((there m x).getD 0=y)&&decide ((back m y).getD 0=x)),m):=by
  unfold step there back;cases h1:m.find? (·.1=x) <;> cases h2:m.find? (·.2=y) <;> simp
structure SaA(XT XB MT MB:Nat)(w:World)(m:List (Int×Int)):Prop where
  bt:Hp w XT #[.map (some MT)] 71
  bb:Hp w XB #[.map (some MB)] 71
  mt:Vm.Mp mLL w MT m.length (there m)
  mb:Vm.Mp mLL w MB m.length (back m)
end Co
theorem alike1_any(XT XB MT MB:Nat)(hd1:XT≠MT∧XT≠MB∧XB≠MT∧XB≠MB∧MT≠MB)(m:List (Int×Int))(x y:Int)(W:World)(hS:Co.SaA XT XB MT MB W m)(hm:m.length≤1000000)(hx:Co.I64 x)(hy:Co.I64 y):
    Calls Tryz.prog 41 #[.int .i64 x,.int .i64 y,.pointer (some ⟨XT,0,none⟩),.pointer (some ⟨XB,0,none⟩)] W fun e w'=>e= .returned (.bool (Co.step m x y).1)∧Keep (fun k=>k=MT∨k=MB) W w'∧((Co.step m x y).1=true→Co.SaA XT XB MT MB w' (Co.step m x y).2):=by
  have h0:=hS.bt.cell 0 rfl;have h1:=hS.bb.cell 0 rfl;have l0:=Vm.Mp.look hS.mt (s:=x) hx;have l1:=Vm.Mp.look hS.mb (s:=y) hy;have hst:=Co.step_eq m x y;obtain⟨u,hu⟩:∃u,(Co.there m x).getD 0=u:=⟨_,rfl⟩
  obtain⟨v,hv⟩:∃v,(Co.back m y).getD 0=v:=⟨_,rfl⟩
  obtain⟨one,ho⟩:∃one,(Co.there m x).isSome=one:=⟨_,rfl⟩
  obtain⟨two,ht⟩:∃two,(Co.back m y).isSome=two:=⟨_,rfl⟩
  rw[show Co.mLL.z=0 from rfl,hu,ho]at l0;rw[show Co.mLL.z=0 from rfl,hv,ht]at l1;change (Instr.lookup 71 (.map (some MT)) (.int .i64 x) true).run Tryz.prog W= .ok (.tuple #[.int .i64 u,.bool one]) W at l0;change (Instr.lookup 71 (.map (some MB)) (.int .i64 y) true).run Tryz.prog W= .ok (.tuple #[.int .i64 v,.bool two]) W at l1;rw[hu,hv,ho,ht]at hst;have HS:=zh hS
  cases one with
  | false =>
    cases two with
    | false =>
      have ho':Co.there m x=none:=by simpa using ho
      have ht':Co.back m y=none:=by simpa using ht
      have hd:=Co.drew_below W;obtain⟨w1,e1,s1,k1⟩:=Vm.Mp.set (Vm.Mp.below hS.mt hd) (by unfold maxLen;omega) (s:=x) hx y;obtain⟨w2,e2,s2,k2⟩:=Vm.Mp.set (Vm.Mp.keep (Vm.Mp.below hS.mb hd) k1 (fun e=>hd1.2.2.2.2 e.symm)) (by unfold maxLen;omega) (s:=y) hy x;change (Instr.mapUpdate 71 (.map (some MT)) (.int .i64 x) (.int .i64 y)).run Tryz.prog W.drew= .ok () w1 at e1;change (Instr.mapUpdate 71 (.map (some MB)) (.int .i64 y) (.int .i64 x)).run Tryz.prog w1= .ok () w2 at e2;have HR:Hid (Keep (fun k=>k=MT∨k=MB) W w2∧Co.SaA XT XB MT MB w2 (m++[(x,y)])):=by
        have k02:Keep (fun k=>k=MT∨k=MB) W w2:=(keep_of_below hd).trans ((k1.le fun k e=> .inl e).trans (k2.le fun k e=> .inr e));refine⟨k02,hS.bt.keep k02 (fun e=>e.elim hd1.1 hd1.2.1),hS.bb.keep k02 (fun e=>e.elim hd1.2.2.1 hd1.2.2.2.1),?_,?_⟩
        · rw[Co.there_new ho',List.length_append]
          exact Vm.Mp.keep s1 k2 (fun e=>hd1.2.2.2.2 e)
        · rw[Co.back_new ht',List.length_append]
          exact s2
      have q1:=(Hp.keep (Hp.below hS.bb hd) k1 hd1.2.2.1).cell 0 rfl;rw[hst];clear hst hu hv ho ht ho' ht' hd s1 k1 s2 k2 hS hd1 hm hx hy;go_enter Tryz.func41,Tryz.ntmps41;go_wp2
      go_region
      go_wp2;go_ret;first|exact⟨rfl,HR.out.1,fun _=>HR.out.2⟩|exact⟨rfl,HR.out.1,HR.out.2⟩
    | true =>
      rw[hst];clear hst hu hv ho ht hS hd1 hm hx hy;go_enter Tryz.func41,Tryz.ntmps41;go_wp2;go_ret;exact⟨rfl,Keep.refl _ _⟩
  | true =>
    cases two with
    | false =>
      rw[hst];clear hst hu hv ho ht hS hd1 hm hx hy;go_enter Tryz.func41,Tryz.ntmps41;go_wp2;go_ret;exact⟨rfl,Keep.refl _ _⟩
    | true =>
      obtain⟨b1,hb1⟩:∃b1,(u==y)=b1:=⟨_,rfl⟩
      obtain⟨b2,hb2⟩:∃b2,(v==x)=b2:=⟨_,rfl⟩
      have e1:decide (u=y)=b1:=by rw[←hb1];by_cases h:u=y <;> simp[h]
      have e2:decide (v=x)=b2:=by rw[←hb2];by_cases h:v=x <;> simp[h]
      rw[e1,e2]at hst;rw[hst];clear hst hu hv ho ht hS hd1 hm hx hy e1 e2;cases b1 <;> cases b2 <;>
      (go_enter Tryz.func41, Tryz.ntmps41
       go_wp2;go_ret;first|exact⟨rfl,Keep.refl _ _,fun _=>HS.out⟩|exact⟨rfl,Keep.refl _ _,HS.out⟩|exact⟨rfl,Keep.refl _ _⟩)
namespace Co
def akA(XT XB MT MB n:Nat):AK where
  f:=41
  cap:=#[.pointer (some ⟨XT,0,none⟩),.pointer (some ⟨XB,0,none⟩)]
  lb:=fun k=>k=MT∨k=MB∨k=XT∨k=XB
  Sa:=SaA XT XB MT MB
  st:=step
  g:=true
  lim:=n
theorem step_len(m:List (Int×Int))(x y:Int):(step m x y).2.length≤m.length+1:=by
  rw[step_eq];split <;> simp
theorem akA_ok{XT XB MT MB n:Nat}(hd1:XT≠MT∧XT≠MB∧XB≠MT∧XB≠MB∧MT≠MB)(hn:MT<n∧MB<n∧XT<n∧XB<n):(akA XT XB MT MB n).Ok where
  ent:=enters_of Tryz.func41 (by kernel_rfl) rfl
  keep:=fun S W W' m h hk hn=>⟨h.bt.keep hk (hn _ (.inr (.inr (.inl rfl)))),h.bb.keep hk (hn _ (.inr (.inr (.inr rfl)))),Vm.Mp.keep h.mt hk (hn _ (.inl rfl)),Vm.Mp.keep h.mb hk (hn _ (.inr (.inl rfl)))⟩
  len:=step_len
  lbl:=fun k h=>by show k<n;rcases h with h|h|h|h <;> omega
  told:=fun W m x y h hm hx hy=>(alike1_any XT XB MT MB hd1 m x y W h hm hx hy).mono fun e w' ⟨h1,h2,h3⟩=>⟨h1,h2.le fun k e=>e.elim .inl (fun e=> .inr (.inl e)),h3⟩
end Co
end Go.Proofs.YtfjmlfbohenmfaaGreat
