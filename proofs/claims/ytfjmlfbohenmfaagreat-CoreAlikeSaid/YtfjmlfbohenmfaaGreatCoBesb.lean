/-
 core.beside: two cores side by side, over any way of asking. (Printed by genCoBes.py, expanded by pp.py.)
-/
import Derived.Test.YtfjmlfbohenmfaaGreatCoreBBM7
import Derived.Test.YtfjmlfbohenmfaaGreatCoreBBM10
import Derived.Test.YtfjmlfbohenmfaaGreatCoreBBM5
import Derived.StillTailTactics
import Derived.Test.YtfjmlfbohenmfaaGreatCoreBBM2
namespace Go.Proofs.YtfjmlfbohenmfaaGreat
open Go.RowKit Go.Maps Go.WideMaps
attribute [local go_sem] Oper.semAt_some
namespace Co
structure AK where
 f:Nat
 cap:Array Value
 lb:Nat→Prop
 Sa:World→List (Int×Int)→Prop
 st:Asks
 g:Bool
 lim:Nat
def I64(x:Int):Prop:= -9223372036854775808≤x∧x≤9223372036854775807
def AK.room(E:AK)(left:Int)(j:Nat)(m:List (Int×Int)):Prop:=(m.length:Int)≤if E.g then 33*(8192 - left)+j else 0
def AK.Told(E:AK)(m:List (Int×Int))(x y:Int)(W:World)(e:Ending)(W':World):Prop:=
 e= .returned (.bool (E.st m x y).1)∧Keep E.lb W W'∧((E.st m x y).1=true→E.Sa W' (E.st m x y).2)
structure AK.Ok(E:AK):Prop where
 ent:∀args w,(callFunc E.f args).run Tryz.prog w= .ok (.enter E.f args) w
 keep:∀(S:Nat→Prop) W W' m,E.Sa W m→Keep S W W'→(∀k,E.lb k→¬S k)→E.Sa W' m
 len:∀m x y,(E.st m x y).2.length≤m.length+(if E.g then 1 else 0)
 lbl:∀k,E.lb k→k<E.lim
 told:∀W m x y,E.Sa W m→m.length≤1000000→I64 x→I64 y→Calls Tryz.prog E.f (#[.int .i64 x,.int .i64 y]++E.cap) W (E.Told m x y W)
theorem AK.Ok.room{E:AK}(hE:E.Ok){left:Int}{j:Nat}{m:List (Int×Int)}(h:E.room left j m)(x y:Int):E.room left (j+1) (E.st m x y).2:=by
 have:=hE.len m x y;unfold AK.room at h ⊢;split at h
 ·rename_i e;rw[if_pos e]at this ⊢;omega
 ·rename_i e;rw[if_neg e]at this ⊢;omega
theorem AK.room.more{E:AK}{left:Int}{i j:Nat}{m:List (Int×Int)}(h:E.room left i m)(hij:E.g=true→i≤j):E.room left j m:=by
 unfold AK.room at h ⊢;split at h
 ·rename_i e;have:=hij e;rw[if_pos e];omega
 ·rename_i e;rw[if_neg e];omega
theorem AK.room.down{E:AK}{left:Int}{m:List (Int×Int)}(h:E.room left 33 m):E.room (left - 1) 0 m:=by
 unfold AK.room at h ⊢;split at h
 ·rename_i e;rw[if_pos e];omega
 ·rename_i e;rw[if_neg e];omega
theorem AK.room.lim{E:AK}{left:Int}{j:Nat}{m:List (Int×Int)}(h:E.room left j m)(h1:0≤left)(h2:left≤8192)(h3:E.g=true→j≤33):m.length≤1000000:=by
 unfold AK.room at h;split at h
 ·rename_i e;have:=h3 e;omega
 ·omega
def LB(w:World)(L:Nat)(left:Int):Prop:=Hp w L #[.int .i64 left] 3
def ch(E:AK)(L k:Nat):Prop:=k=L∨E.lb k
def BPost(E:AK)(L:Nat)(a b:C)(deep:Nat)(left:Int)(m:List (Int×Int))(w:World)(e:Ending)(w':World):Prop:=
 e= .returned (.bool (besideG E.st a b deep left m).1)∧Keep (ch E L) w w'∧((besideG E.st a b deep left m).1=true→
  LB w' L (besideG E.st a b deep left m).2.1∧E.Sa w' (besideG E.st a b deep left m).2.2∧0≤(besideG E.st a b deep left m).2.1∧(besideG E.st a b deep left m).2.1≤left∧E.room (besideG E.st a b deep left m).2.1 0 (besideG E.st a b deep left m).2.2)
def BesIs(E:AK)(L:Nat)(a:C):Prop:=
 ∀(b:C) (G H:Nat→Prop) (vm vl vt vp vk um ul ut up uk:Value) (w:World) (deep:Nat) (left:Int) (m:List (Int×Int)),
  Wf a→Wf b→(∀k,G k→¬ch E L k)→(∀k,H k→¬ch E L k)→Rep G w a vm vl vt vp vk→Rep H w b um ul ut up uk→LB w L left→E.Sa w m→0≤left→left≤8192→deep≤4611686018427387904→(E.g=true→∀x∈parts a,x.p.length≤32)→E.room left 0 m→E.lim≤w.heap.size→
  Calls Tryz.prog 38 #[V a vm vl vt vp vk,V b um ul ut up uk,.int .i64 (deep:Int),.pointer (some ⟨L,0,none⟩),.func (.func E.f) #[] E.cap] w (BPost E L a b deep left m w)
structure Tw(a:C)(vm vl vt vp vk:Value)(b:C)(um ul ut up uk:Value)(G H:Nat→Prop)(A0 B0:Nat)(wx:World):Prop where
 ba:Bc wx A0 a vm vl vt vp vk
 bb:Bc wx B0 b um ul ut up uk
 ra:Rep G wx a vm vl vt vp vk
 rb:Rep H wx b um ul ut up uk
theorem Tw.keep{a b:C}{vm vl vt vp vk um ul ut up uk:Value}{G H S:Nat→Prop}{A0 B0:Nat}{wx wy:World}(h:Tw a vm vl vt vp vk b um ul ut up uk G H A0 B0 wx)(hk:Keep S wx wy)(h1:¬S A0)(h2:¬S B0)(h3:∀k,G k→¬S k)(h4:∀k,H k→¬S k):Tw a vm vl vt vp vk b um ul ut up uk G H A0 B0 wy:=
 ⟨h.ba.keep hk h1,h.bb.keep hk h2,Rep.keep hk (fun k hk' _=>h3 k hk') a h.ra,Rep.keep hk (fun k hk' _=>h4 k hk') b h.rb⟩
theorem Tw.below{a b:C}{vm vl vt vp vk um ul ut up uk:Value}{G H:Nat→Prop}{A0 B0:Nat}{wx wy:World}(h:Tw a vm vl vt vp vk b um ul ut up uk G H A0 B0 wx)(hk:Below wx.heap.size wx wy):Tw a vm vl vt vp vk b um ul ut up uk G H A0 B0 wy:=
 h.keep (S:=fun _=>False) (keep_of_below hk) id id (fun _ _=>id) (fun _ _=>id)
structure Q1(E:AK)(L:Nat)(a b:C)(left:Int)(m:List (Int×Int))(w:World)(T:World→Prop)(j:Nat)(wx:World):Prop where
 tw:T wx
 lb:LB wx L (left - 1)
 kp:Keep (ch E L) w wx
 ms:∃mj,E.Sa wx mj∧E.room left j mj∧stepsG E.st m a.p b.p=stepsG E.st mj (a.p.drop j) (b.p.drop j)
structure Q2(E:AK)(L:Nat)(a b:C)(left:Int)(m:List (Int×Int))(w:World)(T:World→Prop)(S:Bool)(wx:World):Prop where
 tw:T wx
 lb:LB wx L (left - 1)
 kp:Keep (ch E L) w wx
 ok:(stepsG E.st m a.p b.p).1=true
 sv:S=if a.k=2∨a.k=4 then(E.st (stepsG E.st m a.p b.p).2 a.n b.n).1 else decide (a.n=b.n)
 ms:S=true→E.Sa wx (if a.k=2∨a.k=4 then(E.st (stepsG E.st m a.p b.p).2 a.n b.n).2 else(stepsG E.st m a.p b.p).2)∧E.room left 33 (if a.k=2∨a.k=4 then(E.st (stepsG E.st m a.p b.p).2 a.n b.n).2 else(stepsG E.st m a.p b.p).2)
theorem Q2.below{E:AK}{L:Nat}{a b:C}{left:Int}{m:List (Int×Int)}{w wx wy:World}{T:World→Prop}{S:Bool}(hE:E.Ok)(h:Q2 E L a b left m w T S wx)(hT:T wy)(hb:Below wx.heap.size wx wy):Q2 E L a b left m w T S wy:=
 ⟨hT,Hp.below h.lb hb,h.kp.below hb,h.ok,h.sv,fun e=>⟨hE.keep (fun _=>False) _ _ _ (h.ms e).1 (keep_of_below hb) (fun _ _=>id),(h.ms e).2⟩⟩
structure Q3(E:AK)(L:Nat)(a b:C)(deep:Nat)(left:Int)(m:List (Int×Int))(w:World)(T:World→Prop)(j:Nat)(wx:World):Prop where
 tw:T wx
 kp:Keep (ch E L) w wx
 ms:∃lj mj,LB wx L lj∧E.Sa wx mj∧0≤lj∧lj≤left - 1∧E.room lj 0 mj∧besideG E.st a b deep left m=besideGL E.st (a.l.drop j) (b.l.drop j) (deep+1) lj mj
theorem bg_not{st:Asks}{a b:C}{deep:Nat}{left:Int}{m:List (Int×Int)}(h:(left - 1<0∨128<deep)∨like a b=false∨(stepsG st m a.p b.p).1=false∨(if a.k=2∨a.k=4 then(st (stepsG st m a.p b.p).2 a.n b.n).1 else decide (a.n=b.n))=false):(besideG st a b deep left m).1=false:=by
 obtain⟨k,n,s,d,p,l⟩:=a;rw[besideG];by_cases h1:left - 1<0∨128<deep
 ·rw[if_pos h1]
 rw[if_neg h1];by_cases h2:like (.mk k n s d p l) b=false
 ·rw[if_pos h2]
 rw[if_neg h2];by_cases h3:(stepsG st m p b.p).1=false
 ·rw[if_pos h3]
 rw[if_neg h3];have h4:(if k=2∨k=4 then(st (stepsG st m p b.p).2 n b.n).1 else decide (n=b.n))=false:=((h.resolve_left h1).resolve_left h2).resolve_left h3;by_cases hk:k=2∨k=4
 ·rw[if_pos hk]at h4;rw[if_pos ⟨hk,h4⟩]
 ·rw[if_neg hk]at h4;rw[if_neg (fun h=>hk h.1),if_pos ⟨hk,of_decide_eq_false h4⟩]
theorem bg_go{st:Asks}{a b:C}{deep:Nat}{left:Int}{m:List (Int×Int)}(h1:0≤left - 1)(h2:deep≤128)(h3:like a b=true)(h4:(stepsG st m a.p b.p).1=true)(h5:(if a.k=2∨a.k=4 then(st (stepsG st m a.p b.p).2 a.n b.n).1 else decide (a.n=b.n))=true):
  besideG st a b deep left m=besideGL st a.l b.l (deep+1) (left - 1) (if a.k=2∨a.k=4 then(st (stepsG st m a.p b.p).2 a.n b.n).2 else(stepsG st m a.p b.p).2):=by
 obtain⟨k,n,s,d,p,l⟩:=a;have h4:(stepsG st m p b.p).1=true:=h4;have h5:(if k=2∨k=4 then(st (stepsG st m p b.p).2 n b.n).1 else decide (n=b.n))=true:=h5;rw[besideG,if_neg (by omega),if_neg (by rw[h3];simp),if_neg (by rw[h4];simp)];by_cases hk:k=2∨k=4
 ·rw[if_pos hk]at h5;rw[if_neg (show ¬ ((k=2∨k=4)∧(st (stepsG st m p b.p).2 n b.n).1=false)from fun h=>by rw[h5]at h;cases h.2),if_neg (show ¬ (¬ (k=2∨k=4)∧n≠b.n)from fun h=>h.1 hk)]
  rfl
 ·rw[if_neg hk]at h5;rw[if_neg (show ¬ ((k=2∨k=4)∧(st (stepsG st m p b.p).2 n b.n).1=false)from fun h=>hk h.1),if_neg (show ¬ (¬ (k=2∨k=4)∧n≠b.n)from fun h=>h.2 (of_decide_eq_true h5))]
  rfl
theorem like_of{a b:C}(h1:a.k=b.k)(h2:a.s=b.s)(h3:a.p.length=b.p.length)(h4:a.l.length=b.l.length):like a b=sd a.d b.d:=by
 unfold like;rw[decide_eq_true h1,decide_eq_true h2,decide_eq_true h3,decide_eq_true h4];simp
theorem fm_num(k:Int):((fm k).2.1==1)=decide (k=2∨k=4):=by
 by_cases h:1≤k∧k≤10
 ·obtain rfl|rfl|rfl|rfl|rfl|rfl|rfl|rfl|rfl|rfl:k=1∨k=2∨k=3∨k=4∨k=5∨k=6∨k=7∨k=8∨k=9∨k=10:=by omega
  all_goals rfl
 ·unfold fm;rw[if_neg h,decide_eq_false (by omega)]
  rfl
theorem parts_p{a x:C}(hx0:x∈a.l){q:C}(hq:q∈parts x):q∈parts a:=by
 obtain⟨k,n,s,d,p,l⟩:=a;have hx:x∈l:=hx0;clear hx0;rw[parts];refine List.mem_cons_of_mem _ ?_;clear k n s d p
 induction l with
 |nil=>simp at hx
 |cons y r ih=>
  rw[partsL];rcases List.mem_cons.1 hx with rfl|h
  ·exact List.mem_append.2 (.inl hq)
  ·exact List.mem_append.2 (.inr (ih h))
theorem parts_self(a:C):a∈parts a:=by
 obtain⟨k,n,s,d,p,l⟩:=a;rw[parts];exact List.mem_cons_self ..
end Co
set_option maxRecDepth 100000 in
set_option maxHeartbeats 16000000 in
theorem coBes_step(E:Co.AK)(hE:E.Ok)(L:Nat)(hL:¬E.lb L)(a:Co.C)(hch:∀y∈a.l,Co.BesIs E L y):Co.BesIs E L a:=by
 intro b G H vm vl vt vp vk um ul ut up uk w deep left m hWa hWb hG hH hRa hRb hLB hSt hl0 hl1 hdeep hpar hroom hlim;obtain⟨-,⟨ap,cp,rfl,hlcp,-⟩,⟨ak,ck,rfl,hlck,-⟩⟩:=(Co.rep_iff _ _ _ _ _ _ _ _).1 hRa;obtain⟨-,⟨bp,dp,rfl,hldp,-⟩,⟨bk,dk,rfl,hldk,-⟩⟩:=(Co.rep_iff _ _ _ _ _ _ _ _).1 hRb;unfold Co.V;obtain⟨w1,hw1⟩:∃w1,w.alloc (.cells #[.int .i64 a.k,.int .i64 a.n,.string a.s,.int .i64 a.d.k,.int .i64 a.d.n,.string a.d.s,vm,vl,vt,.slice ap a.p.length cp,.slice ak a.l.length ck] 28)=w1:=⟨_,rfl⟩
 obtain⟨w2,hw2⟩:∃w2,w1.alloc (.cells #[.int .i64 b.k,.int .i64 b.n,.string b.s,.int .i64 b.d.k,.int .i64 b.d.n,.string b.d.s,um,ul,ut,.slice bp b.p.length dp,.slice bk b.l.length dk] 28)=w2:=⟨_,rfl⟩
 obtain⟨hb1,hs1⟩:=new_below hw1;obtain⟨hb2,hs2⟩:=new_below hw2;obtain⟨A0,hA0⟩:∃A0,w.heap.size=A0:=⟨_,rfl⟩
 obtain⟨B0,hB0⟩:∃B0,w1.heap.size=B0:=⟨_,rfl⟩
 have hb02:Below w.heap.size w w2:=hb1.trans (hb2.mono (by omega));have ha0:Co.Bc w1 w.heap.size a vm vl vt (.slice ap a.p.length cp) (.slice ak a.l.length ck):=Hp.new hw1;have hbb0:Co.Bc w2 w1.heap.size b um ul ut (.slice bp b.p.length dp) (.slice bk b.l.length dk):=Hp.new hw2;rw[hA0]at ha0;rw[hB0]at hbb0;have hll:L<w.heap.size:=hLB.lt;have hl2:Co.LB w2 L left:=hLB.below hb02;obtain⟨w3,hw3⟩:∃w3,w2.setCell ⟨L,0,none⟩ (.int .i64 (left - 1))=w3:=⟨_,rfl⟩
 have hk3:Keep (fun k=>k=L) w2 w3:=by rw[←hw3];exact set_keep _ _ _ _
 have hl3:Co.LB w3 L (left - 1):=by
  rw[←hw3];exact Hp.set hl2 0 _
 have htw2:Co.Tw a vm vl vt (.slice ap a.p.length cp) (.slice ak a.l.length ck) b um ul ut (.slice bp b.p.length dp) (.slice bk b.l.length dk) G H A0 B0 w2:=⟨ha0.keep (S:=fun _=>False) (keep_of_below hb2) id,hbb0,hRa.below hb02,hRb.below hb02⟩
 have HNL:Hid (¬Co.ch E L A0∧¬Co.ch E L B0∧A0≠L∧B0≠L∧A0=w.heap.size∧B0=w.heap.size+1):=
  ⟨fun h=>h.elim (fun e=>by omega) (fun h=>by have:=hE.lbl _ h;omega),fun h=>h.elim (fun e=>by omega) (fun h=>by have:=hE.lbl _ h;omega),by omega,by omega,by omega,by omega⟩
 have HTW:=zh (htw2.keep hk3 HNL.out.2.2.1 HNL.out.2.2.2.1 (fun k hk e=>hG k hk (.inl e)) (fun k hk e=>hH k hk (.inl e)));have HKP:Hid (Keep (Co.ch E L) w w3):=((Keep.refl _ w).below hb02).trans (hk3.le fun k e=> .inl e);have HL3:=zh hl3;have HST:Hid (E.Sa w3 m):=hE.keep _ _ _ _ (hE.keep (fun _=>False) _ _ _ hSt (keep_of_below hb02) (fun _ _=>id)) hk3 (fun k hk e=>hL (by rw[←e];exact hk));have HE:=zh hE;have HCH:=zh hch;have HWA:=zh hWa;have HWB:=zh hWb;have HG:=zh hG;have HH:=zh hH;have HPAR:=zh hpar;have HROOM:=zh hroom;have HLIM:=zh hlim;have HNLB:=zh hL;have hla:a.p.length≤140737488355328:=(Co.wf_parts hWa).2.2.2.1;have hlb:b.p.length≤140737488355328:=(Co.wf_parts hWb).2.2.2.1;have hka:a.l.length≤140737488355328:=(Co.wf_parts hWa).2.2.2.2.2.1;have hkb:b.l.length≤140737488355328:=(Co.wf_parts hWb).2.2.2.2.2.1;have HNOT:Hid (∀wx,Keep (Co.ch E L) w wx→(left - 1<0∨128<deep)∨Co.like a b=false∨(Co.stepsG E.st m a.p b.p).1=false∨(if a.k=2∨a.k=4 then(E.st (Co.stepsG E.st m a.p b.p).2 a.n b.n).1 else decide (a.n=b.n))=false→Co.BPost E L a b deep left m w (.returned (.bool false)) wx):=fun wx hk hn=>by
  have e:=Co.bg_not hn (deep:=deep) (left:=left);exact⟨by rw[e],hk,fun h=>by rw[e]at h;cases h⟩
 have HX:=zh hl2;have x0:=HX.out.cell 0 rfl;have xf0:=HX.out.frz 0;have HY:=zh hl3;have HA:Hid (Co.Bc w3 A0 a vm vl vt (.slice ap a.p.length cp) (.slice ak a.l.length ck)):=HTW.out.ba;have HB:Hid (Co.Bc w3 B0 b um ul ut (.slice bp b.p.length dp) (.slice bk b.l.length dk)):=HTW.out.bb;have y0:=HY.out.cell 0 rfl;obtain⟨a0,a1,a2,a3,a4,a5,a6,a7,a8,a9,a10⟩:=HA.out.c11;obtain⟨b0,b1,b2,b3,b4,b5,b6,b7,b8,b9,b10⟩:=HB.out.c11;clear hE hch hWa hWb hG hH hRa hRb hLB hSt hpar hroom hlim hL hb1 hb2 hb02 ha0 hbb0 hl2 hk3 hl3 htw2 hs1 hs2;by_cases g1:left - 1<0
 ·have t1:decide (left - 1<0)=true:=decide_eq_true g1;have HR:=zh (HNOT.out w3 HKP.out (.inl (.inl g1)));clear g1;go_enter Tryz.func38,Tryz.ntmps38;go_wp2;go_ret;exact HR.out
 have t1:decide (left - 1<0)=false:=decide_eq_false g1;by_cases g2:128<deep
 ·have t2:decide ((128:Int)<(deep:Int))=true:=decide_eq_true (by omega);have HR:=zh (HNOT.out w3 HKP.out (.inl (.inr g2)));clear g2;go_enter Tryz.func38,Tryz.ntmps38;go_wp2;go_ret;exact HR.out
 have t2:decide ((128:Int)<(deep:Int))=false:=decide_eq_false (by omega);by_cases g3:¬a.k=b.k
 ·have t3:(a.k !=b.k)=true:=by simpa using g3
  have HR:=zh (HNOT.out w3 HKP.out (.inr (.inl (by unfold Co.like;rw[decide_eq_false g3];rfl))));clear g3;go_enter Tryz.func38,Tryz.ntmps38;go_wp2;go_ret;exact HR.out
 have t3:(a.k !=b.k)=false:=by simpa using g3
 by_cases g4:¬a.s=b.s
 ·have s1:decide (a.s=b.s)=false:=decide_eq_false g4;have s2:(a.s.data==b.s.data)=false:=by rw[beq_eq_false_iff_ne];intro e;exact g4 (Dt.bytes_ext (by rw[e]))
  have s3:(a.s.data !=b.s.data)=true:=by rw[bne,s2];rfl
  have s4:(a.s==b.s)=false:=s2;have s5:(a.s !=b.s)=true:=s3;have s6:(a.s.toList==b.s.toList)=false:=by rw[ByteArray.toList_eq,ByteArray.toList_eq,beq_eq_false_iff_ne];exact fun e=>g4 (Dt.bytes_ext e)
  have s7:(a.s.toList !=b.s.toList)=true:=by rw[bne,s6];rfl
  have HR:=zh (HNOT.out w3 HKP.out (.inr (.inl (by unfold Co.like;rw[decide_eq_false g4];simp))));clear g4;go_enter Tryz.func38,Tryz.ntmps38;go_wp2;go_ret;exact HR.out
 have s1:decide (a.s=b.s)=true:=decide_eq_true (Classical.not_not.1 g4);have s2:(a.s.data==b.s.data)=true:=by rw[Classical.not_not.1 g4];simp
 have s3:(a.s.data !=b.s.data)=false:=by rw[bne,s2];rfl
 have s4:(a.s==b.s)=true:=s2;have s5:(a.s !=b.s)=false:=s3;have s6:(a.s.toList==b.s.toList)=true:=by rw[Classical.not_not.1 g4];simp
 have s7:(a.s.toList !=b.s.toList)=false:=by rw[bne,s6];rfl
 by_cases g5:¬a.p.length=b.p.length
 ·have t5:((a.p.length:Int) !=(b.p.length:Int))=true:=by rw[bne_iff_ne];exact fun e=>g5 (by omega)
  have HR:=zh (HNOT.out w3 HKP.out (.inr (.inl (by unfold Co.like;rw[decide_eq_false g5];simp))));clear g5;go_enter Tryz.func38,Tryz.ntmps38;go_wp2;go_ret;exact HR.out
 have t5:((a.p.length:Int) !=(b.p.length:Int))=false:=by rw[bne_eq_false_iff_eq];exact congrArg _ (Classical.not_not.1 g5)
 by_cases g6:¬a.l.length=b.l.length
 ·have t6:((a.l.length:Int) !=(b.l.length:Int))=true:=by rw[bne_iff_ne];exact fun e=>g6 (by omega)
  have HR:=zh (HNOT.out w3 HKP.out (.inr (.inl (by unfold Co.like;rw[decide_eq_false g6];simp))));clear g6;go_enter Tryz.func38,Tryz.ntmps38;go_wp2;go_ret;exact HR.out
 have t6:((a.l.length:Int) !=(b.l.length:Int))=false:=by rw[bne_eq_false_iff_eq];exact congrArg _ (Classical.not_not.1 g6)
 have hg3:=Classical.not_not.1 g3;have hg4:=Classical.not_not.1 g4;have hg5:=Classical.not_not.1 g5;have hg6:=Classical.not_not.1 g6;have HLK:Hid (Co.like a b=Co.sd a.d b.d):=Co.like_of hg3 hg4 hg5 hg6;have HG5:=zh hg5;have HG6:=zh hg6;have HQ0:Hid (Co.Q1 E L a b left m w (Co.Tw a vm vl vt (.slice ap a.p.length cp) (.slice ak a.l.length ck) b um ul ut (.slice bp b.p.length dp) (.slice bk b.l.length dk) G H A0 B0) 0 w3):=⟨HTW.out,HL3.out,HKP.out,m,HST.out,HROOM.out,rfl⟩
 have HP32:Hid (E.g=true→a.p.length≤32):=fun e=>HPAR.out e a (Co.parts_self a)
 clear g3 g4 g5 g6 hg3 hg4 hg5 hg6;go_enter Tryz.func38,Tryz.ntmps38;go_upto_block 0 with fail
 clear x0 xf0 y0 t1 t2 t3 s1 s2 s3 s4 s5 s6 s7 t5 t6 hw1 hw2 hw3 HTW HL3 HKP HST HX HY HA HB;clear a0 a1 a2 a3 a4 a5 a6 a7 a8 a9 a10 b0 b1 b2 b3 b4 b5 b6 b7 b8 b9 b10
 go_cut [] (fun wx=>Co.Q1 E L a b left m w (Co.Tw a vm vl vt (.slice ap a.p.length cp) (.slice ak a.l.length ck) b um ul ut (.slice bp b.p.length dp) (.slice bk b.l.length dk) G H A0 B0) a.p.length wx)
 case first=>
  go_wp2
  go_loopw [65] (fun v wr=>∃j:Nat,v= .int .i64 j∧j≤a.p.length∧Hid (Co.Q1 E L a b left m w (Co.Tw a vm vl vt (.slice ap a.p.length cp) (.slice ak a.l.length ck) b um ul ut (.slice bp b.p.length dp) (.slice bk b.l.length dk) G H A0 B0) j wr)) (fun v _=>a.p.length - (intOf v).toNat)
  case atStart=>exact⟨0,rfl,by omega,HQ0⟩
  case round=>
   clear HQ0;obtain⟨j,rfl,hj,HQ⟩:=hrel;by_cases hlt:j<a.p.length
   case neg=>
    have hge:(a.p.length:Int)≤(j:Int):=by omega
    have HE1:Hid (Co.Q1 E L a b left m w (Co.Tw a vm vl vt (.slice ap a.p.length cp) (.slice ak a.l.length ck) b um ul ut (.slice bp b.p.length dp) (.slice bk b.l.length dk) G H A0 B0) a.p.length wr):=by
     have:=HQ.out;rw[show j=a.p.length by omega]at this;exact this
    go_wp2;go_meet;exact HE1.out
   have hlti:(j:Int)<(a.p.length:Int):=by omega
   have hltn:j<b.p.length:=by have:=HG5.out;omega
   have hltb:(j:Int)<(b.p.length:Int):=by omega
   obtain⟨htw,hlb,hkp,mj,hst,hrm,hsp⟩:=HQ.out;obtain⟨-,⟨_,_,he,_,hrow⟩,-⟩:=(Co.rep_iff _ _ _ _ _ _ _ _).1 htw.ra;injection he with he1 he2 he3
   subst he1;clear he2 he3;obtain⟨ba,oa,rfl,hGa,hbla,hcella⟩:=hrow (by intro h0;rw[h0]at hlt;simp at hlt);have p0:=hcella j hlt;obtain⟨-,⟨_,_,he,_,hrow'⟩,-⟩:=(Co.rep_iff _ _ _ _ _ _ _ _).1 htw.rb;injection he with he1 he2 he3
   subst he1;clear he2 he3;obtain⟨bb,ob,rfl,hHb,hblb,hcellb⟩:=hrow' (by intro h0;rw[h0]at hltn;simp at hltn);have p1:=hcellb j hltn;have b4:=htw.bb.cell 4 rfl;have b9:=htw.bb.cell 9 rfl;obtain⟨x,hx⟩:∃x,a.p[j]=x:=⟨_,rfl⟩
   obtain⟨y,hy⟩:∃y,b.p[j]=y:=⟨_,rfl⟩
   rw[hx]at p0;rw[hy]at p1;have hx64:Co.I64 x:=by rw[←hx];exact(Co.wf_parts HWA.out).2.2.2.2.1 _ (List.getElem_mem hlt)
   have hy64:Co.I64 y:=by rw[←hy];exact(Co.wf_parts HWB.out).2.2.2.2.1 _ (List.getElem_mem hltn)
   rw[List.drop_eq_getElem_cons hlt,List.drop_eq_getElem_cons hltn,hx,hy,Co.stepsG]at hsp;have hcall:=HE.out.told wr mj x y hst (hrm.lim hl0 hl1 (fun e=>by have:=HP32.out e;omega)) hx64 hy64;have hrm':=HE.out.room hrm x y;unfold Co.AK.Told at hcall;obtain⟨R,hR⟩:∃R,(E.st mj x y).1=R:=⟨_,rfl⟩
   obtain⟨m',hm'⟩:∃m',(E.st mj x y).2=m':=⟨_,rfl⟩
   rw[hR,hm']at hcall;rw[hm']at hrm';rw[hR,hm']at hsp;have hent:=HE.out.ent;have HTW:=zh htw;have HLB:=zh hlb;have HKP:=zh hkp;have HSP:=zh hsp;have HRM:=zh hrm';have HRR:=zh hR;clear htw hlb hkp hst hrm hsp hrow hrow' hcella hcellb hx hy hx64 hy64 hrm' hR hm';go_wp2_with fail
   refine hcall.mono ?_;rintro e w4 ⟨rfl,hk4,hs4⟩;have hkc:Keep (Co.ch E L) wr w4:=hk4.le fun k hk=> .inr hk
   cases R with
   |false=>
    have HR:=zh (HNOT.out w4 (HKP.out.trans hkc) (.inr (.inr (.inl (by rw[HSP.out,if_neg (by simp)];exact HRR.out)))));clear hcall hent hk4 hs4 hkc p0 p1 b4 b9;go_wp2;go_ret;exact HR.out
   |true=>
    have HQ2:Hid (Co.Q1 E L a b left m w (Co.Tw a vm vl vt (.slice (some ⟨ba,oa,none⟩) a.p.length cp) (.slice ak a.l.length ck) b um ul ut (.slice (some ⟨bb,ob,none⟩) b.p.length dp) (.slice bk b.l.length dk) G H A0 B0) (j+1) w4):=
     ⟨HTW.out.keep hkc HNL.out.1 HNL.out.2.1 HG.out HH.out,HLB.out.keep hk4 HNLB.out,HKP.out.trans hkc,m',hs4 rfl,HRM.out,by rw[HSP.out,if_pos rfl]⟩
    clear hcall hent hk4 hs4 hkc p0 p1 b4 b9;go_wp2;go_roundw
    case rel=>exact⟨j+1,by simp,by omega,HQ2⟩
    case measure=>simp[intOf];omega
 case rest=>
  obtain⟨w4,rfl⟩:∃w4,w4=wc:=⟨_,rfl⟩
  clear HQ0;obtain⟨htw,hlb,hkp,mj,hst,hrm,hsp⟩:=hcut;rw[List.drop_length,Co.stepsG]at hsp;have HA:Hid (Co.Bc w4 A0 a vm vl vt (.slice ap a.p.length cp) (.slice ak a.l.length ck)):=htw.ba;have HB:Hid (Co.Bc w4 B0 b um ul ut (.slice bp b.p.length dp) (.slice bk b.l.length dk)):=htw.bb;have a0:=HA.out.cell 0 rfl;have a1:=HA.out.cell 1 rfl;have b1:=HB.out.cell 1 rfl;have hfm:=fun W=>forms_any a.k W
  obtain⟨fs,fh,fl,ft,hfv,hfh⟩:∃(fs:ByteArray) (fh fl ft:Int),Co.fmV a.k= .agg #[.string fs,.int .i64 fh,.int .i64 fl,.int .i64 ft]∧(fh==1)=decide (a.k=2∨a.k=4):=⟨_,_,_,_,rfl,Co.fm_num a.k⟩
  rw[hfv]at hfm;obtain⟨ik,hik⟩:∃ik,Co.isKind a.k=ik:=⟨_,rfl⟩
  rw[hik]at hfm;obtain⟨K,hK⟩:∃K,decide (a.k=2∨a.k=4)=K:=⟨_,rfl⟩
  rw[hK]at hfh;obtain⟨N0,hN0⟩:∃N0,(a.n==b.n)=N0:=⟨_,rfl⟩
  have hN1:decide (a.n=b.n)=N0:=by rw[←hN0];by_cases h:a.n=b.n <;> simp[h]
  have HN1:=zh hN1;have HK:=zh hK;have HTW:=zh htw;have HLB:=zh hlb;have HKP:=zh hkp;have HSP:=zh hsp;have HST:=zh hst;have HRM:=zh hrm;clear hfv hik hK htw hlb hkp hsp hst hrm hN1
  go_upto_if 93 with((go_at_call 49;refine(hfm _).mono ?_;rintro e w5 ⟨rfl,hb5⟩;clear hfm a0 a1 b1;have hw6:w5.alloc (.cells #[.string fs,.int .i64 fh,.int .i64 fl,.int .i64 ft] 88)=w5.alloc (.cells #[.string fs,.int .i64 fh,.int .i64 fl,.int .i64 ft] 88):=rfl;obtain⟨hb6,-⟩:=new_below hw6;have f0:=(Hp.new hw6).cell 0 rfl;have f1:=(Hp.new hw6).cell 1 rfl;have HB6:=zh ((btr hb5 hb6));clear hb5 hb6 hw6))
  obtain⟨w6,hw6⟩:∃w6,w5.alloc (.cells #[.string fs,.int .i64 fh,.int .i64 fl,.int .i64 ft] 88)=w6:=⟨_,rfl⟩
  rw[hw6]at f0 f1 HB6 ⊢;clear hw6;have HTW6:=zh (HTW.out.below HB6.out);have HLB6:Hid (Co.LB w6 L (left - 1)):=HLB.out.below HB6.out;have HKP6:Hid (Keep (Co.ch E L) w w6):=HKP.out.below HB6.out;have HST6:Hid (E.Sa w6 mj):=HE.out.keep (fun _=>False) _ _ _ HST.out (keep_of_below HB6.out) (fun _ _=>id);have HOK:Hid ((Co.stepsG E.st m a.p b.p).1=true):=by show _=_;rw[HSP.out]
  clear HTW HLB HKP HST HA HB
  go_cut [13] (fun v wx=>∃S:Bool,v= .bool S∧Co.Q2 E L a b left m w (Co.Tw a vm vl vt (.slice ap a.p.length cp) (.slice ak a.l.length ck) b um ul ut (.slice bp b.p.length dp) (.slice bk b.l.length dk) G H A0 B0) S wx)
  case first=>
   cases K with
   |false=>
    have hk:¬ (a.k=2∨a.k=4):=of_decide_eq_false HK.out;have HQ:Hid (Co.Q2 E L a b left m w (Co.Tw a vm vl vt (.slice ap a.p.length cp) (.slice ak a.l.length ck) b um ul ut (.slice bp b.p.length dp) (.slice bk b.l.length dk) G H A0 B0) N0 w6):=⟨HTW6.out,HLB6.out,HKP6.out,HOK.out,by rw[if_neg hk];exact HN1.out.symm,fun _=>by rw[if_neg hk,HSP.out];exact⟨HST6.out,HRM.out.more (fun e=>by have:=HP32.out e;omega)⟩⟩
    clear hk;go_wp2;go_meet;exact⟨N0,rfl,HQ.out⟩
   |true=>
    have hkt:a.k=2∨a.k=4:=of_decide_eq_true HK.out;have HKT:=zh hkt;clear hkt;have a1:=HTW6.out.ba.cell 1 rfl;have b1:=HTW6.out.bb.cell 1 rfl;have hcall:=HE.out.told w6 mj a.n b.n HST6.out (HRM.out.lim hl0 hl1 (fun e=>by have:=HP32.out e;omega)) (Co.wf_parts HWA.out).1 (Co.wf_parts HWB.out).1;have hrm':=HE.out.room HRM.out a.n b.n;unfold Co.AK.Told at hcall;obtain⟨R,hR⟩:∃R,(E.st mj a.n b.n).1=R:=⟨_,rfl⟩
    obtain⟨m',hm'⟩:∃m',(E.st mj a.n b.n).2=m':=⟨_,rfl⟩
    rw[hR,hm']at hcall;rw[hm']at hrm';have hent:=HE.out.ent;have HRM':=zh hrm';have HRR:=zh hR;have HMM:=zh hm';clear hrm' hR hm';go_wp2_with fail
    refine hcall.mono ?_;rintro e w7 ⟨rfl,hk7,hs7⟩;have hkc:Keep (Co.ch E L) w6 w7:=hk7.le fun k hk=> .inr hk
    have HQ:Hid (Co.Q2 E L a b left m w (Co.Tw a vm vl vt (.slice ap a.p.length cp) (.slice ak a.l.length ck) b um ul ut (.slice bp b.p.length dp) (.slice bk b.l.length dk) G H A0 B0) R w7):=⟨HTW6.out.keep hkc HNL.out.1 HNL.out.2.1 HG.out HH.out,HLB6.out.keep hk7 HNLB.out,HKP6.out.trans hkc,HOK.out,by rw[if_pos HKT.out,HSP.out];exact HRR.out.symm,fun e=>by rw[if_pos HKT.out,HSP.out];dsimp only;rw[HMM.out];exact⟨hs7 e,HRM'.out.more (fun e=>by have:=HP32.out e;omega)⟩⟩
    clear hcall hent hk7 hs7 hkc a1 b1;go_wp2;go_meet;exact⟨R,rfl,HQ.out⟩
  case rest=>
   obtain⟨S,rfl,hq⟩:=hcut;obtain⟨w7,rfl⟩:∃w7,w7=wc:=⟨_,rfl⟩
   have HQ:=zh hq;clear hq HTW6 HLB6 HKP6 HST6 f0 f1 hfh HB6 hN0;go_upto_region 14 with fail
   go_cut [119] (fun v wx=>∃Y:Bool,v= .bool Y∧Y= !(S&&Co.sd a.d b.d)∧Co.Q2 E L a b left m w (Co.Tw a vm vl vt (.slice ap a.p.length cp) (.slice ak a.l.length ck) b um ul ut (.slice bp b.p.length dp) (.slice bk b.l.length dk) G H A0 B0) S wx)
   case first=>
    cases S with
    |false=>
     go_wp2;go_meet;exact⟨_,rfl,rfl,HQ.out⟩
    |true=>
     have HA:Hid (Co.Bc w7 A0 a vm vl vt (.slice ap a.p.length cp) (.slice ak a.l.length ck)):=HQ.out.tw.ba;have HB:Hid (Co.Bc w7 B0 b um ul ut (.slice bp b.p.length dp) (.slice bk b.l.length dk)):=HQ.out.tw.bb;have hra:=fun W (hb:Below w7.heap.size w7 W)=>((Co.rep_iff _ _ _ _ _ _ _ _).1 (HQ.out.tw.below hb).ra).1
     have hrb:=fun W (hb:Below w7.heap.size w7 W)=>((Co.rep_iff _ _ _ _ _ _ _ _).1 (HQ.out.tw.below hb).rb).1
     have hza:=fun W (hb:Below w7.heap.size w7 W)=>zeroC_any a.d vm vl vt W (Co.wf_parts HWA.out).2.2.1 (hra W hb)
     have hzb:=fun W (hb:Below w7.heap.size w7 W)=>zeroC_any b.d um ul ut W (Co.wf_parts HWB.out).2.2.1 (hrb W hb)
     have hsd:=fun W (hb:Below w7.heap.size w7 W)=>dSame_any a.d b.d vm vl vt um ul ut W (Co.wf_parts HWA.out).2.2.1 (Co.wf_parts HWB.out).2.2.1 (hra W hb) (hrb W hb)
     have hX:Co.sd a.d b.d=Co.sd a.d b.d:=rfl;conv at hX=>rhs;unfold Co.sd
     obtain⟨za,hza'⟩:∃za,Co.none_ a.d=za:=⟨_,rfl⟩
     obtain⟨zb,hzb'⟩:∃zb,Co.none_ b.d=zb:=⟨_,rfl⟩
     obtain⟨Z,hZ⟩:∃Z,Dt.sameD a.d b.d=Z:=⟨_,rfl⟩
     rw[hza',hzb',hZ]at hX;rw[hza']at hza;rw[hzb']at hzb;rw[hZ]at hsd;have HXX:=zh hX;clear hX;clear hza' hzb' hZ hra hrb;obtain⟨a0,a1,a2,a3,a4,a5,a6,a7,a8,a9,a10⟩:=HA.out.c11;go_wp2_with fail
     refine(hza w7 (Below.refl _ _)).mono ?_;rintro e w8 ⟨rfl,hb8⟩;clear a0 a1 a2 a3 a4 a5 a6 a7 a8 a9 a10;have HB8:=zh hb8;have hA8:=HA.out.below hb8;have hBB8:=HB.out.below hb8
     cases za with
     |true=>
      obtain⟨b0,b1,b2,b3,b4,b5,b6,b7,b8,b9,b10⟩:=HB.out.c11;clear b0 b1 b2 b3 b4 b5 b6 b7 b8 b9 b10;have HBB8:=zh hBB8;obtain⟨b0,b1,b2,b3,b4,b5,b6,b7,b8,b9,b10⟩:=HBB8.out.c11;clear hA8 hBB8 hb8;go_wp2_with fail
      refine(hzb w8 HB8.out).mono ?_;rintro e w9 ⟨rfl,hb9⟩;clear b0 b1 b2 b3 b4 b5 b6 b7 b8 b9 b10;have HB9:Hid (Below w7.heap.size w7 w9):=btr HB8.out hb9;have HA9:=zh (HA.out.below HB9.out);have HBB9:=zh (HB.out.below HB9.out);clear hb9
      cases zb with
      |true=>
       have HQ9:=zh (Co.Q2.below HE.out HQ.out (HQ.out.tw.below HB9.out) HB9.out);clear hza hzb hsd;go_wp2;go_meet;exact⟨_,rfl,by rw[HXX.out];rfl,HQ9.out⟩
      |false=>
       obtain⟨a0,a1,a2,a3,a4,a5,a6,a7,a8,a9,a10⟩:=HA9.out.c11;obtain⟨b0,b1,b2,b3,b4,b5,b6,b7,b8,b9,b10⟩:=HBB9.out.c11;go_wp2_with fail
       refine(hsd w9 HB9.out).mono ?_;rintro e w10 ⟨rfl,hb10⟩;clear a0 a1 a2 a3 a4 a5 a6 a7 a8 a9 a10 b0 b1 b2 b3 b4 b5 b6 b7 b8 b9 b10;have HB10:Hid (Below w7.heap.size w7 w10):=btr HB9.out hb10;have HQ10:=zh (Co.Q2.below HE.out HQ.out (HQ.out.tw.below HB10.out) HB10.out);clear hza hzb hsd hb10;go_wp2;go_meet;exact⟨_,rfl,by rw[HXX.out];rfl,HQ10.out⟩
     |false=>
      have HA8:=zh hA8;have HBB8:=zh hBB8;clear hA8 hBB8 hb8;obtain⟨a0,a1,a2,a3,a4,a5,a6,a7,a8,a9,a10⟩:=HA8.out.c11;obtain⟨b0,b1,b2,b3,b4,b5,b6,b7,b8,b9,b10⟩:=HBB8.out.c11;go_wp2_with fail
      refine(hsd w8 HB8.out).mono ?_;rintro e w10 ⟨rfl,hb10⟩;clear a0 a1 a2 a3 a4 a5 a6 a7 a8 a9 a10 b0 b1 b2 b3 b4 b5 b6 b7 b8 b9 b10;have HB10:Hid (Below w7.heap.size w7 w10):=btr HB8.out hb10;have HQ10:=zh (Co.Q2.below HE.out HQ.out (HQ.out.tw.below HB10.out) HB10.out);clear hza hzb hsd hb10;go_wp2;go_meet;exact⟨_,rfl,by rw[HXX.out];rfl,HQ10.out⟩
   case rest=>
    obtain⟨Y,rfl,hX,hq⟩:=hcut;obtain⟨w8,rfl⟩:∃w8,w8=wc:=⟨_,rfl⟩
    have HQ8:=zh hq;have HX:Hid ((S&&Co.sd a.d b.d)= !Y):=by show _=_;rw[hX,Bool.not_not]
    clear hq HQ hX
    cases Y with
    |true=>
     have HR:=zh (HNOT.out w8 HQ8.out.kp (by
      have h:(S&&Co.sd a.d b.d)=false:=HX.out;rw[Bool.and_eq_false_iff]at h;rcases h with h|h
      ·exact .inr (.inr (.inr (by rw[←HQ8.out.sv];exact h)))
      ·exact .inr (.inl (by rw[HLK.out];exact h))))
     go_wp2;go_ret;exact HR.out
    |false=>
     have HQ30:Hid (Co.Q3 E L a b deep left m w (Co.Tw a vm vl vt (.slice ap a.p.length cp) (.slice ak a.l.length ck) b um ul ut (.slice bp b.p.length dp) (.slice bk b.l.length dk) G H A0 B0) 0 w8):=by
      have h:(S&&Co.sd a.d b.d)=true:=HX.out;rw[Bool.and_eq_true]at h;obtain⟨hS,hD⟩:=h;have h2:=HQ8.out.ms hS;exact⟨HQ8.out.tw,HQ8.out.kp,left - 1,_,HQ8.out.lb,h2.1,by omega,Int.le_refl _,h2.2.down,by rw[List.drop_zero,List.drop_zero];exact Co.bg_go (by omega) (by omega) (by rw[HLK.out];exact hD) HQ8.out.ok (by rw[←HQ8.out.sv];exact hS)⟩
     have a10:=HQ8.out.tw.ba.cell 10 rfl;go_wp2;clear a10
     go_loopw [123] (fun v wr=>∃j:Nat,v= .int .i64 j∧j≤a.l.length∧Hid (Co.Q3 E L a b deep left m w (Co.Tw a vm vl vt (.slice ap a.p.length cp) (.slice ak a.l.length ck) b um ul ut (.slice bp b.p.length dp) (.slice bk b.l.length dk) G H A0 B0) j wr)) (fun v _=>a.l.length - (intOf v).toNat)
     case atStart=>exact⟨0,rfl,by omega,HQ30⟩
     case round=>
      clear HQ30;obtain⟨j,rfl,hj,HL⟩:=hrel;by_cases hlt:j<a.l.length
      case neg=>
       have hge:(a.l.length:Int)≤(j:Int):=by omega
       have HE1:Hid (Co.BPost E L a b deep left m w (.returned (.bool true)) wr):=by
        obtain⟨htw,hkp,lj,mj,h1,h2,h3,h4,h5,h6⟩:=HL.out;rw[show j=a.l.length by omega,List.drop_length,Co.besideGL]at h6;show Co.BPost E L a b deep left m w (.returned (.bool true)) wr;unfold Co.BPost;rw[h6];exact⟨rfl,hkp,fun _=>⟨h1,h2,h3,by show lj≤left;omega,h5⟩⟩
       go_wp2;go_ret;exact HE1.out
      have hlti:(j:Int)<(a.l.length:Int):=by omega
      have hltn:j<b.l.length:=by have:=HG6.out;omega
      have hltb:(j:Int)<(b.l.length:Int):=by omega
      obtain⟨htw,hkp,lj,mj,h1,h2,h3,h4,h5,h6⟩:=HL.out;obtain⟨wd,hwd⟩:∃wd,wr.drew=wd:=⟨_,rfl⟩
      have hbd:Below wr.heap.size wr wd:=by rw[←hwd];exact Co.drew_below wr
      have htwd:=htw.below hbd;obtain⟨-,-,⟨_,_,he,_,hrow⟩⟩:=(Co.rep_iff _ _ _ _ _ _ _ _).1 htwd.ra;injection he with he1 he2 he3
      subst he1;clear he2 he3;obtain⟨ba,oa,rfl,hGa,hbla,hrepsa⟩:=hrow (by intro h0;rw[h0]at hlt;simp at hlt);obtain⟨xm,xl,xt,xp,xk,hela,hrx⟩:=hrepsa.at j hlt;obtain⟨-,-,⟨_,_,he,_,hrow'⟩⟩:=(Co.rep_iff _ _ _ _ _ _ _ _).1 htwd.rb;injection he with he1 he2 he3
      subst he1;clear he2 he3;obtain⟨bb,ob,rfl,hHb,hblb,hrepsb⟩:=hrow' (by intro h0;rw[h0]at hltn;simp at hltn);obtain⟨ym,yl,yt,yp,yk,helb,hry⟩:=hrepsb.at j hltn;have hWx:Co.Wf a.l[j]:=Co.Wfs.at (Co.wf_parts HWA.out).2.2.2.2.2.2 j hlt;have hWy:Co.Wf b.l[j]:=Co.Wfs.at (Co.wf_parts HWB.out).2.2.2.2.2.2 j hltn;have hch:=HCH.out a.l[j] (List.getElem_mem hlt);have hpx:E.g=true→∀q∈Co.parts a.l[j],q.p.length≤32:=fun e q hq=>HPAR.out e q (Co.parts_p (List.getElem_mem hlt) hq)
      rw[List.drop_eq_getElem_cons hlt,List.drop_eq_getElem_cons hltn,Co.besideGL]at h6;obtain⟨x,hx⟩:∃x,a.l[j]=x:=⟨_,rfl⟩
      obtain⟨y,hy⟩:∃y,b.l[j]=y:=⟨_,rfl⟩
      rw[hx]at hela hrx hWx hch hpx h6;rw[hy]at helb hry hWy h6;have hcall:=hch y G H xm xl xt xp xk ym yl yt yp yk wd (deep+1) lj mj hWx hWy HG.out HH.out hrx hry (h1.below hbd) (HE.out.keep (fun _=>False) _ _ _ h2 (keep_of_below hbd) (fun _ _=>id)) h3 (by omega) (by omega) hpx h5 (by have:=HLIM.out;have:=hkp.size;have:=hbd.size;omega);obtain⟨⟨r1,r2,r3⟩,hR⟩:∃R,Co.besideG E.st x y (deep+1) lj mj=R:=⟨_,rfl⟩
      unfold Co.BPost at hcall;rw[hR]at hcall h6;unfold Co.V at hcall;dsimp only at hcall h6;rw[show((deep+1:Nat):Int)=(deep:Int)+1 from rfl]at hcall;obtain⟨e0,e1,e2,e3,e4,e5,e6,e7,e8,e9,e10⟩:=hela;obtain⟨q0,q1,q2,q3,q4,q5,q6,q7,q8,q9,q10⟩:=helb;have a10:=htwd.ba.cell 10 rfl;have b10:=htwd.bb.cell 10 rfl;have HTWD:=zh htwd;have HKPD:Hid (Keep (Co.ch E L) w wd):=hkp.below hbd;have H6:=zh h6;have H4:=zh h4;clear htw hkp h1 h2 h3 h4 h5 h6 hbd htwd hrow hrow' hrepsa hrepsb hrx hry hWx hWy hch hpx hx hy hR;go_wp2;refine wp_region_still_tail 14 (by kernel_rfl) (by kernel_rfl) ?_;change wpStill _ _ wr.drew _ _ _;rw[hwd];have HWD:=zh hwd;clear hwd;simp only[List.take_succ_cons,List.take_zero,List.drop_succ_cons,List.drop_zero];repeat still_step
      try refine wpStill_nil ?_
      go_wp2_with fail
      rw[HWD.out];refine hcall.mono ?_;rintro e w9 ⟨rfl,hk9,ht9⟩;clear e0 e1 e2 e3 e4 e5 e6 e7 e8 e9 e10 q0 q1 q2 q3 q4 q5 q6 q7 q8 q9 q10 a10 b10 hcall;have HK9:Hid (Keep (Co.ch E L) w w9):=HKPD.out.trans hk9;have HT9:=zh ht9;have HTW9:=zh (HTWD.out.keep hk9 HNL.out.1 HNL.out.2.1 HG.out HH.out);clear hk9 ht9
      cases r1 with
      |false=>
       have HR:Hid (Co.BPost E L a b deep left m w (.returned (.bool false)) w9):=by
        have e:Co.besideG E.st a b deep left m=(false,r2,r3):=by rw[H6.out];rfl
        show Co.BPost E L a b deep left m w (.returned (.bool false)) w9;unfold Co.BPost;rw[e];exact⟨rfl,HK9.out,fun h=>by cases h⟩
       go_wp2;go_ret;exact HR.out
      |true=>
       have HL9:Hid (Co.Q3 E L a b deep left m w (Co.Tw a vm vl vt (.slice ap a.p.length cp) (.slice (some ⟨ba,oa,none⟩) a.l.length ck) b um ul ut (.slice bp b.p.length dp) (.slice (some ⟨bb,ob,none⟩) b.l.length dk) G H A0 B0) (j+1) w9):=by
        obtain⟨h1,h2,h3,h4,h5⟩:=HT9.out rfl;exact⟨HTW9.out,HK9.out,r2,r3,h1,h2,h3,Int.le_trans h4 H4.out,h5,H6.out⟩
       go_wp2;go_roundw
       case rel=>exact⟨j+1,by simp,by omega,HL9⟩
       case measure=>simp[intOf];omega
mutual
theorem coBes_any(E:Co.AK)(hE:E.Ok)(L:Nat)(hL:¬E.lb L):∀a:Co.C,Co.BesIs E L a
 | .mk k n s d p l=>coBes_step E hE L hL (.mk k n s d p l) (coBesL_any E hE L hL l)
theorem coBesL_any(E:Co.AK)(hE:E.Ok)(L:Nat)(hL:¬E.lb L):∀(l:List Co.C),∀y∈l,Co.BesIs E L y
 |[],_,h=>absurd h (by simp)
 |c :: r,y,h=>(List.mem_cons.1 h).elim (fun e=>by rw[e];exact coBes_any E hE L hL c) (fun h'=>coBesL_any E hE L hL r y h')
end
end Go.Proofs.YtfjmlfbohenmfaaGreat
