/-
  CoAloneFb, CoWkb, CoGoesLb, CoFreshb, CoKeysb, CoRKindb.
-/
import Derived.Test.YtfjmlfbohenmfaaGreatCoAloneb
import Derived.Test.YtfjmlfbohenmfaaGreatCoreBBM2
import Derived.Test.YtfjmlfbohenmfaaGreatCoreBBM7
import Derived.Deep.CutBlock
import Derived.Deep.QuietTactic
import Derived.BigQuiet
import Derived.Deep.RegionHeld3
import Derived.WalkSpells
import Derived.Test.YtfjmlfbohenmfaaGreatCoreBBM5
set_option maxRecDepth 100000
set_option maxHeartbeats 32000000
namespace Go.Proofs.YtfjmlfbohenmfaaGreat
open Go.RowKit
attribute [local go_sem] Oper.semAt_some
theorem singleNo_any(k n dk dn:Int)(s ds:ByteArray)(vm vl vt vp vk:Value)(w:World)(hk:Co.isKind k=false):
  Calls Tryz.prog 65 #[.agg #[.int .i64 k,.int .i64 n,.string s,.int .i64 dk,.int .i64 dn,.string ds,vm,vl,vt,vp,vk]] w fun e w'=>e= .returned (.bool false)∧Below w.heap.size w w':=by
 have hfm:=fun W=>forms_any k W
 rw[hk]at hfm;have hfv:Co.fmV k= .agg #[.string ⟨#[]⟩,.int .i64 0,.int .i64 0,.int .i64 0]:=by
  have e:Co.fm k=Co.zeroRow:=by
   unfold Co.fm;rw[if_neg (fun h=> ?_)];unfold Co.isKind at hk;rw[decide_eq_true h.1,decide_eq_true h.2]at hk;cases hk
  unfold Co.fmV;rw[e]
  rfl
 rw[hfv]at hfm;obtain⟨w1,hw1⟩:∃w1,w.alloc (.cells #[.int .i64 k,.int .i64 n,.string s,.int .i64 dk,.int .i64 dn,.string ds,vm,vl,vt,vp,vk] 28)=w1:=⟨_,rfl⟩
 obtain⟨hb1,hs1⟩:=new_below hw1;have c0:=(Hp.new hw1).cell 0 rfl;have HB1:=zh hb1;clear hb1 hs1 hk hfv;go_enter Tryz.func65,Tryz.ntmps65;go_wp2_with(first
  |(go_at_call 49;refine(hfm _).mono ?_;rintro e w2 ⟨rfl,hb2⟩;clear hw1 c0;have HB2:=zh ((btr HB1.out hb2));clear hb2 hfm)
  |fail)
 go_ret;exact⟨rfl,HB2.out.alloc HB2.out.size _⟩
namespace Co
theorem len_is(l:List C):l.isEmpty=decide (l.length=0):=by cases l <;> simp
theorem isKind_no{k:Int}(h:isKind k=false)(c:C)(hk:c.k=k):alone c=false:=by
 cases c with
 |mk k' n s d p l=>
  have e:k'=k:=hk;subst e;unfold isKind at h;have h1:¬ (1≤k'∧k'≤10):=fun e=>by rw[decide_eq_true e.1,decide_eq_true e.2]at h;cases h
  unfold alone;dsimp only;rw[if_neg (by omega),if_neg (by omega:¬k'=8),if_neg (by omega:¬k'=2),if_neg (by omega:¬k'=3),if_neg (by omega:¬k'=4),if_neg (by omega:¬ (k'=5∨k'=6)),if_neg (by omega:¬k'=7),if_neg (by omega:¬ (k'=9∨k'=10))];split
  ·rfl
  split <;> rfl
theorem isKind_yes{k:Int}(h:isKind k=true):k=1∨k=2∨k=3∨k=4∨k=5∨k=6∨k=7∨k=8∨k=9∨k=10:=by
 unfold isKind at h;rw[Bool.and_eq_true,decide_eq_true_eq,decide_eq_true_eq]at h;omega
theorem alone1(n:Int)(s:ByteArray)(d:Dt.D)(p:List Int)(l:List C):(decide (l.length=0)&&((n==0)&&(s.toList.isEmpty&&(p.isEmpty&&(const d)))))=alone (.mk 1 n s d p l):=by
 have e1:(n==0)=decide (n=0):=by rw[Bool.eq_iff_iff];simp
 have e2:=empty_list s;have e3:=len_is l;rw[←e2,e1];obtain⟨A,hA⟩:∃A,decide (l.length=0)=A:=⟨_,rfl⟩
 obtain⟨B,hB⟩:∃B,decide (n=0)=B:=⟨_,rfl⟩
 obtain⟨E,hE⟩:∃E,empty s=E:=⟨_,rfl⟩
 rw[hA]at e3;unfold alone;dsimp only;simp only[hA,hB,hE,e3,Int.reduceEq,if_true,if_false,or_self];clear hA hB hE e1 e2 e3;cases A <;> cases B <;> cases E <;> cases p.isEmpty <;> cases const d <;> rfl
theorem alone2(n:Int)(s:ByteArray)(d:Dt.D)(p:List Int)(l:List C):(decide (l.length=0)&&((var n)&&(s.toList.isEmpty&&(p.isEmpty&&(none_ d)))))=alone (.mk 2 n s d p l):=by
 have e1:(n==0)=decide (n=0):=by rw[Bool.eq_iff_iff];simp
 have e2:=empty_list s;have e3:=len_is l;rw[←e2];obtain⟨A,hA⟩:∃A,decide (l.length=0)=A:=⟨_,rfl⟩
 obtain⟨B,hB⟩:∃B,decide (n=0)=B:=⟨_,rfl⟩
 obtain⟨E,hE⟩:∃E,empty s=E:=⟨_,rfl⟩
 rw[hA]at e3;unfold alone;dsimp only;simp only[hA,hB,hE,e3,Int.reduceEq,if_true,if_false,or_self];clear hA hB hE e1 e2 e3;cases A <;> cases B <;> cases E <;> cases p.isEmpty <;> cases none_ d <;> cases var n <;> rfl
theorem alone3(n:Int)(s:ByteArray)(d:Dt.D)(p:List Int)(l:List C):(decide (l.length=0)&&((n==0)&&((Lx.symbol s.data.toList)&&(p.isEmpty&&(none_ d)))))=alone (.mk 3 n s d p l):=by
 have e1:(n==0)=decide (n=0):=by rw[Bool.eq_iff_iff];simp
 have e2:=empty_list s;have e3:=len_is l;rw[e1];obtain⟨A,hA⟩:∃A,decide (l.length=0)=A:=⟨_,rfl⟩
 obtain⟨B,hB⟩:∃B,decide (n=0)=B:=⟨_,rfl⟩
 obtain⟨E,hE⟩:∃E,empty s=E:=⟨_,rfl⟩
 rw[hA]at e3;unfold alone;dsimp only;simp only[hA,hB,hE,e3,Int.reduceEq,if_true,if_false,or_self];clear hA hB hE e1 e2 e3;cases A <;> cases B <;> cases E <;> cases p.isEmpty <;> cases none_ d <;> cases Lx.symbol s.data.toList <;> rfl
theorem alone4(n:Int)(s:ByteArray)(d:Dt.D)(p:List Int)(l:List C):(decide (l.length=1)&&((var n)&&(s.toList.isEmpty&&(p.isEmpty&&(none_ d)))))=alone (.mk 4 n s d p l):=by
 have e1:(n==0)=decide (n=0):=by rw[Bool.eq_iff_iff];simp
 have e2:=empty_list s;have e3:=len_is l;rw[←e2];obtain⟨A,hA⟩:∃A,decide (l.length=1)=A:=⟨_,rfl⟩
 obtain⟨B,hB⟩:∃B,decide (n=0)=B:=⟨_,rfl⟩
 obtain⟨E,hE⟩:∃E,empty s=E:=⟨_,rfl⟩
 unfold alone;dsimp only;simp only[hA,hB,hE,Int.reduceEq,if_true,if_false,or_self];clear hA hB hE e1 e2 e3;cases A <;> cases B <;> cases E <;> cases p.isEmpty <;> cases none_ d <;> cases var n <;> rfl
theorem alone5(n:Int)(s:ByteArray)(d:Dt.D)(p:List Int)(l:List C):(decide (l.length=1)&&((n==0)&&((Lx.symbol s.data.toList)&&(p.isEmpty&&(none_ d)))))=alone (.mk 5 n s d p l):=by
 have e1:(n==0)=decide (n=0):=by rw[Bool.eq_iff_iff];simp
 have e2:=empty_list s;have e3:=len_is l;rw[e1];obtain⟨A,hA⟩:∃A,decide (l.length=1)=A:=⟨_,rfl⟩
 obtain⟨B,hB⟩:∃B,decide (n=0)=B:=⟨_,rfl⟩
 obtain⟨E,hE⟩:∃E,empty s=E:=⟨_,rfl⟩
 unfold alone;dsimp only;simp only[hA,hB,hE,Int.reduceEq,if_true,if_false,or_false,or_self];clear hA hB hE e1 e2 e3;cases A <;> cases B <;> cases E <;> cases p.isEmpty <;> cases none_ d <;> cases Lx.symbol s.data.toList <;> rfl
theorem alone6(n:Int)(s:ByteArray)(d:Dt.D)(p:List Int)(l:List C):(decide (l.length=1)&&((n==0)&&((Lx.symbol s.data.toList)&&(p.isEmpty&&(none_ d)))))=alone (.mk 6 n s d p l):=by
 have e1:(n==0)=decide (n=0):=by rw[Bool.eq_iff_iff];simp
 have e2:=empty_list s;have e3:=len_is l;rw[e1];obtain⟨A,hA⟩:∃A,decide (l.length=1)=A:=⟨_,rfl⟩
 obtain⟨B,hB⟩:∃B,decide (n=0)=B:=⟨_,rfl⟩
 obtain⟨E,hE⟩:∃E,empty s=E:=⟨_,rfl⟩
 unfold alone;dsimp only;simp only[hA,hB,hE,Int.reduceEq,if_true,if_false,or_true,or_self];clear hA hB hE e1 e2 e3;cases A <;> cases B <;> cases E <;> cases p.isEmpty <;> cases none_ d <;> cases Lx.symbol s.data.toList <;> rfl
theorem alone7(n:Int)(s:ByteArray)(d:Dt.D)(p:List Int)(l:List C):(decide (l.length=3)&&((n==0)&&(s.toList.isEmpty&&(p.isEmpty&&(none_ d)))))=alone (.mk 7 n s d p l):=by
 have e1:(n==0)=decide (n=0):=by rw[Bool.eq_iff_iff];simp
 have e2:=empty_list s;have e3:=len_is l;rw[←e2,e1];obtain⟨A,hA⟩:∃A,decide (l.length=3)=A:=⟨_,rfl⟩
 obtain⟨B,hB⟩:∃B,decide (n=0)=B:=⟨_,rfl⟩
 obtain⟨E,hE⟩:∃E,empty s=E:=⟨_,rfl⟩
 unfold alone;dsimp only;simp only[hA,hB,hE,Int.reduceEq,if_true,if_false,or_self];clear hA hB hE e1 e2 e3;cases A <;> cases B <;> cases E <;> cases p.isEmpty <;> cases none_ d <;> rfl
theorem alone8(n:Int)(s:ByteArray)(d:Dt.D)(p:List Int)(l:List C):(decide (l.length=1)&&(s.toList.isEmpty&&((none_ d)&&(params n p))))=alone (.mk 8 n s d p l):=by
 have e1:(n==0)=decide (n=0):=by rw[Bool.eq_iff_iff];simp
 have e2:=empty_list s;have e3:=len_is l;rw[←e2];obtain⟨A,hA⟩:∃A,decide (l.length=1)=A:=⟨_,rfl⟩
 obtain⟨B,hB⟩:∃B,decide (n=0)=B:=⟨_,rfl⟩
 obtain⟨E,hE⟩:∃E,empty s=E:=⟨_,rfl⟩
 unfold alone;dsimp only;simp only[hA,hB,hE,Int.reduceEq,if_true,if_false,or_self];clear hA hB hE e1 e2 e3;cases A <;> cases B <;> cases E <;> cases p.isEmpty <;> cases none_ d <;> cases params n p <;> rfl
theorem alone9(n:Int)(s:ByteArray)(d:Dt.D)(p:List Int)(l:List C):(decide (1≤l.length)&&((n==0)&&(s.toList.isEmpty&&(p.isEmpty&&(none_ d)))))=alone (.mk 9 n s d p l):=by
 have e1:(n==0)=decide (n=0):=by rw[Bool.eq_iff_iff];simp
 have e2:=empty_list s;have e3:=len_is l;rw[←e2,e1];obtain⟨A,hA⟩:∃A,decide (1≤l.length)=A:=⟨_,rfl⟩
 obtain⟨B,hB⟩:∃B,decide (n=0)=B:=⟨_,rfl⟩
 obtain⟨E,hE⟩:∃E,empty s=E:=⟨_,rfl⟩
 have hA2:decide (0<l.length)=A:=hA;unfold alone;dsimp only;simp only[hA,hB,hE,hA2,Int.reduceEq,if_true,if_false,or_false,or_self];clear hA hB hE e1 e2 e3;cases A <;> cases B <;> cases E <;> cases p.isEmpty <;> cases none_ d <;> rfl
theorem alone10(n:Int)(s:ByteArray)(d:Dt.D)(p:List Int)(l:List C):(decide (1≤l.length)&&((n==0)&&(s.toList.isEmpty&&(p.isEmpty&&(none_ d)))))=alone (.mk 10 n s d p l):=by
 have e1:(n==0)=decide (n=0):=by rw[Bool.eq_iff_iff];simp
 have e2:=empty_list s;have e3:=len_is l;rw[←e2,e1];obtain⟨A,hA⟩:∃A,decide (1≤l.length)=A:=⟨_,rfl⟩
 obtain⟨B,hB⟩:∃B,decide (n=0)=B:=⟨_,rfl⟩
 obtain⟨E,hE⟩:∃E,empty s=E:=⟨_,rfl⟩
 have hA2:decide (0<l.length)=A:=hA;unfold alone;dsimp only;simp only[hA,hB,hE,hA2,Int.reduceEq,if_true,if_false,or_true,or_self];clear hA hB hE e1 e2 e3;cases A <;> cases B <;> cases E <;> cases p.isEmpty <;> cases none_ d <;> rfl
end Co
theorem singleC_any{F:Nat→Prop}(c:Co.C)(vm vl vt vp vk:Value)(w:World)(hW:Co.Wf c)(h:Co.Rep F w c vm vl vt vp vk):
  Calls Tryz.prog 65 #[Co.V c vm vl vt vp vk] w fun e w'=>e= .returned (.bool (Co.alone c))∧Below w.heap.size w w':=by
 cases c with
 |mk k n s d p l=>
  obtain⟨h1,h2,⟨al,cl,rfl,hlc,-⟩⟩:=(Co.rep_iff _ _ _ _ _ _ _ _).1 h;rw[Co.Wf]at hW;obtain⟨-,hs,hWd,hp,-,hl,-⟩:=hW;show Calls _ _ #[.agg #[.int .i64 k,.int .i64 n,.string s,.int .i64 d.k,.int .i64 d.n,.string d.s,vm,vl,vt,vp,.slice al l.length cl]] _ _;cases hk:Co.isKind k
  ·rw[Co.isKind_no hk (.mk k n s d p l) rfl];exact singleNo_any k n _ _ s _ _ _ _ _ _ w hk
  ·rcases Co.isKind_yes hk with rfl|rfl|rfl|rfl|rfl|rfl|rfl|rfl|rfl|rfl
   ·rw[←Co.alone1];exact single1_any n s d p l.length al cl _ _ _ _ w hs hl hp hWd h1 h2
   ·rw[←Co.alone2];exact single2_any n s d p l.length al cl _ _ _ _ w hs hl hp hWd h1 h2
   ·rw[←Co.alone3];exact single3_any n s d p l.length al cl _ _ _ _ w hs hl hp hWd h1 h2
   ·rw[←Co.alone4];exact single4_any n s d p l.length al cl _ _ _ _ w hs hl hp hWd h1 h2
   ·rw[←Co.alone5];exact single5_any n s d p l.length al cl _ _ _ _ w hs hl hp hWd h1 h2
   ·rw[←Co.alone6];exact single6_any n s d p l.length al cl _ _ _ _ w hs hl hp hWd h1 h2
   ·rw[←Co.alone7];exact single7_any n s d p l.length al cl _ _ _ _ w hs hl hp hWd h1 h2
   ·rw[←Co.alone8];exact single8_any n s d p l.length al cl _ _ _ _ w hs hl hp hWd h1 h2
   ·rw[←Co.alone9];exact single9_any n s d p l.length al cl _ _ _ _ w hs hl hp hWd h1 h2
   ·rw[←Co.alone10];exact single10_any n s d p l.length al cl _ _ _ _ w hs hl hp hWd h1 h2
end Go.Proofs.YtfjmlfbohenmfaaGreat
namespace Go.Proofs.YtfjmlfbohenmfaaGreat
open Go.RowKit Go.Maps Go.WideMaps
attribute [local go_sem] Oper.semAt_some
namespace Co
theorem zeroB(w:World):(zeroValue 4).run Tryz.prog w= .ok (.bool false) w:=by kernel_rfl
def rdB:Value→Option (DataW Unit×List MemPlace)
 | .bool b=>some (.lit (.bool b),[])
 |_=>none
def mIB:Vm.MK Tryz.prog Int Bool where
 mt:=79
 kt:=3
 et:=4
 under:=Tryz.underlying79
 keyed:=int_keyed Tryz.underlying3
 kv:=fun x=> .int .i64 x
 kl:=fun x=> .int .i64 x
 okK:=fun x=> -9223372036854775808≤x∧x≤9223372036854775807
 keyOf_:=fun k h=>keyOf_int_mk Tryz.underlying3 (by show(decide (IntKind.i64.min≤k)&&decide (k≤IntKind.i64.max))=true;rw[show IntKind.i64.min= -9223372036854775808 by decide,show IntKind.i64.max=9223372036854775807 by decide,decide_eq_true h.1,decide_eq_true h.2];rfl)
 kl_inj:=fun a b h=>by cases h;rfl
 isKey:=fun _=>trivial
 ev:=fun b=> .bool b
 ed:=fun b=> .lit (.bool b)
 ed_inj:=fun a b h=>by cases h;rfl
 z:=false
 zero:=zeroB
 rd:=rdB
 rd_ev:=fun _=>rfl
 rd_inv:=fun x q h=>by
  unfold rdB at h;split at h
  ·rename_i b;cases h;exact⟨b,rfl,rfl⟩
  ·cases h
def on(q:Int→Bool):Int→Option Bool:=fun x=>if q x then some true else none
theorem on_upd(q:Int→Bool)(s:Int):Vm.upd (on q) s true=on fun x=>q x||decide (x=s):=by
 funext x
 unfold Vm.upd on;dsimp only;by_cases h:x=s
 ·rw[if_pos h,if_pos (by simp[h])]
 ·rw[if_neg h];by_cases hq:q x=true <;> simp[h,hq]
theorem on_cut(q:Int→Bool)(s:Int):Vm.cut (on q) s=on fun x=>q x&& !decide (x=s):=by
 funext x
 unfold Vm.cut on;dsimp only;by_cases h:x=s
 ·rw[if_pos h,if_neg (by simp[h])]
 ·rw[if_neg h];by_cases hq:q x=true <;> simp[h,hq]
theorem on_get(q:Int→Bool)(s:Int):(on q s).getD false=q s:=by
 unfold on;cases q s <;> rfl
def Set_(w:World)(b n:Nat)(q:Int→Bool):Prop:=Vm.Mp mIB w b n (on q)
theorem Set_.keep{S:Nat→Prop}{w w':World}{b n:Nat}{q:Int→Bool}(h:Set_ w b n q)(hk:Keep S w w')(hn:¬S b):Set_ w' b n q:=Vm.Mp.keep h hk hn
theorem Set_.below{w w':World}{b n:Nat}{q:Int→Bool}(h:Set_ w b n q)(hb:Below w.heap.size w w'):Set_ w' b n q:=Vm.Mp.below h hb
theorem Set_.lt{w:World}{b n:Nat}{q:Int→Bool}(h:Set_ w b n q):b<w.heap.size:=Vm.Mp.lt h
theorem Set_.mono{w:World}{b n m:Nat}{q:Int→Bool}(h:Set_ w b n q)(hm:n≤m):Set_ w b m q:=Vm.Mp.mono h hm
theorem Set_.ext{w:World}{b n:Nat}{q q':Int→Bool}(h:Set_ w b n q)(e:∀x,q x=q' x):Set_ w b n q':=by rw[show q'=q from funext fun x=>(e x).symm];exact h
theorem Set_.made(w:World):Set_ (w.alloc (.map #[] 0)) w.heap.size 0 fun _=>false:=Vm.Mp.made mIB w
theorem Set_.has{w:World}{b n:Nat}{q:Int→Bool}(h:Set_ w b n q){s:Int}(h0: -9223372036854775808≤s)(h1:s≤9223372036854775807):
  (Instr.lookup 79 (.map (some b)) (.int .i64 s) false).run Tryz.prog w= .ok (.bool (q s)) w:=by
 have:=Vm.Mp.look1 h (s:=s) ⟨h0,h1⟩;rw[show((on q s).getD mIB.z)=q s from on_get q s]at this;exact this
theorem Set_.put{w:World}{b n:Nat}{q:Int→Bool}(h:Set_ w b n q)(hn:n<maxLen){s:Int}(h0: -9223372036854775808≤s)(h1:s≤9223372036854775807):
  ∃w',(Instr.mapUpdate 79 (.map (some b)) (.int .i64 s) (.bool true)).run Tryz.prog w= .ok () w'∧Set_ w' b (n+1) (fun x=>q x||decide (x=s))∧Keep (fun k=>k=b) w w':=by
 obtain⟨w',h2,h3,h4⟩:=Vm.Mp.set h hn (s:=s) ⟨h0,h1⟩ true;rw[on_upd]at h3;exact⟨w',h2,h3,h4⟩
def Waits(w1:World)(b n:Nat)(q:Int→Bool)(s:Int)(st:Value):Prop:=
 ∀w2:World,w2.heap[b]?=w1.heap[b]?→∃w3,(Instr.entryStore 79 (.map (some b)) st (.bool true)).run Tryz.prog w2= .ok () w3∧Set_ w3 b (n+1) (fun x=>q x||decide (x=s))∧Keep (fun k=>k=b) w2 w3
theorem Set_.entry{w:World}{b n:Nat}{q:Int→Bool}(h:Set_ w b n q)(hn:n<maxLen){s:Int}(h0: -9223372036854775808≤s)(h1:s≤9223372036854775807):
  ∃v0 st w1,(Instr.mapEntry 79 (.map (some b)) (.int .i64 s)).run Tryz.prog w= .ok (.tuple #[v0,st]) w1∧Keep (fun k=>k=b) w w1∧Waits w1 b n q s st:=by
 obtain⟨v0,st,w1,h2,h3,h4⟩:=Vm.Mp.entry h hn (s:=s) ⟨h0,h1⟩;refine⟨v0,st,w1,h2,h3,fun w2 he=> ?_⟩;obtain⟨w3,h5,h6,h7⟩:=h4 w2 true he;rw[on_upd]at h6;exact⟨w3,h5,h6,h7⟩
theorem Set_.del{w:World}{b n:Nat}{q:Int→Bool}(h:Set_ w b n q){s:Int}(h0: -9223372036854775808≤s)(h1:s≤9223372036854775807)(ty:TypeId):
  ∃w',(Builtin.delete_ #[79,3] ty #[.map (some b),.int .i64 s]).run Tryz.prog w= .ok (.tuple #[]) w'∧Set_ w' b n (fun x=>q x&& !decide (x=s))∧Keep (fun k=>k=b) w w':=by
 obtain⟨w',h2,h3,h4⟩:=Vm.Mp.del h (s:=s) ⟨h0,h1⟩ ty;rw[on_cut]at h3;exact⟨w',h2,h3,h4⟩
structure WE where
 X:Nat
 ms:Nat
 mb:Nat
 mf:Option Nat
 see:Value
 lb:Nat→Prop
 J:List C→World→Prop
 Jx:List C→World→Prop
 tot:List C
 lim:Nat
 dy:World→Nat→Prop
def WE.own(E:WE)(k:Nat):Prop:=k=E.X∨k=E.ms∨k=E.mb∨E.mf=some k
def WE.ch(E:WE)(k:Nat):Prop:=E.own k∨E.lb k
structure KD(E:WE)(w w':World):Prop where
 sz:w.heap.size≤w'.heap.size
 bl:∀k,k<w.heap.size→¬E.own k→¬E.dy w k→w'.heap[k]?=w.heap[k]?
 dn:∀k,E.dy w' k→E.dy w k∨w.heap.size≤k
theorem KD.trans{E:WE}{a b c:World}(h:KD E a b)(k:KD E b c):KD E a c:=
 ⟨Nat.le_trans h.sz k.sz,fun i hi ho hd=>(k.bl i (Nat.lt_of_lt_of_le hi h.sz) ho (fun e=>(h.dn i e).elim hd (fun e=>by omega))).trans (h.bl i hi ho hd),fun i hi=>(k.dn i hi).elim (h.dn i) (fun e=> .inr (Nat.le_trans h.sz e))⟩
structure Wk(E:WE)(w:World)(cnt:Nat)(dn:Bool)(sc bd fr:Int→Bool)(n:Nat):Prop where
 hp:Hp w E.X #[.int .i64 (cnt:Int),.map (some E.ms),.map (some E.mb),.map E.mf,E.see,.bool dn] 81
 hs:Set_ w E.ms n sc
 hb:Set_ w E.mb n bd
 hf:∀b,E.mf=some b→Set_ w b n fr
 hl:E.lim≤w.heap.size
theorem Wk.keep{E:WE}{S:Nat→Prop}{w w':World}{cnt n:Nat}{dn:Bool}{sc bd fr:Int→Bool}(h:Wk E w cnt dn sc bd fr n)(hk:Keep S w w')(hS:∀k,E.own k→¬S k):Wk E w' cnt dn sc bd fr n:=
 ⟨h.hp.keep hk (hS _ (.inl rfl)),h.hs.keep hk (hS _ (.inr (.inl rfl))),h.hb.keep hk (hS _ (.inr (.inr (.inl rfl)))),fun b hb=>(h.hf b hb).keep hk (hS _ (.inr (.inr (.inr hb)))),Nat.le_trans h.hl hk.size⟩
theorem Wk.below{E:WE}{w w':World}{cnt n:Nat}{dn:Bool}{sc bd fr:Int→Bool}(h:Wk E w cnt dn sc bd fr n)(hb:Below w.heap.size w w'):Wk E w' cnt dn sc bd fr n:=
 h.keep (S:=fun _=>False) (keep_of_below hb) (fun _ _ h=>h)
theorem Wk.own_lt{E:WE}{w:World}{cnt n:Nat}{dn:Bool}{sc bd fr:Int→Bool}(h:Wk E w cnt dn sc bd fr n){k:Nat}(hk:E.own k):k<w.heap.size:=by
 rcases hk with rfl|rfl|rfl|hk
 ·exact h.hp.lt
 ·exact h.hs.lt
 ·exact h.hb.lt
 ·exact(h.hf k hk).lt
def Told(E:WE)(pre:List C)(x:C)(W:World)(e:Ending)(W':World):Prop:=
 (e= .returned (.bool true)∧E.J (pre++[x]) W'∧Keep E.lb W W'∧KD E W W')∨(e= .returned (.bool false)∧E.Jx (pre++[x]) W'∧Keep E.lb W W'∧KD E W W')
structure WE.Ok(E:WE):Prop where
 sb:E.ms≠E.mb
 sf:E.mf≠some E.ms
 bf:E.mf≠some E.mb
 xs:E.X≠E.ms
 xb:E.X≠E.mb
 xf:E.mf≠some E.X
 lo:∀k,E.own k→¬E.lb k
 dyl:∀s W k,E.J s W→E.lim≤W.heap.size→E.dy W k→k<W.heap.size
 dst:∀A B k,E.lim≤A.heap.size→Keep E.own A B→E.dy B k→E.dy A k
 jst:∀s A B,E.J s A→Keep E.own A B→E.J s B
 jxst:∀s A B,E.Jx s A→Keep E.own A B→E.Jx s B
 told:(E.see= .nilFunc∧∀pre x W,E.J pre W→E.J (pre++[x]) W)∨(∃f cap,E.see= .func (.func f) #[] cap∧(∀args w,(callFunc f args).run Tryz.prog w= .ok (.enter f args) w)∧∀(G:Nat→Prop) (pre:List C) (x:C) (vm vl vt vp vk:Value) (W:World),E.J pre W→pre++[x]<+:E.tot→Wf x→Rep G W x vm vl vt vp vk→(∀k,G k→¬E.ch k)→Calls Tryz.prog f (#[V x vm vl vt vp vk]++cap) W (Told E pre x W))
theorem KD.own{E:WE}(hE:E.Ok){a b:World}(hl:E.lim≤a.heap.size)(h:Keep E.own a b):KD E a b:=⟨h.size,fun k hk ho _=>h.block k hk ho,fun k hk=> .inl (hE.dst a b k hl h hk)⟩
structure KE(E:WE)(w w':World):Prop where
 kp:Keep E.ch w w'
 kd:KD E w w'
theorem KE.trans{E:WE}{a b c:World}(h:KE E a b)(k:KE E b c):KE E a c:=⟨h.kp.trans k.kp,h.kd.trans k.kd⟩
theorem KE.own{E:WE}(hE:E.Ok){a b:World}(hl:E.lim≤a.heap.size)(h:Keep E.own a b):KE E a b:=⟨h.le fun _ e=> .inl e,KD.own hE hl h⟩
theorem KE.of_below{E:WE}(hE:E.Ok){a b:World}(hl:E.lim≤a.heap.size)(h:Below a.heap.size a b):KE E a b:=KE.own hE hl (keep_of_below h)
def GPost(E:WE)(c:C)(deep:Nat)(win:List Int)(top:Bool)(cnt:Nat)(bdl:List Int)(sc fr:Int→Bool)(seen:List C)(w:World)(e:Ending)(w':World):Prop:=
 ∃(r:Int) (cnt':Nat) (dn':Bool) (sc' bd' fr':Int→Bool) (n':Nat),e= .returned (.int .i64 r)∧Wk E w' cnt' dn' sc' bd' fr' n'∧KE E w w'∧(r=0→n'≤1048576+64*cnt')∧cnt'≤8192∧
  ((dn' = false ∧ r = (goes E.mf.isSome c deep win top cnt bdl).1 ∧ (r = 0 → cnt' = (goes E.mf.isSome c deep win top cnt bdl).2.1 ∧ (∀ x, bd' x = (goes E.mf.isSome c deep win top cnt bdl).2.2.contains x) ∧ (∀ x, sc' x = sc x) ∧ (∀ x, fr' x = (fr x || (frees c win).contains x)) ∧ E.J (seen ++ parts c) w')) ∨
   (dn'=true∧r=0∧∃pre,pre<+:seen++parts c∧E.Jx pre w'))
def GoesIs(E:WE)(c:C):Prop:=
 ∀(G:Nat→Prop) (vm vl vt vp vk:Value) (w:World) (deep:Nat) (win:List Int) (top:Bool) (cnt:Nat) (bdl:List Int) (sc bd fr:Int→Bool) (n:Nat) (seen:List C),
  Wf c→Rep G w c vm vl vt vp vk→(∀k,G k→¬E.ch k)→deep≤4611686018427387904→Wk E w cnt false sc bd fr n→n≤1048576+64*cnt→cnt≤8192→(∀x,sc x=win.contains x)→(∀x,bd x=bdl.contains x)→(∀x∈win,x∈bdl)→E.J seen w→seen++parts c<+:E.tot→
  Calls Tryz.prog 36 #[.pointer (some ⟨E.X,0,none⟩),V c vm vl vt vp vk,.int .i64 (deep:Int),.bool top] w (GPost E c deep win top cnt bdl sc fr seen w)
def Bc(w:World)(B:Nat)(c:C)(vm vl vt vp vk:Value):Prop:=Hp w B #[.int .i64 c.k,.int .i64 c.n,.string c.s,.int .i64 c.d.k,.int .i64 c.d.n,.string c.d.s,vm,vl,vt,vp,vk] 28
theorem Bc.keep{S:Nat→Prop}{w w':World}{B:Nat}{c:C}{vm vl vt vp vk:Value}(h:Bc w B c vm vl vt vp vk)(hk:Keep S w w')(hn:¬S B):Bc w' B c vm vl vt vp vk:=Hp.keep h hk hn
structure BcE(E:WE)(w:World)(B:Nat)(c:C)(vm vl vt vp vk:Value):Prop where
 bc:Bc w B c vm vl vt vp vk
 no:¬E.own B
 nd:¬E.dy w B
theorem BcE.new{E:WE}(hE:E.Ok){w w1:World}{cnt n:Nat}{dn:Bool}{sc bd fr:Int→Bool}{seen:List C}{c:C}{vm vl vt vp vk:Value}(h:w.alloc (.cells #[.int .i64 c.k,.int .i64 c.n,.string c.s,.int .i64 c.d.k,.int .i64 c.d.n,.string c.d.s,vm,vl,vt,vp,vk] 28)=w1)(hw:Wk E w cnt dn sc bd fr n)(hJ:E.J seen w):BcE E w1 w.heap.size c vm vl vt vp vk:=
 ⟨Hp.new h,fun e=>Nat.lt_irrefl _ (hw.own_lt e),fun e=>Nat.lt_irrefl _ (hE.dyl _ _ _ hJ hw.hl (hE.dst _ _ _ hw.hl (keep_of_below (new_below h).1) e))⟩
theorem BcE.kd{E:WE}{w w':World}{B:Nat}{c:C}{vm vl vt vp vk:Value}(h:BcE E w B c vm vl vt vp vk)(hk:KD E w w'):BcE E w' B c vm vl vt vp vk:=
 ⟨(hk.bl B h.bc.lt h.no h.nd).trans h.bc,h.no,fun e=>(hk.dn B e).elim h.nd (fun e=>by have:=Hp.lt h.bc;omega)⟩
theorem BcE.ke{E:WE}{w w':World}{B:Nat}{c:C}{vm vl vt vp vk:Value}(h:BcE E w B c vm vl vt vp vk)(hk:KE E w w'):BcE E w' B c vm vl vt vp vk:=h.kd hk.kd
theorem BcE.own{E:WE}(hE:E.Ok){w w':World}{B:Nat}{c:C}{vm vl vt vp vk:Value}(h:BcE E w B c vm vl vt vp vk)(hl:E.lim≤w.heap.size)(hk:Keep E.own w w'):BcE E w' B c vm vl vt vp vk:=h.kd (KD.own hE hl hk)
theorem BcE.below{E:WE}(hE:E.Ok){w w':World}{B:Nat}{c:C}{vm vl vt vp vk:Value}(h:BcE E w B c vm vl vt vp vk)(hl:E.lim≤w.heap.size)(hb:Below w.heap.size w w'):BcE E w' B c vm vl vt vp vk:=h.own hE hl (keep_of_below hb)
theorem BcE.cell{E:WE}{w:World}{B:Nat}{c:C}{vm vl vt vp vk:Value}(h:BcE E w B c vm vl vt vp vk)(i:Nat){v:Value}(hv:(#[.int .i64 c.k,.int .i64 c.n,.string c.s,.int .i64 c.d.k,.int .i64 c.d.n,.string c.d.s,vm,vl,vt,vp,vk]:Array Value)[i]?=some v):w.cell? ⟨B,i,none⟩=some v:=Hp.cell h.bc i hv
theorem here_deep{opn:Bool}{c:C}{deep:Nat}{win:List Int}{top:Bool}{cnt:Nat}{bd:List Int}(h:128<deep):here opn c deep win top cnt bd=4:=by unfold here;rw[if_pos h]
theorem here_long{opn:Bool}{c:C}{deep:Nat}{win:List Int}{top:Bool}{cnt:Nat}{bd:List Int}(h:¬128<deep)(h2:8192≤cnt):here opn c deep win top cnt bd=3:=by unfold here;rw[if_neg h,if_pos h2]
theorem here_alone{opn:Bool}{c:C}{deep:Nat}{win:List Int}{top:Bool}{cnt:Nat}{bd:List Int}(h:¬128<deep)(h2:¬8192≤cnt)(h3:alone c=false∨(c.k=6∧top=false)):here opn c deep win top cnt bd=70:=by unfold here;rw[if_neg h,if_neg h2,if_pos h3]
theorem here_free{opn:Bool}{c:C}{deep:Nat}{win:List Int}{top:Bool}{cnt:Nat}{bd:List Int}(h:¬128<deep)(h2:¬8192≤cnt)(h3:¬ (alone c=false∨(c.k=6∧top=false)))(h4:(c.k=2∨c.k=4)∧opn=false∧win.contains c.n=false):here opn c deep win top cnt bd=70:=by unfold here;rw[if_neg h,if_neg h2,if_neg h3,if_pos h4]
theorem here_last{opn:Bool}{c:C}{deep:Nat}{win:List Int}{top:Bool}{cnt:Nat}{bd:List Int}(h:¬128<deep)(h2:¬8192≤cnt)(h3:¬ (alone c=false∨(c.k=6∧top=false)))(h4:¬ ((c.k=2∨c.k=4)∧opn=false∧win.contains c.n=false)):here opn c deep win top cnt bd=if c.p.any bd.contains then 70 else 0:=by unfold here;rw[if_neg h,if_neg h2,if_neg h3,if_neg h4]
theorem goes_fault{opn:Bool}{c:C}{deep:Nat}{win:List Int}{top:Bool}{cnt:Nat}{bd:List Int}(h:here opn c deep win top cnt bd≠0):(goes opn c deep win top cnt bd).1=here opn c deep win top cnt bd:=by
 cases c with
 |mk k n s d p l=>rw[goes,if_pos h]
theorem goes_fine{opn:Bool}{c:C}{deep:Nat}{win:List Int}{top:Bool}{cnt:Nat}{bd:List Int}(h:here opn c deep win top cnt bd=0):goes opn c deep win top cnt bd=goesL opn c.l (deep+1) (inner c.k c.p win) (top&&decide (c.k=9)) (cnt+1) (bd++c.p):=by
 cases c with
 |mk k n s d p l=>rw[goes,if_neg (by rw[h];simp)];rfl
theorem alone_p32{c:C}(h:alone c=true):c.p.length≤32:=by
 rcases alone_p h with e|⟨e,-⟩
 ·rw[e];simp
 ·cases c with
  |mk k n s d p l=>
   have e':k=8:=e;subst e';unfold alone at h;dsimp only at h;rw[if_neg (by decide)]at h;split at h
   ·cases h
   rw[if_pos rfl,Bool.and_eq_true]at h;have h2:=h.2;unfold params at h2;rw[Bool.and_eq_true,Bool.and_eq_true,Bool.and_eq_true]at h2;exact of_decide_eq_true h2.1.1.1
end Co
theorem coGoes_done(E:Co.WE)(c:Co.C)(vm vl vt vp vk:Value)(w:World)(deep:Nat)(top:Bool)(cnt n:Nat)(sc bd fr:Int→Bool)(hw:Co.Wk E w cnt true sc bd fr n):
  Calls Tryz.prog 36 #[.pointer (some ⟨E.X,0,none⟩),Co.V c vm vl vt vp vk,.int .i64 (deep:Int),.bool top] w fun e w'=>e= .returned (.int .i64 0)∧Below w.heap.size w w':=by
 unfold Co.V;obtain⟨w1,hw1⟩:∃w1,w.alloc (.cells #[.int .i64 c.k,.int .i64 c.n,.string c.s,.int .i64 c.d.k,.int .i64 c.d.n,.string c.d.s,vm,vl,vt,vp,vk] 28)=w1:=⟨_,rfl⟩
 obtain⟨hb1,-⟩:=new_below hw1;have x5:=(hw.hp.below hb1).cell 5 rfl;have HB:=zh hb1;clear hb1 hw;go_enter Tryz.func36,Tryz.ntmps36;go_wp2;go_ret;exact⟨rfl,HB.out⟩
namespace Co
def Mid1(E:WE)(c:C)(vm vl vt vp vk:Value)(G:Nat→Prop)(C0:Nat)(w:World)(cnt:Nat)(win:List Int)(sc bd fr:Int→Bool)(seen:List C)(wx:World):Prop:=
 ∃fr' n',Wk E wx cnt false sc bd fr' n'∧BcE E wx C0 c vm vl vt vp vk∧Rep G wx c vm vl vt vp vk∧KE E w wx∧n'≤1048576+64*cnt+1∧(∀x,fr' x=(fr x||(if(c.k=2∨c.k=4)∧win.contains c.n=false then [c.n]else []).contains x))∧¬ ((c.k=2∨c.k=4)∧E.mf.isSome=false∧win.contains c.n=false)∧E.J seen wx
theorem eqlIn_see(d:Nat)(f:Fn)(ts lb:Array Value)(w:World):(Op.equalIn (d+1) 75 (.func f ts lb) .nilFunc).run Tryz.prog w= .ok false w:=by
 simp[Op.equalIn,run_underlying Tryz.underlying75]
theorem eqlIn_see0(d:Nat)(w:World):(Op.equalIn (d+1) 75 .nilFunc .nilFunc).run Tryz.prog w= .ok true w:=by
 simp[Op.equalIn,run_underlying Tryz.underlying75]
theorem neq_see(f:Fn)(ts lb:Array Value)(w:World):(binOp .neq 75 (.func f ts lb) .nilFunc).run Tryz.prog w= .ok (.bool true) w:=by
 simp only[binOp];simp[Op.equal,Op.maxDepth,eqlIn_see 9999 f ts lb w]
theorem neq_see0(w:World):(binOp .neq 75 .nilFunc .nilFunc).run Tryz.prog w= .ok (.bool false) w:=by
 simp only[binOp];simp[Op.equal,Op.maxDepth,eqlIn_see0 9999 w]
theorem Told.b{E:WE}{pre:List C}{x:C}{W W':World}{e:Ending}(h:Told E pre x W e W'):∃b:Bool,e= .returned (.bool b)∧(b=true→E.J (pre++[x]) W')∧(b=false→E.Jx (pre++[x]) W')∧Keep E.lb W W'∧KD E W W':=by
 rcases h with⟨h1,h2,h3⟩|⟨h1,h2,h3⟩
 ·exact⟨true,h1,fun _=>h2,fun e=>(by cases e),h3⟩
 ·exact⟨false,h1,fun e=>(by cases e),fun _=>h2,h3⟩
def Mid3(E:WE)(c:C)(vm vl vt vp vk:Value)(G:Nat→Prop)(C0:Nat)(w:World)(cnt:Nat)(sc bd fr1:Int→Bool)(n1:Nat)(seen:List C)(wx:World):Prop:=
 ∃n' dn,Wk E wx (cnt+1) dn (fun x=>sc x||c.p.contains x) (fun x=>bd x||c.p.contains x) fr1 n'∧BcE E wx C0 c vm vl vt vp vk∧Rep G wx c vm vl vt vp vk∧KE E w wx∧n'≤n1+32∧((dn=false∧E.J (seen++[c]) wx)∨(dn=true∧E.Jx (seen++[c]) wx))
def L1(E:WE)(c:C)(vm vl vt vp vk:Value)(G:Nat→Prop)(C0:Nat)(w:World)(cnt:Nat)(bdl:List Int)(sc bd fr1:Int→Bool)(n1:Nat)(seen:List C)(j:Nat)(wx:World):Prop:=
 ∃n',Wk E wx cnt false (fun x=>sc x||(c.p.take j).contains x) (fun x=>bd x||(c.p.take j).contains x) fr1 n'∧BcE E wx C0 c vm vl vt vp vk∧Rep G wx c vm vl vt vp vk∧KE E w wx∧n'≤n1+j∧E.J seen wx∧(c.p.take j).any bdl.contains=false
theorem contains_take{l:List Int}{j:Nat}(hj:j<l.length)(x:Int):(l.take (j+1)).contains x=((l.take j).contains x||decide (x=l[j])):=by
 rw[List.take_succ_eq_append_getElem hj,Bool.eq_iff_iff,Bool.or_eq_true,List.contains_iff_mem,List.contains_iff_mem,List.mem_append,List.mem_singleton,decide_eq_true_eq]
theorem not_before{l:List Int}(h:l.Nodup){j:Nat}(hj:j<l.length):(l.take j).contains l[j]=false:=by
 rw[Bool.eq_false_iff];intro h2;have h3:=List.contains_iff_mem.1 h2;obtain⟨i,hi,e⟩:=List.mem_take_iff_getElem.1 h3;exact List.pairwise_iff_getElem.1 h i j (by omega) hj (by omega) e
theorem GPost.fault{E:WE}{c:C}{deep:Nat}{win:List Int}{top:Bool}{cnt:Nat}{bdl:List Int}{sc fr:Int→Bool}{seen:List C}{w wx:World}{cnt':Nat}{sc' bd' fr':Int→Bool}{n':Nat}{r:Int}
  (hr:(goes E.mf.isSome c deep win top cnt bdl).1=r) (h0:r≠0) (hw:Wk E wx cnt' false sc' bd' fr' n') (hk:KE E w wx) (hc:cnt'≤8192):GPost E c deep win top cnt bdl sc fr seen w (.returned (.int .i64 r)) wx:=
 ⟨r,cnt',false,sc',bd',fr',n',rfl,hw,hk,fun h=>absurd h h0,hc,.inl ⟨rfl,hr.symm,fun h=>absurd h h0⟩⟩
theorem drew_below(w:World):Below w.heap.size w w.drew:=⟨rfl,rfl,rfl,Nat.le_refl _,fun _ _=>rfl⟩
theorem lows{E:WE}(hE:E.Ok){w wx:World}(hl:E.lim≤w.heap.size)(h:Below w.heap.size w wx):KE E w wx:=KE.of_below hE hl h
theorem wf_parts{c:C}(h:Wf c):(-9223372036854775808≤c.n∧c.n≤9223372036854775807)∧c.s.size≤140737488355328∧Dt.Wf c.d∧c.p.length≤140737488355328∧(∀x∈c.p,-9223372036854775808≤x∧x≤9223372036854775807)∧c.l.length≤140737488355328∧Wfs c.l:=by
 cases c;rw[Wf]at h;exact h
theorem partsL_app:∀(a b:List C),partsL (a++b)=partsL a++partsL b
 |[],b=>by rw[partsL];rfl
 |x :: a,b=>by rw[List.cons_append,partsL,partsL,partsL_app a b,List.append_assoc]
theorem freesL_app(win:List Int):∀(a b:List C),freesL (a++b) win=freesL a win++freesL b win
 |[],b=>by rw[freesL];rfl
 |x :: a,b=>by rw[List.cons_append,freesL,freesL,freesL_app win a b,List.append_assoc]
theorem partsL_snoc{l:List C}{j:Nat}(h:j<l.length):partsL (l.take (j+1))=partsL (l.take j)++parts l[j]:=by
 rw[List.take_succ_eq_append_getElem h,partsL_app,partsL,partsL,List.append_nil]
theorem freesL_snoc(win:List Int){l:List C}{j:Nat}(h:j<l.length):freesL (l.take (j+1)) win=freesL (l.take j) win++frees l[j] win:=by
 rw[List.take_succ_eq_append_getElem h,freesL_app,freesL,freesL,List.append_nil]
theorem partsL_pre(l:List C)(j:Nat):partsL (l.take j)<+:partsL l:=by
 conv=>rhs;rw[←List.take_append_drop j l,partsL_app]
 exact List.prefix_append _ _
theorem parts_cons(c:C):parts c=c :: partsL c.l:=by cases c;rw[parts];rfl
def L2(E:WE)(c:C)(vm vl vt vp vk:Value)(G:Nat→Prop)(C0:Nat)(w:World)(deep:Nat)(win':List Int)(T:Bool)(RL:Int×Nat×List Int)(fr1:Int→Bool)(seen:List C)(j:Nat)(wx:World):Prop:=
 ∃cnt' dn sc' bd' fr' n',Wk E wx cnt' dn sc' bd' fr' n'∧BcE E wx C0 c vm vl vt vp vk∧Rep G wx c vm vl vt vp vk∧KE E w wx∧n'≤1048576+64*cnt'∧cnt'≤8192∧
  ((dn = false ∧ ∃ bdl', goesL E.mf.isSome (c.l.drop j) (deep + 1) win' T cnt' bdl' = RL ∧ (∀ x, bd' x = bdl'.contains x) ∧ (∀ x, sc' x = win'.contains x) ∧ (∀ x ∈ win', x ∈ bdl') ∧ (∀ x, fr' x = (fr1 x || (freesL (c.l.take j) win').contains x)) ∧ E.J (seen ++ c :: partsL (c.l.take j)) wx) ∨
   (dn=true∧∃pre,pre<+:seen++parts c∧E.Jx pre wx))
def CP(E:WE)(c:C)(vm vl vt vp vk:Value)(G:Nat→Prop)(C0:Nat)(w:World)(deep:Nat)(win':List Int)(T:Bool)(RL:Int×Nat×List Int)(fr1:Int→Bool)(seen:List C)(j:Nat)(e:Ending)(w':World):Prop:=
 ∃r:Int,e= .returned (.int .i64 r)∧((r≠0∧RL.1=r∧∃cnt' sc' bd' fr' n',Wk E w' cnt' false sc' bd' fr' n'∧KE E w w'∧cnt'≤8192)∨(r=0∧L2 E c vm vl vt vp vk G C0 w deep win' T RL fr1 seen (j+1) w'))
theorem goes_mono{opn:Bool}:∀(c:C) {deep:Nat} {win:List Int} {top:Bool} {cnt:Nat} {bd:List Int},∀x∈bd,x∈(goes opn c deep win top cnt bd).2.2
 | .mk k n s d p l,deep,win,top,cnt,bd,x,hx=>by
  rw[goes];split
  ·exact hx
  ·exact goesL_mono l x (List.mem_append_left _ hx)
where goesL_mono {opn:Bool}:∀(l:List C) {deep:Nat} {win:List Int} {top:Bool} {cnt:Nat} {bd:List Int},∀x∈bd,x∈(goesL opn l deep win top cnt bd).2.2
 |[],deep,win,top,cnt,bd,x,hx=>by rw[goesL];exact hx
 |c :: r,deep,win,top,cnt,bd,x,hx=>by
  rw[goesL];split
  ·exact goes_mono c x hx
  ·exact goesL_mono r x (goes_mono c x hx)
theorem L2.call{E:WE}(hE:E.Ok){c:C}(hch:∀y∈c.l,GoesIs E y){vm vl vt vp vk:Value}{G:Nat→Prop}{C0:Nat}{w:World}{deep:Nat}{win':List Int}{T:Bool}{RL:Int×Nat×List Int}{fr1:Int→Bool}{seen:List C}{j:Nat}{wx W1:World}
  (h:L2 E c vm vl vt vp vk G C0 w deep win' T RL fr1 seen j wx) (hj:j<c.l.length) (hd:deep≤128) (hWf:Wf c) (hG:∀k,G k→¬E.ch k) (htot:seen++parts c<+:E.tot) (hb:Below wx.heap.size wx W1) {um ul ut up uk:Value} (hR:Rep G W1 c.l[j] um ul ut up uk):
  Calls Tryz.prog 36 #[.pointer (some ⟨E.X,0,none⟩),V c.l[j] um ul ut up uk,.int .i64 ((deep+1:Nat):Int),.bool T] W1 (CP E c vm vl vt vp vk G C0 w deep win' T RL fr1 seen j):=by
 obtain⟨cnt',dn,sc',bd',fr',n',hwk,hbc,hrep,hkp,hn,hc,hcase⟩:=h;have hkp1:KE E w W1:=hkp.trans (lows hE hwk.hl hb);have hbc1:BcE E W1 C0 c vm vl vt vp vk:=hbc.below hE hwk.hl hb;have hrep1:=hrep.below hb;have hpp:seen++c :: partsL (c.l.take (j+1))<+:seen++parts c:=by
  rw[parts_cons];exact(List.prefix_append_right_inj seen).2 ((List.cons_prefix_cons).2 ⟨rfl,partsL_pre c.l (j+1)⟩)
 have hap:(seen++c :: partsL (c.l.take j))++parts c.l[j]=seen++c :: partsL (c.l.take (j+1)):=by
  rw[partsL_snoc hj,List.append_assoc,List.cons_append]
 rcases hcase with⟨rfl,bdl',hgl,hbd,hsc,hwin,hfr,hJ⟩|⟨rfl,pre,hpre,hx⟩
 ·have hy:Wf c.l[j]:=(wf_parts hWf).2.2.2.2.2.2.at j hj;refine(hch c.l[j] (List.getElem_mem hj) G um ul ut up uk W1 (deep+1) win' T cnt' bdl' sc' bd' fr' n' (seen++c :: partsL (c.l.take j)) hy hR hG (by omega) (hwk.below hb) hn hc hsc hbd hwin (hE.jst _ _ _ hJ (keep_of_below hb)) (by rw[hap];exact hpp.trans htot)).mono ?_;rintro e w' ⟨r,c2,dn2,sc2,bd2,fr2,n2,rfl,hwk2,hk2,hn2,hc2,hcase⟩;rw[List.drop_eq_getElem_cons hj,goesL]at hgl;have hkw:KE E w w':=hkp1.trans hk2;refine⟨r,rfl,?_⟩;by_cases hr:r=0
  ·refine .inr ⟨hr,c2,dn2,sc2,bd2,fr2,n2,hwk2,hbc1.ke hk2,Rep.keep hk2.kp (fun b hb _=>hG b hb) c hrep1,hkw,hn2 hr,hc2,?_⟩;rcases hcase with⟨rfl,e,h0⟩|⟨rfl,-,pre,hp,hx⟩
   ·obtain⟨rfl,f2,f3,f4,f5⟩:=h0 hr;rw[if_neg (by rw[←e,hr];simp)]at hgl;refine .inl ⟨rfl,_,hgl,f2,fun x=>by rw[f3,hsc],fun x hx=>goes_mono _ x (hwin x hx),fun x=> ?_,by rw[←hap];exact f5⟩;rw[f4,hfr,freesL_snoc win' hj,Bool.or_assoc];congr 1;rw[Bool.eq_iff_iff];simp
   ·exact .inr ⟨rfl,pre,by rw[hap]at hp;exact hp.trans hpp,hx⟩
  ·rcases hcase with⟨rfl,e,-⟩|⟨rfl,e,-⟩
   ·rw[if_pos (by rw[←e];exact hr)]at hgl;exact .inl ⟨hr,by rw[←hgl,←e],c2,sc2,bd2,fr2,n2,hwk2,hkw,hc2⟩
   ·exact absurd e hr
 ·refine(coGoes_done E c.l[j] um ul ut up uk W1 (deep+1) T cnt' n' sc' bd' fr' (hwk.below hb)).mono ?_;rintro e w' ⟨rfl,hb2⟩;refine⟨0,rfl,.inr ⟨rfl,cnt',true,sc',bd',fr',n',(hwk.below hb).below hb2,hbc1.below hE (hwk.below hb).hl hb2,hrep1.below hb2,hkp1.trans (lows hE (hwk.below hb).hl hb2),hn,hc,.inr ⟨rfl,pre,hpre,hE.jxst _ _ _ (hE.jxst _ _ _ hx (keep_of_below hb)) (keep_of_below hb2)⟩⟩⟩
theorem Rep.forms5{F:Nat→Prop}{w:World}{c:C}{um ul ut up uk:Value}(h:Rep F w c um ul ut up uk):∃b1 n1 q1 b2 n2 q2 b3 n3 q3 b4 n4 q4 b5 n5 q5,um= .slice b1 n1 q1∧ul= .slice b2 n2 q2∧ut= .slice b3 n3 q3∧up= .slice b4 n4 q4∧uk= .slice b5 n5 q5:=by
 obtain⟨h1,⟨a,cp,rfl,-⟩,⟨a',ck,rfl,-⟩⟩:=(rep_iff _ _ _ _ _ _ _ _).1 h;obtain⟨b1,n1,q1,b2,n2,q2,b3,n3,q3,rfl,rfl,rfl⟩:=h1.forms;exact⟨b1,n1,q1,b2,n2,q2,b3,n3,q3,_,_,_,_,_,_,rfl,rfl,rfl,rfl,rfl⟩
def L3(E:WE)(c:C)(vm vl vt vp vk:Value)(G:Nat→Prop)(C0:Nat)(w:World)(win':List Int)(RL:Int×Nat×List Int)(fr1:Int→Bool)(seen:List C)(i:Nat)(wx:World):Prop:=
 ∃cnt' dn sc' bd' fr' n',Wk E wx cnt' dn sc' bd' fr' n'∧BcE E wx C0 c vm vl vt vp vk∧Rep G wx c vm vl vt vp vk∧KE E w wx∧n'≤1048576+64*cnt'∧cnt'≤8192∧
  ((dn = false ∧ ∃ bdl', RL = (0, cnt', bdl') ∧ (∀ x, bd' x = bdl'.contains x) ∧ (∀ x, sc' x = (win'.contains x && !(c.p.take i).contains x)) ∧ (∀ x, fr' x = (fr1 x || (freesL c.l win').contains x)) ∧ E.J (seen ++ parts c) wx) ∨
   (dn=true∧∃pre,pre<+:seen++parts c∧E.Jx pre wx))
theorem L2.to3{E:WE}{c:C}{vm vl vt vp vk:Value}{G:Nat→Prop}{C0:Nat}{w:World}{deep:Nat}{win':List Int}{T:Bool}{RL:Int×Nat×List Int}{fr1:Int→Bool}{seen:List C}{wx:World}
  (h:L2 E c vm vl vt vp vk G C0 w deep win' T RL fr1 seen c.l.length wx):L3 E c vm vl vt vp vk G C0 w win' RL fr1 seen 0 wx:=by
 obtain⟨cnt',dn,sc',bd',fr',n',hwk,hbc,hrep,hkp,hn,hc,hcase⟩:=h;refine⟨cnt',dn,sc',bd',fr',n',hwk,hbc,hrep,hkp,hn,hc,?_⟩;rcases hcase with⟨e,bdl',hgl,hbd,hsc,hwin,hfr,hJ⟩|h
 ·rw[List.drop_length,goesL]at hgl;rw[List.take_length]at hfr hJ;exact .inl ⟨e,bdl',hgl.symm,hbd,fun x=>by rw[hsc,List.take_zero];simp,hfr,by rw[parts_cons];exact hJ⟩
 ·exact .inr h
end Co
namespace Co
structure Fr(w w':World)(X ms mb n:Nat)(q:Int→Bool):Prop where
 hp:Hp w' X #[.int .i64 0,.map (some ms),.map (some mb),.map none,.nilFunc,.bool false] 81
 hs:Set_ w' ms n q
 hb:Set_ w' mb n q
 kp:Below w.heap.size w w'
 lX:w.heap.size≤X
 ls:w.heap.size≤ms
 lb:w.heap.size≤mb
 sb:ms≠mb
 xs:X≠ms
 xb:X≠mb
end Co
theorem fresh_any{F:Nat→Prop}(v:Value)(l:List Int)(w:World)(hv:Dt.IRow F w v l)(hl:l.length≤1048576)(hr:∀x∈l,-9223372036854775808≤x∧x≤9223372036854775807):
  Calls Tryz.prog 35 #[v] w fun e w'=>∃X ms mb,e= .returned (.pointer (some ⟨X,0,none⟩))∧Co.Fr w w' X ms mb l.length l.contains:=by
 obtain⟨a,c,rfl,hlc,hc⟩:=hv;have hP:Dt.IRow F w (.slice a l.length c) l:=⟨a,c,rfl,hlc,hc⟩
 have HP:=zh hP;have HR:=zh hr;obtain⟨w1,hw1⟩:∃w1,w.alloc (.map #[] 0)=w1:=⟨_,rfl⟩
 obtain⟨w2,hw2⟩:∃w2,w1.alloc (.map #[] 0)=w2:=⟨_,rfl⟩
 obtain⟨w3,hw3⟩:∃w3,w2.alloc (.cells #[.int .i64 0,.map (some w.heap.size),.map (some w1.heap.size),.map none,.nilFunc,.bool false] 81)=w3:=⟨_,rfl⟩
 obtain⟨hb1,hs1⟩:=new_below hw1;obtain⟨hb2,hs2⟩:=new_below hw2;obtain⟨hb3,hs3⟩:=new_below hw3;have hm1:=Co.Set_.made w;rw[hw1]at hm1;have hm2:=Co.Set_.made w1;rw[hw2]at hm2;have hfr:Co.Fr w w3 w2.heap.size w.heap.size w1.heap.size 0 (l.take 0).contains:=by
  refine⟨Hp.new hw3,((hm1.below hb2).below hb3).ext fun x=>by simp,(hm2.below hb3).ext fun x=>by simp,hb1.trans ((hb2.mono (by omega)).trans (hb3.mono (by omega))),by omega,Nat.le_refl _,by omega,by omega,by omega,by omega⟩
 have HFR:=zh hfr;obtain⟨ms,hms⟩:∃ms,w.heap.size=ms:=⟨_,rfl⟩
 obtain⟨mb,hmb⟩:∃mb,w1.heap.size=mb:=⟨_,rfl⟩
 obtain⟨X,hX⟩:∃X,w2.heap.size=X:=⟨_,rfl⟩
 rw[hms,hmb,hX]at HFR;rw[hms,hmb]at hw3;clear hb1 hb2 hb3 hs1 hs2 hs3 hm1 hm2 hfr hP hr hc;have hmm:=@run_makeMap Tryz.prog;go_enter Tryz.func35,Tryz.ntmps35;go_wp2;clear hw1 hw2 hw3 hmm
 go_loopw [12] (fun v wr=>∃j:Nat,v= .int .i64 j∧j≤l.length∧Hid (Co.Fr w wr X ms mb j (l.take j).contains)) (fun v _=>l.length - (intOf v).toNat)
 case atStart=>exact⟨0,rfl,by omega,HFR⟩
 case round=>
  clear HFR;obtain⟨j,rfl,hj,HL⟩:=hrel;by_cases hlt:j<l.length
  case neg=>
   have hge:(l.length:Int)≤(j:Int):=by omega
   have HE:Hid (Co.Fr w wr X ms mb l.length l.contains):=by
    have h:=HL.out;rw[show j=l.length by omega,List.take_length]at h;exact h
   go_wp2;go_ret;exact⟨_,_,_,rfl,HE.out⟩
  have hlti:(j:Int)<(l.length:Int):=by omega
  have hf:=HL.out;obtain⟨_,_,he,_,hrow⟩:=HP.out.keep (S:=fun _=>False) (keep_of_below hf.kp) (fun _ _ _ h=>h);injection he with he1 he2 he3
  subst he1;clear he2 he3;obtain⟨b,o',rfl,hGb,hbl,hcell⟩:=hrow (by intro h0;rw[h0]at hlt;simp at hlt);have p0:=hcell j hlt;obtain⟨x,hx⟩:∃x,l[j]=x:=⟨_,rfl⟩
  rw[hx]at p0;obtain⟨hx1,hx2⟩:=HR.out x (by rw[←hx];exact List.getElem_mem hlt);have hm1:j<maxLen:=by unfold maxLen;omega
  have hd:=Co.drew_below wr;obtain⟨v0,st0,W1,e1,k1,q1⟩:=(hf.hs.below hd).entry hm1 hx1 hx2;obtain⟨W2,e2,s2,k2⟩:=q1 W1 rfl;have k02:Keep (fun k=>k=ms) wr W2:=(keep_of_below hd).trans (k1.trans k2);obtain⟨v1,st1,W3,e3,k3,q3⟩:=(hf.hb.keep k02 (fun e=>hf.sb e.symm)).entry hm1 hx1 hx2;obtain⟨W4,e4,s4,k4⟩:=q3 W3 rfl;have k24:Keep (fun k=>k=mb) W2 W4:=k3.trans k4;have k04:Keep (fun k=>k=ms∨k=mb) wr W4:=(k02.le fun k e=> .inl e).trans (k24.le fun k e=> .inr e);have HL4:Hid (Co.Fr w W4 X ms mb (j+1) (l.take (j+1)).contains):=by
   have hw4:Below w.heap.size w W4:=hf.kp.trans (k04.to_below (fun k e=>by have:=hf.ls;have:=hf.lb;omega) hf.kp.size);refine⟨hf.hp.keep k04 (fun e=>e.elim hf.xs hf.xb),(s2.keep k24 hf.sb).ext fun y=> ?_,s4.ext fun y=> ?_,hw4,hf.lX,hf.ls,hf.lb,hf.sb,hf.xs,hf.xb⟩
   ·rw[Co.contains_take hlt,hx]
   ·rw[Co.contains_take hlt,hx]
  have x1:=hf.hp.cell 1 rfl;have x2:=hf.hp.cell 2 rfl;clear hf hm1 hd k1 q1 s2 k2 k02 k3 q3 s4 k4 k24 k04 hrow hcell hx;go_wp2
  go_region
  go_wp2;go_roundw
  case rel=>exact⟨j+1,by simp,by omega,HL4⟩
  case measure=>simp[intOf];omega
end Go.Proofs.YtfjmlfbohenmfaaGreat
namespace Go.Proofs.YtfjmlfbohenmfaaGreat
open Go.RowKit Go.Maps Go.Sort Go.Shelf
theorem sortsI(m:Nat):AnyZI.SortsIn Tryz.prog Tryz.sortedI_ren Fence.wide m:=
  ⟨fun blk off cap ss W hH hblk hsz=>callsIn_wide.2 (AnyM.slices_Sort_int Tryz.sortI blk off cap ss W hH hblk hsz),
   fun p cap W=>callsIn_wide.2 (AnyM.slices_Sort_int_none Tryz.sortI p cap W)⟩
theorem keysI_any(mb:Option Nat)(W:World):Calls Tryz.prog 48 #[.map mb] W fun e w'=>e= .returned (.func (.func 73) #[] #[.pointer (some ⟨W.heap.size,0,none⟩)])∧w'=W.alloc (.cells #[.map mb] 79):=
  (callsIn_wide (n:=5)).1 (AnyZI.keys_in Tryz.keysI Fence.wide 5 trivial rfl mb W)
namespace Co
theorem sorted_of_perm{ss L:List Int}(h:ss.Perm L)(hL:L.Pairwise (· < ·)):ss.mergeSort (fun x y=>decide (x≤y))=L:=by
  have e:=mergeSort_of_perm_i h;have e2:L.mergeSort leI=L:=List.mergeSort_of_pairwise (hL.imp fun {a b} hab=>by simp only[leI,decide_eq_true_eq];omega);exact e.trans e2
end Co
theorem sortedI_any(b n:Nat)(q:Int→Bool)(L:List Int)(W:World)(h:Co.Set_ W b n q)(hL:L.Pairwise (· < ·))(hm:∀x,q x=L.contains x)(hn:n≤16777216):
    Calls Tryz.prog 47 #[.func (.func 73) #[] #[.pointer (some ⟨W.heap.size,0,none⟩)]] (W.alloc (.cells #[.map (some b)] 79)) fun e w'=>∃v,e= .returned v∧
      w'.ownsRow (W.alloc (.cells #[.map (some b)] 79)).heap.size 3 1 v L.length (L.map (Value.int .i64))∧(v= .slice none 0 0↔L=[])∧Below (W.alloc (.cells #[.map (some b)] 79)).heap.size (W.alloc (.cells #[.map (some b)] 79)) w':=by
  obtain⟨D0,hown,hhas⟩:=h;have hown0:=hown;have hbl:=hown.lt;have hsz:=hown.size_le;have hseq:SeqGives Fence.wide 2 Tryz.prog 73 #[.pointer (some ⟨W.heap.size,0,none⟩)] encZ (fun ss=>ss.Perm (intKeys D0)) (Maps.size D0) (W.alloc (.cells #[.map (some b)] 79)):=
    AnyZI.keys_gives (ρ:=Tryz.keysI_ren) {Tryz.keysI with} Fence.wide _ trivial rfl (by omega) W.heap.size b n D0 _ (by simp) (by simp) (by
      obtain⟨es,clock,hb,Ft,hs,hD⟩:=hown;exact⟨es,clock,(Below.heap_alloc _ _ b hbl).trans hb,Ft,hs,hD⟩)
  have cS:=AnyZI.sorted_in Tryz.sortedI Fence.wide 5 trivial trivial trivial trivial rfl (by omega) (sortsI _) (enters_of Tryz.func72 (by kernel_rfl) rfl) 73 #[.pointer (some ⟨W.heap.size,0,none⟩)] trivial (enters_of Tryz.func73 (by kernel_rfl) rfl) _ _ (by unfold maxLen;omega) (by omega) _ hseq;change CallsIn _ _ Tryz.prog 47 _ _ _ at cS;refine((callsIn_wide (n:=5)).1 cS).mono ?_;rintro e w' ⟨v,ss,rfl,hS,hrow,hnil,hb⟩;have hLK:L.Perm (intKeys D0):=by
    obtain⟨es,hD,hpw,_⟩:=hown0.entries Co.mIB.keyed;obtain⟨es',hD',hko⟩:=hown0.keysOf;obtain rfl:es=es':=by rw[hD]at hD';simpa using hD'
    subst hD;refine perm_intKeys hpw (fun p hp=>by obtain⟨v,hv⟩:=hko p hp;obtain⟨x,_,hx,_⟩:=Maps.keyOf_i64 Tryz.underlying3 hv;exact⟨x,hx⟩) (hL.imp fun {a b} hab=>by omega) fun x=> ?_
    have h1:=(hhas x).1;rw[show Co.mIB.kl x=Lit.int .i64 x from rfl]at h1;rw[h1,←List.contains_iff_mem,←hm x];unfold Co.on;cases q x <;> simp
  have hp:ss.Perm L:=hS.trans hLK.symm;rw[Co.sorted_of_perm hp hL,hp.length_eq]at hrow;refine⟨v,rfl,hrow,hnil.trans ⟨fun e=> ?_,fun e=> ?_⟩,hb⟩
  · rw[e]at hp;exact hp.nil_eq.symm
  · rw[e]at hp;exact hp.eq_nil
end Go.Proofs.YtfjmlfbohenmfaaGreat
namespace Go.Proofs.YtfjmlfbohenmfaaGreat
open Go.RowKit
attribute [local go_sem] Oper.semAt_some
namespace Co
def wordR(k n:Int):ByteArray:=
 if k=1 then⟨#[99,111,110,115,116]⟩else if k=2 then⟨#[108,111,99,97,108]⟩else if k=3 then⟨#[103,108,111,98,97,108]⟩
 else if k=4 then⟨#[115,101,116]⟩else if k=5 then⟨#[97,115,115,105,103,110]⟩else if k=6 then⟨#[100,101,102,105,110,101]⟩
 else if k=7 then⟨#[105,102]⟩else if k=8 then(if n=1 then⟨#[108,97,109,98,100,97,42]⟩else⟨#[108,97,109,98,100,97]⟩)
 else if k=9 then⟨#[115,101,113]⟩else⟨#[99,97,108,108]⟩
def nn(k n:Int):Int:=if k=8 then n else 0
def kdF(s:ByteArray):Nat→Nat→Int×Int
 |_,0=>(0,0)
 |i,f+1=>if wordR ((i / 2:Nat)+1) (nn ((i / 2:Nat)+1) ((i % 2:Nat):Int))=s then((i / 2:Nat)+1,nn ((i / 2:Nat)+1) ((i % 2:Nat):Int))else kdF s (i+1) f
def kd(s:ByteArray):Int×Int:=kdF s 0 20
theorem kd_step{s:ByteArray}{k n i:Nat}(hk:i=2*k+n)(hn:n<2)(hk10:k<10):
  kdF s i (20 - i)=if wordR ((k:Int)+1) (nn ((k:Int)+1) (n:Int))=s then((k:Int)+1,nn ((k:Int)+1) (n:Int))else kdF s (i+1) (20 - (i+1)):=by
 obtain⟨f,hf⟩:∃f,20 - i=f+1:=⟨19 - i,by omega⟩
 rw[hf,kdF];have e1:i / 2=k:=by omega
 have e2:i % 2=n:=by omega
 have e3:20 - (i+1)=f:=by omega
 rw[e1,e2,e3]
end Co
theorem word07_any(k n dk dn:Int)(s ds:ByteArray)(vm vl vt vp vk:Value)(w:World):
  Calls Tryz.prog 149 #[.agg #[.int .i64 k,.int .i64 n,.string s,.int .i64 dk,.int .i64 dn,.string ds,vm,vl,vt,vp,vk]] w fun e w'=>e= .returned (.string (Co.wordR k n))∧Below w.heap.size w w':=by
 obtain⟨w1,hw1⟩:∃w1,w.alloc (.cells #[.int .i64 k,.int .i64 n,.string s,.int .i64 dk,.int .i64 dn,.string ds,vm,vl,vt,vp,vk] 28)=w1:=⟨_,rfl⟩
 obtain⟨hb1,-⟩:=new_below hw1;have c0:=(Hp.new hw1).cell 0 rfl;have c1:=(Hp.new hw1).cell 1 rfl;have HB:=zh hb1;clear hb1;obtain⟨R,hR⟩:∃R,Co.wordR k n=R:=⟨_,rfl⟩
 rw[hR];unfold Co.wordR at hR;by_cases g1:k=1
 ·rw[if_pos g1]at hR;subst g1 hR;go_enter Tryz.func149,Tryz.ntmps149;go_wp2;go_ret;exact⟨rfl,HB.out⟩
 rw[if_neg g1]at hR;have t1:(k==1)=false:=by rw[beq_eq_false_iff_ne];omega
 by_cases g2:k=2
 ·rw[if_pos g2]at hR;subst g2 hR;go_enter Tryz.func149,Tryz.ntmps149;go_wp2;go_ret;exact⟨rfl,HB.out⟩
 rw[if_neg g2]at hR;have t2:(k==2)=false:=by rw[beq_eq_false_iff_ne];omega
 by_cases g3:k=3
 ·rw[if_pos g3]at hR;subst g3 hR;go_enter Tryz.func149,Tryz.ntmps149;go_wp2;go_ret;exact⟨rfl,HB.out⟩
 rw[if_neg g3]at hR;have t3:(k==3)=false:=by rw[beq_eq_false_iff_ne];omega
 by_cases g4:k=4
 ·rw[if_pos g4]at hR;subst g4 hR;go_enter Tryz.func149,Tryz.ntmps149;go_wp2;go_ret;exact⟨rfl,HB.out⟩
 rw[if_neg g4]at hR;have t4:(k==4)=false:=by rw[beq_eq_false_iff_ne];omega
 by_cases g5:k=5
 ·rw[if_pos g5]at hR;subst g5 hR;go_enter Tryz.func149,Tryz.ntmps149;go_wp2;go_ret;exact⟨rfl,HB.out⟩
 rw[if_neg g5]at hR;have t5:(k==5)=false:=by rw[beq_eq_false_iff_ne];omega
 by_cases g6:k=6
 ·rw[if_pos g6]at hR;subst g6 hR;go_enter Tryz.func149,Tryz.ntmps149;go_wp2;go_ret;exact⟨rfl,HB.out⟩
 rw[if_neg g6]at hR;have t6:(k==6)=false:=by rw[beq_eq_false_iff_ne];omega
 by_cases g7:k=7
 ·rw[if_pos g7]at hR;subst g7 hR;go_enter Tryz.func149,Tryz.ntmps149;go_wp2;go_ret;exact⟨rfl,HB.out⟩
 rw[if_neg g7]at hR;have t7:(k==7)=false:=by rw[beq_eq_false_iff_ne];omega
 by_cases g8:k=8
 ·rw[if_pos g8]at hR;subst g8;by_cases gn:n=1
  ·rw[if_pos gn]at hR;subst gn hR;go_enter Tryz.func149,Tryz.ntmps149;go_wp2;go_ret;exact⟨rfl,HB.out⟩
  ·rw[if_neg gn]at hR;have tn:(n==1)=false:=by rw[beq_eq_false_iff_ne];omega
   subst hR;clear gn;go_enter Tryz.func149,Tryz.ntmps149;go_wp2;go_ret;exact⟨rfl,HB.out⟩
 rw[if_neg g8]at hR;have t8:(k==8)=false:=by rw[beq_eq_false_iff_ne];omega
 by_cases g9:k=9
 ·rw[if_pos g9]at hR;subst g9 hR;go_enter Tryz.func149,Tryz.ntmps149;go_wp2;go_ret;exact⟨rfl,HB.out⟩
 rw[if_neg g9]at hR;have t9:(k==9)=false:=by rw[beq_eq_false_iff_ne];omega
 subst hR;clear g1 g2 g3 g4 g5 g6 g7 g8 g9;go_enter Tryz.func149,Tryz.ntmps149;go_wp2;go_ret;exact⟨rfl,HB.out⟩
theorem kind07_any(s:ByteArray)(w:World):
  Calls Tryz.prog 110 #[.string s] w fun e w'=>e= .returned (.tuple #[.int .i64 (Co.kd s).1,.int .i64 (Co.kd s).2])∧Below w.heap.size w w':=by
 obtain⟨⟨r1,r2⟩,hR⟩:∃R,Co.kd s=R:=⟨_,rfl⟩
 rw[hR];have HR:=zh hR;have HI0:Hid (Below w.heap.size w w∧Co.kd s=Co.kdF s (2*0) (20 - 2*0)):=⟨Below.refl _ _,rfl⟩
 clear hR;go_enter Tryz.func110,Tryz.ntmps110;go_wp2
 go_loopw [4] (fun v wr=>∃k:Nat,v= .int .i64 ((k:Int)+1)∧k≤10∧Hid (Below w.heap.size w wr∧Co.kd s=Co.kdF s (2*k) (20 - 2*k))) (fun v _=>11 - (intOf v).toNat)
 case atStart=>exact⟨0,rfl,by omega,HI0⟩
 case round=>
  clear HI0;obtain⟨k,rfl,hk,HI⟩:=hrel;by_cases h10:k<10
  case neg=>
   have hge:(10:Int)<(k:Int)+1:=by omega
   have hd:decide ((k:Int)+1≤10)=false:=decide_eq_false (by omega);have HZ:Hid (r1=0∧r2=0):=by
    have h:=HI.out.2;rw[show k=10 by omega,HR.out]at h;have h:(r1,r2)=((0:Int),(0:Int)):=h;exact⟨congrArg Prod.fst h,congrArg Prod.snd h⟩
   have HB:=zh HI.out.1;go_wp2;refine bodyPost_ret (v:= .tuple #[.int .i64 0,.int .i64 0]) (by simp[results,Tryz.results110,go_sem, *]) rfl ?_;rw[HZ.out.1,HZ.out.2];exact⟨rfl,HB.out⟩
  have hle:decide ((k:Int)+1≤10)=true:=decide_eq_true (by omega);have hlei:(k:Int)+1≤10:=by omega
  have HJ0:Hid (Below w.heap.size w wr∧Co.kd s=Co.kdF s (2*k+0) (20 - (2*k+0))):=HI.out;go_wp2
  go_loopw [5] (fun v w9=>∃n:Nat,v= .int .i64 (n:Int)∧n≤2∧Hid (Below w.heap.size w w9∧Co.kd s=Co.kdF s (2*k+n) (20 - (2*k+n)))) (fun v _=>2 - (intOf v).toNat)
  case atStart=>exact⟨0,rfl,by omega,HJ0⟩
  case round=>
   clear HJ0 HI;obtain⟨n,rfl,hn,HJ⟩:=hrel;by_cases h2:n<2
   case neg=>
    have hge:(1:Int)<(n:Int):=by omega
    have hd:decide ((n:Int)≤1)=false:=decide_eq_false (by omega);have HN:Hid (Below w.heap.size w wr∧Co.kd s=Co.kdF s (2*(k+1)) (20 - 2*(k+1))):=by
     have h:=HJ.out;rw[show 2*k+n=2*(k+1)by omega]at h;exact h
    go_wp2;go_roundw
    case rel=>exact⟨k+1,by simp,by omega,HN⟩
    case measure=>simp[intOf];omega
   have hlen:(n:Int)≤1:=by omega
   have hd:decide ((n:Int)≤1)=true:=decide_eq_true hlen;have hst:=Co.kd_step (s:=s) (i:=2*k+n) rfl h2 h10;have hwA:wr.alloc (.cells #[.int .i64 ((k:Int)+1),.int .i64 0,.string ⟨#[]⟩,.int .i64 0,.int .i64 0,.string ⟨#[]⟩,.slice none 0 0,.slice none 0 0,.slice none 0 0,.slice none 0 0,.slice none 0 0] 28)=wr.alloc (.cells #[.int .i64 ((k:Int)+1),.int .i64 0,.string ⟨#[]⟩,.int .i64 0,.int .i64 0,.string ⟨#[]⟩,.slice none 0 0,.slice none 0 0,.slice none 0 0,.slice none 0 0,.slice none 0 0] 28):=rfl;obtain⟨hbA,hsA⟩:=new_below hwA;have HA:=zh (Hp.new hwA);have HBA:Hid (Below w.heap.size w (wr.alloc (.cells #[.int .i64 ((k:Int)+1),.int .i64 0,.string ⟨#[]⟩,.int .i64 0,.int .i64 0,.string ⟨#[]⟩,.slice none 0 0,.slice none 0 0,.slice none 0 0,.slice none 0 0,.slice none 0 0] 28))):=HJ.out.1.trans (hbA.mono HJ.out.1.size);have HSA:=zh hsA;have HLB:Hid (w.heap.size≤wr.heap.size):=HJ.out.1.size;clear hbA hsA hwA;by_cases h8:k=7
   ·have hk8:((k:Int)+1==8)=true:=by rw[beq_iff_eq];omega
    have hN:Co.nn ((k:Int)+1) (n:Int)=(n:Int):=by unfold Co.nn;rw[if_pos (by omega)]
    clear h8;rw[hN]at hst;obtain⟨wB,hwB⟩:∃wB,(wr.alloc (.cells #[.int .i64 ((k:Int)+1),.int .i64 0,.string ⟨#[]⟩,.int .i64 0,.int .i64 0,.string ⟨#[]⟩,.slice none 0 0,.slice none 0 0,.slice none 0 0,.slice none 0 0,.slice none 0 0] 28)).setCell ⟨wr.heap.size,1,none⟩ (.int .i64 (n:Int))=wB:=⟨_,rfl⟩
    have kB:=set_keep (wr.alloc (.cells #[.int .i64 ((k:Int)+1),.int .i64 0,.string ⟨#[]⟩,.int .i64 0,.int .i64 0,.string ⟨#[]⟩,.slice none 0 0,.slice none 0 0,.slice none 0 0,.slice none 0 0,.slice none 0 0] 28)) wr.heap.size 1 (.int .i64 (n:Int));rw[hwB]at kB;have HC:Hid (Hp wB wr.heap.size #[.int .i64 ((k:Int)+1),.int .i64 (n:Int),.string ⟨#[]⟩,.int .i64 0,.int .i64 0,.string ⟨#[]⟩,.slice none 0 0,.slice none 0 0,.slice none 0 0,.slice none 0 0,.slice none 0 0] 28):=by rw[←hwB];exact HA.out.set 1 _
    have HBB:Hid (Below w.heap.size w wB):=HBA.out.trans (kB.to_below (fun j e=>by have:=HLB.out;omega) HBA.out.size);have xA:=HA.out.cell 1 rfl;have xf:=HA.out.frz 1;obtain⟨c0,c1,c2,c3,c4,c5,c6,c7,c8,c9,c10⟩:=HC.out.c11;have hwd:=word07_any ((k:Int)+1) (n:Int) 0 0 ⟨#[]⟩ ⟨#[]⟩ (.slice none 0 0) (.slice none 0 0) (.slice none 0 0) (.slice none 0 0) (.slice none 0 0) wB;obtain⟨WD,hWD⟩:∃WD,Co.wordR ((k:Int)+1) (n:Int)=WD:=⟨_,rfl⟩
    rw[hWD]at hwd hst;clear kB hN;clear hWD;have HST:=zh hst;clear hst;go_wp2_with fail
    refine hwd.mono ?_;rintro e wC ⟨rfl,hbC⟩;have HBC:Hid (Below w.heap.size w wC):=btr HBB.out hbC;have HCC:=zh (HC.out.below hbC);have d1:=HCC.out.cell 1 rfl;clear xA xf hwB c0 c1 c2 c3 c4 c5 c6 c7 c8 c9 c10 hwd hbC;by_cases hm:WD=s
    ·have s1:decide (WD=s)=true:=decide_eq_true hm;have s2:(WD.data==s.data)=true:=by rw[hm];simp
     have s4:(WD==s)=true:=s2;have s6:(WD.toList==s.toList)=true:=by rw[hm];simp
     have HF:Hid (r1=((k:Int)+1)∧r2=(n:Int)):=by
      have h:=HJ.out.2;rw[HST.out,if_pos hm,HR.out]at h;exact⟨congrArg Prod.fst h,congrArg Prod.snd h⟩
     clear hm;go_wp2
     go_region
     all_goals
      go_wp2;refine bodyPost_ret (v:= .tuple #[.int .i64 ((k:Int)+1),.int .i64 (n:Int)]) (by simp[results,Tryz.results110,go_sem, *]) rfl ?_;rw[HF.out.1,HF.out.2];exact⟨rfl,HBC.out.drew⟩
    ·have s1:decide (WD=s)=false:=decide_eq_false hm;have s2:(WD.data==s.data)=false:=by rw[beq_eq_false_iff_ne];intro e;exact hm (Dt.bytes_ext (by rw[e]))
     have s4:(WD==s)=false:=s2;have s6:(WD.toList==s.toList)=false:=by rw[ByteArray.toList_eq,ByteArray.toList_eq,beq_eq_false_iff_ne];exact fun e=>hm (Dt.bytes_ext e)
     have HN:Hid (Below w.heap.size w wC∧Co.kd s=Co.kdF s (2*k+(n+1)) (20 - (2*k+(n+1)))):=by
      have h:=HJ.out.2;rw[HST.out,if_neg hm]at h;exact⟨HBC.out,h⟩
     clear hm;go_wp2;go_roundw
     case rel=>exact⟨n+1,by simp,by omega,HN⟩
     case measure=>simp[intOf];omega
   ·have hk8:((k:Int)+1==8)=false:=by rw[beq_eq_false_iff_ne];omega
    have hN:Co.nn ((k:Int)+1) (n:Int)=0:=by unfold Co.nn;rw[if_neg (by omega)]
    rw[hN]at hst;have HC:=HA;have HBB:=HBA;obtain⟨c0,c1,c2,c3,c4,c5,c6,c7,c8,c9,c10⟩:=HC.out.c11;have hwd:=word07_any ((k:Int)+1) 0 0 0 ⟨#[]⟩ ⟨#[]⟩ (.slice none 0 0) (.slice none 0 0) (.slice none 0 0) (.slice none 0 0) (.slice none 0 0) (wr.alloc (.cells #[.int .i64 ((k:Int)+1),.int .i64 0,.string ⟨#[]⟩,.int .i64 0,.int .i64 0,.string ⟨#[]⟩,.slice none 0 0,.slice none 0 0,.slice none 0 0,.slice none 0 0,.slice none 0 0] 28));obtain⟨WD,hWD⟩:∃WD,Co.wordR ((k:Int)+1) 0=WD:=⟨_,rfl⟩
    rw[hWD]at hwd hst;clear hN;clear hWD;have HST:=zh hst;clear hst;go_wp2_with fail
    refine hwd.mono ?_;rintro e wC ⟨rfl,hbC⟩;have HBC:Hid (Below w.heap.size w wC):=btr HBB.out hbC;have HCC:=zh (HC.out.below hbC);have d1:=HCC.out.cell 1 rfl;clear c0 c1 c2 c3 c4 c5 c6 c7 c8 c9 c10 hwd hbC;by_cases hm:WD=s
    ·have s1:decide (WD=s)=true:=decide_eq_true hm;have s2:(WD.data==s.data)=true:=by rw[hm];simp
     have s4:(WD==s)=true:=s2;have s6:(WD.toList==s.toList)=true:=by rw[hm];simp
     have HF:Hid (r1=((k:Int)+1)∧r2=0):=by
      have h:=HJ.out.2;rw[HST.out,if_pos hm,HR.out]at h;exact⟨congrArg Prod.fst h,congrArg Prod.snd h⟩
     clear hm;go_wp2
     go_region
     all_goals
      go_wp2;refine bodyPost_ret (v:= .tuple #[.int .i64 ((k:Int)+1),.int .i64 0]) (by simp[results,Tryz.results110,go_sem, *]) rfl ?_;rw[HF.out.1,HF.out.2];exact⟨rfl,HBC.out.drew⟩
    ·have s1:decide (WD=s)=false:=decide_eq_false hm;have s2:(WD.data==s.data)=false:=by rw[beq_eq_false_iff_ne];intro e;exact hm (Dt.bytes_ext (by rw[e]))
     have s4:(WD==s)=false:=s2;have s6:(WD.toList==s.toList)=false:=by rw[ByteArray.toList_eq,ByteArray.toList_eq,beq_eq_false_iff_ne];exact fun e=>hm (Dt.bytes_ext e)
     have HN:Hid (Below w.heap.size w wC∧Co.kd s=Co.kdF s (2*k+(n+1)) (20 - (2*k+(n+1)))):=by
      have h:=HJ.out.2;rw[HST.out,if_neg hm]at h;exact⟨HBC.out,h⟩
     clear hm;go_wp2;go_roundw
     case rel=>exact⟨n+1,by simp,by omega,HN⟩
     case measure=>simp[intOf];omega
end Go.Proofs.YtfjmlfbohenmfaaGreat
