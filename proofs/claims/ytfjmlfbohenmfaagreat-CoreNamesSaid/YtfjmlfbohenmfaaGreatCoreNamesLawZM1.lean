/-
  CoNamesPb, CoRPutTb, CoRNamesb, CoRPairsb, CoNamesWb.
-/
import Derived.Test.YtfjmlfbohenmfaaGreatCoreBBM7
import Derived.Test.YtfjmlfbohenmfaaGreatCoreBBM5
import Derived.Test.YtfjmlfbohenmfaaGreatCoreBBM12
import Derived.Test.YtfjmlfbohenmfaaGreatCoreBBM2
import Derived.Test.YtfjmlfbohenmfaaGreatCoreBBM13
import Derived.Test.YtfjmlfbohenmfaaGreatCoLessb
import Derived.Test.YtfjmlfbohenmfaaGreatDtSameb
import Derived.StillTailTactics
import Derived.Test.YtfjmlfbohenmfaaGreatCoLawPb
import Derived.Test.YtfjmlfbohenmfaaGreatCoRAsb
import Derived.Deep.RegionHeld3
import Derived.Deep.CutBlock
import Derived.IntWalk
set_option maxRecDepth 100000
set_option maxHeartbeats 32000000
namespace Go.Proofs.YtfjmlfbohenmfaaGreat
namespace Co
open Dt (D)
theorem here_down{opn:Bool}{c:C}{deep deep0:Nat}{win:List Int}{top:Bool}{cnt cnt0:Nat}{bd:List Int}(hd:deep0≤deep)(hc:cnt0≤cnt)(h:here opn c deep win top cnt bd=0):here opn c deep0 win top cnt0 bd=0:=by
 unfold here at h ⊢;split at h
 ·cases h
 rename_i h1;rw[if_neg (by omega)];split at h
 ·cases h
 rename_i h2;rw[if_neg (by omega)];exact h
mutual
theorem goes_down{opn:Bool}:∀(c:C) {deep deep0:Nat} {win:List Int} {top:Bool} {cnt cnt0:Nat} {bd:List Int} {r:Nat×List Int},deep0≤deep→cnt0≤cnt→goes opn c deep win top cnt bd=(0,r)→∃n,n≤r.1∧goes opn c deep0 win top cnt0 bd=(0,n,r.2)
 | .mk k n s d p l,deep,deep0,win,top,cnt,cnt0,bd,r,hd,hc,h=>by
  obtain⟨h1,h2⟩:=goes_ok h;obtain⟨m,h3,h4⟩:=goesL_down l (deep0:=deep0+1) (cnt0:=cnt0+1) (by omega) (by omega) h2;refine⟨m,h3,?_⟩;rw[goes,if_neg (by rw[here_down hd hc h1];decide)];exact h4
theorem goesL_down{opn:Bool}:∀(l:List C) {deep deep0:Nat} {win:List Int} {top:Bool} {cnt cnt0:Nat} {bd:List Int} {r:Nat×List Int},deep0≤deep→cnt0≤cnt→goesL opn l deep win top cnt bd=(0,r)→∃n,n≤r.1∧goesL opn l deep0 win top cnt0 bd=(0,n,r.2)
 |[],deep,deep0,win,top,cnt,cnt0,bd,r,hd,hc,h=>by
  rw[goesL]at h;cases h;exact⟨cnt0,hc,by rw[goesL]⟩
 |c :: l,deep,deep0,win,top,cnt,cnt0,bd,r,hd,hc,h=>by
  obtain⟨q,h1,h2⟩:=goesL_ok h;obtain⟨m,h3,h4⟩:=goes_down c hd hc h1;obtain⟨m2,h5,h6⟩:=goesL_down l (cnt0:=m) hd h3 h2;refine⟨m2,h5,?_⟩;rw[goesL,h4,if_neg (by simp)];exact h6
end
mutual
theorem goes_part{opn:Bool}:∀(c:C) {deep:Nat} {win:List Int} {top:Bool} {cnt:Nat} {bd:List Int} {r:Nat×List Int},goes opn c deep win top cnt bd=(0,r)→1≤deep→∀y∈parts c,∃deep' win' top' cnt' bd' r',1≤deep'∧goes opn y deep' win' top' cnt' bd'=(0,r')
 | .mk k n s d p l,deep,win,top,cnt,bd,r,h,hd,y,hy=>by
  rw[parts]at hy;rcases List.mem_cons.1 hy with rfl|hy
  ·exact⟨deep,win,top,cnt,bd,r,hd,h⟩
  ·obtain⟨h1,h2⟩:=goes_ok h;exact goesL_part l h2 (by omega) y hy
theorem goesL_part{opn:Bool}:∀(l:List C) {deep:Nat} {win:List Int} {top:Bool} {cnt:Nat} {bd:List Int} {r:Nat×List Int},goesL opn l deep win top cnt bd=(0,r)→1≤deep→∀y∈partsL l,∃deep' win' top' cnt' bd' r',1≤deep'∧goes opn y deep' win' top' cnt' bd'=(0,r')
 |[],_,_,_,_,_,_,_,_,y,hy=>by
  rw[partsL]at hy;cases hy
 |c :: l,deep,win,top,cnt,bd,r,h,hd,y,hy=>by
  obtain⟨q,h1,h2⟩:=goesL_ok h;rw[partsL]at hy;rcases List.mem_append.1 hy with hy|hy
  ·exact goes_part c h1 hd y hy
  ·exact goesL_part l h2 hd y hy
end
theorem same_part{c y:C}(hy:y∈all c):same y y=true:=by
 have h:openE c=0:=by
  unfold all at hy;split at hy
  ·rename_i h;exact h.1
  ·cases hy
 have hp:y∈parts c:=by
  unfold all at hy;split at hy
  ·exact hy
  ·cases hy
 have h1:goes true c 1 [] true 0 []=(0,(goes true c 1 [] true 0 []).2):=Prod.ext h rfl;obtain⟨deep,win,top,cnt,bd,r,hd,h2⟩:=goes_part c h1 (Nat.le_refl 1) y hp;obtain⟨n,-,h3⟩:=goes_down y (deep0:=1) (cnt0:=0) hd (Nat.zero_le _) h2;exact(same_iff ⟨true,1,win,top,bd,(n,r.2),by omega,h3,by omega⟩).2 rfl
mutual
theorem wf_mem:∀c:C,Wf c→∀x∈parts c,Wf x
 | .mk k n s d p l,h,x,hx=>by
  rw[parts]at hx;rcases List.mem_cons.1 hx with rfl|hx
  ·exact h
  ·rw[Wf]at h;exact wfs_mem l h.2.2.2.2.2.2 x hx
theorem wfs_mem:∀l:List C,Wfs l→∀x∈partsL l,Wf x
 |[],_,x,hx=>by rw[partsL]at hx;cases hx
 |c :: l,h,x,hx=>by
  rw[Wfs]at h;rw[partsL]at hx;rcases List.mem_append.1 hx with hx|hx
  ·exact wf_mem c h.1 x hx
  ·exact wfs_mem l h.2 x hx
end
theorem row_mono{F G:Nat→Prop}{w:World}{v:Value}{l:List C}(hFG:∀b,F b→G b)(h:Row F w v l):Row G w v l:=by
 obtain⟨a,c,h1,h2,h3⟩:=h;refine⟨a,c,h1,h2,fun hn=> ?_⟩;obtain⟨b,o,g1,g2,g3,g4⟩:=h3 hn;exact⟨b,o,g1,hFG b g2,g3,Reps.mono (fun b hb _=>hFG b hb) l g4⟩
end Co
end Go.Proofs.YtfjmlfbohenmfaaGreat
namespace Go.Proofs.YtfjmlfbohenmfaaGreat
open Go.RowKit
attribute [local go_sem] Oper.semAt_some
namespace Co
theorem infoStrC:(Tryz.prog.info? 9).map (fun i=>(i.zero,i.size,i.bytes))=some (some (.string ⟨#[]⟩),1,16):=by kernel_rfl
def ltB(a b:ByteArray):Prop:=a.data.toList<b.data.toList
instance (a b:ByteArray):Decidable (ltB a b):=inferInstanceAs (Decidable (a.data.toList<b.data.toList))
def putB:List ByteArray→ByteArray→List ByteArray
 |[],n=>[n]
 |x :: r,n=>if ltB n x then n :: x :: r else if n=x then x :: r else x :: putB r n
def strs(l:List ByteArray):List Value:=l.map Value.string
theorem ltB_irr{a:ByteArray}:¬ltB a a:=by unfold ltB;exact List.lt_irrefl _
theorem ltB_asymm{a b:ByteArray}(h:ltB a b):¬ltB b a:=fun h2=>ltB_irr (List.lt_trans h h2)
theorem ltB_tri{a b:ByteArray}(h:¬ltB a b)(h2:¬a=b):ltB b a:=nm_lt h (fun e=>h2 (Dt.bytes_ext e))
theorem ltB_bool{a b:ByteArray}:Op.bytesLess a.toList b.toList=decide (ltB a b):=by
 unfold ltB;rw[bytesLess_eq,Lib.toList_data,Lib.toList_data];exact decide_eq_decide.2 Iff.rfl
theorem own_rowT{w:World}{base:Nat}{v:Value}{l:List ByteArray}(h:w.ownsRow base 9 1 v l.length (l.map Value.string)):Cd.NameRow (fun k=>base≤k) w v l:=by
 have e:l.map Value.string=(l.map (fun b=>b.data.toList)).map encStr:=by
  rw[List.map_map];refine List.map_congr_left (fun b _=> ?_);simp[encStr]
 have hl:l.length=(l.map (fun b=>b.data.toList)).length:=by simp
 rw[e,hl]at h;have h2:=nameRow_of_own h;rw[List.map_map]at h2;have e3:(l.map ((fun x:Nm=>(⟨x.toArray⟩:ByteArray)) ∘ (fun b:ByteArray=>b.data.toList)))=l:=by
  conv=>rhs;rw[←List.map_id l]
  refine List.map_congr_left (fun b _=> ?_);exact str_list b
 rw[e3]at h2;exact h2
def PutAtT(l:List ByteArray)(n:ByteArray)(i:Nat)(done:Bool)(out:List ByteArray):Prop:=if done then out++l.drop i=putB l n else(∀x∈l.take i,ltB x n)∧out=l.take i
theorem put_skipT:∀(l:List ByteArray) (n:ByteArray) (i:Nat),(∀x∈l.take i,ltB x n)→putB l n=l.take i++putB (l.drop i) n
 |[],n,i,_=>by simp
 |a :: r,n,0,_=>by simp
 |a :: r,n,i+1,h=>by
  have h1:ltB a n:=h a (by simp);rw[putB,if_neg (ltB_asymm h1),if_neg (fun e=>ltB_irr (e▸h1)),List.take_succ_cons,List.drop_succ_cons,put_skipT r n i (fun x hx=>h x (by rw[List.take_succ_cons];exact List.mem_cons_of_mem _ hx))]
  rfl
theorem put_lenT(l:List ByteArray)(n:ByteArray):(putB l n).length≤l.length+1:=by
 induction l with
 |nil=>simp[putB]
 |cons a r ih=>
  rw[putB];split
  ·simp
  split
  ·simp
  ·simp;omega
structure PInvT(w:World)(l:List ByteArray)(n:ByteArray)(i:Nat)(done:Bool)(al:Option Addr)(m ql:Nat)(wx:World):Prop where
 row:∃out,m=out.length∧wx.ownsRow w.heap.size 9 1 (.slice al m ql) m (strs out)∧PutAtT l n i done out∧m≤i+1
 bl:Below w.heap.size w wx
theorem own_snocT{w:World}{base n:Nat}{v:Value}{out:List ByteArray}{x:ByteArray}(h:w.ownsRow base 9 1 v n (strs out++[.string x])):w.ownsRow base 9 1 v n (strs (out++[x])):=by
 unfold strs at h ⊢;rw[List.map_append];exact h
theorem grown_blT{w wx wA w5:World}{al:Option Addr}{m ql:Nat}{xs:List Value}(hbl:Below w.heap.size w wx)(ho:wx.ownsRow w.heap.size 9 1 (.slice al m ql) m xs)(hA:Below wx.heap.size wx wA)(hg:wA.grownBy w5 (Value.slice al m ql).ownBlock):Below w.heap.size w w5:=
 hbl.trans ((grown_keep2 hA hg).to_below (fun k e=>(Dt.own_lt ho k e).1) hbl.size)
end Co
theorem putTextR_any{F:Nat→Prop}(v:Value)(l:List ByteArray)(n:ByteArray)(w:World)(h:Cd.NameRow F w v l)(hl:l.length≤1000000):
  Calls Tryz.prog 56 #[v,.string n] w fun e w'=>∃v',e= .returned v'∧Cd.NameRow (fun k=>w.heap.size≤k) w' v' (Co.putB l n)∧Below w.heap.size w w':=by
 obtain⟨a,c,rfl,hlc,hpt⟩:=h;have h:Cd.NameRow F w (.slice a l.length c) l:=⟨a,c,rfl,hlc,hpt⟩
 obtain⟨j0,hj,hj0,hj1,hj2⟩:=info_parts Co.infoStrC;have HJ:=zh hj;have HJ0:=zh hj0;have HJ1:=zh hj1;have HJ2:=zh hj2;have HI:=zh h;have HINV:Hid (Co.PInvT w l n 0 false none 0 0 w):=⟨⟨[],rfl,World.ownsRow_nil _ _ _ _,by unfold Co.PutAtT;rw[if_neg (by simp)];simp,by omega⟩,Below.refl _ _⟩
 clear hj hj0 hj1 hj2 h hpt hlc;go_enter Tryz.func56,Tryz.ntmps56;go_wp2
 go_loopw [5,6,7] (fun v5 v6 v7 wr=>∃(i m ql:Nat) (al:Option Addr) (dn:Bool),v5= .slice al m ql∧v6= .bool dn∧v7= .int .i64 i∧i≤l.length∧Hid (Co.PInvT w l n i dn al m ql wr)) (fun _ _ v7 _=>l.length - (intOf v7).toNat)
 case atStart=>exact⟨0,0,0,none,false,rfl,rfl,rfl,by omega,HINV⟩
 case round=>
  clear HINV;obtain⟨i,m,ql,al,dn,rfl,rfl,rfl,hi,HP⟩:=hrel;obtain⟨out,hm,hown,hput,hmi⟩:=HP.out.row;subst hm;have HO:=zh hown;have HPU:=zh hput;have HB:=zh HP.out.bl;have HWS:Hid (w.heap.size≤wr.heap.size):=HB.out.size;clear hown hput;by_cases hlt:i<l.length
  case neg=>
   have hge:(l.length:Int)≤(i:Int):=by omega
   obtain rfl:i=l.length:=by omega
   cases dn with
   |true=>
    have HF:Hid (Cd.NameRow (fun k=>w.heap.size≤k) wr (.slice al out.length ql) (Co.putB l n)):=by
     have h:=HPU.out;unfold Co.PutAtT at h;rw[if_pos rfl,List.drop_length,List.append_nil]at h;rw[←h];exact Co.own_rowT HO.out
    go_wp2;go_ret;exact⟨_,rfl,HF.out,HB.out⟩
   |false=>
    have HE:Hid (Co.putB l n=out++[n]):=by
     have h:=HPU.out;unfold Co.PutAtT at h;rw[if_neg (by simp),List.take_length]at h;show _=_;rw[Co.put_skipT l n l.length (by rw[List.take_length];exact h.1),List.take_length,List.drop_length,h.2,Co.putB]
    have hWA:wr.alloc (.cells #[.string n] 9)=wr.alloc (.cells #[.string n] 9):=rfl;obtain⟨hbA,hsA⟩:=new_below hWA;have HS:Hid (Ap.Src (wr.alloc (.cells #[.string n] 9)) (.slice (some ⟨wr.heap.size,0,none⟩) 1 1) 1 [.string n]):=Co.src1p hWA;have HRO:Hid ((wr.alloc (.cells #[.string n] 9)).ownsRow w.heap.size 9 1 (.slice al out.length ql) out.length (Co.strs out)):=Dt.own_keep (S:=fun _=>False) HO.out (keep_of_below hbA) (fun _ _ h=>h);have HBA:=zh hbA;have HSZ:Hid (w.heap.size≤(wr.alloc (.cells #[.string n] 9)).heap.size):=by have h1:=hbA.size;have h2:=HWS.out;show w.heap.size≤_;omega
    clear hWA hbA hsA;have hm1:out.length+1≤maxLen:=by unfold maxLen;omega
    have hm2:(out.length+1)*16≤140737488355328:=by omega
    go_wp2_with(at_builtin;refine Ap.list rfl _ _ 42 rfl w.heap.size 9 j0 (.string ⟨#[]⟩) 1 16 Tryz.underlying42 HJ.out HJ0.out HJ1.out HJ2.out rfl (by decide) (.slice al out.length ql) out.length (Co.strs out) rfl HRO.out (.slice (some ⟨wr.heap.size,0,none⟩) 1 1) 1 [.string n] rfl HS.out rfl (by simp[Value.oneCell']) hm1 hm2 HSZ.out ?_;intro v' w5 hown hg hat;obtain⟨al',ql',rfl⟩:=Dt.row_form hown;have HOWN:=zh hown;have HGR:=zh hg;have HAT:=zh hat;clear hown hg hat)
    have HF:Hid (Cd.NameRow (fun k=>w.heap.size≤k) w5 (.slice al' (out.length+1) ql') (Co.putB l n)∧Below w.heap.size w w5):=by
     refine⟨?_,Co.grown_blT HB.out HO.out HBA.out HGR.out⟩;rw[HE.out];refine Co.own_rowT ?_;rw[List.length_append,List.map_append];exact HOWN.out
    go_wp2;go_ret;exact⟨_,rfl,HF.out.1,HF.out.2⟩
  have hlti:(i:Int)<(l.length:Int):=by omega
  have hI2:=HI.out.keep (S:=fun _=>False) (keep_of_below HB.out) (fun _ _ _ h=>h);obtain⟨_,_,he,_,hrow⟩:=hI2;injection he with he1 he2 he3
  subst he1;clear he2 he3;obtain⟨pb,po,rfl,hGp,hbl,hcell⟩:=hrow (by intro h0;rw[h0]at hlt;simp at hlt);have p0:=hcell i hlt;obtain⟨x,hx⟩:∃x,l[i]=x:=⟨_,rfl⟩
  rw[hx]at p0;have HXX:=zh hx;clear hrow hcell hx hGp hbl
  cases dn with
  |true=>
   have hWA:wr.alloc (.cells #[.string x] 9)=wr.alloc (.cells #[.string x] 9):=rfl;obtain⟨hbA,hsA⟩:=new_below hWA;have HS:Hid (Ap.Src (wr.alloc (.cells #[.string x] 9)) (.slice (some ⟨wr.heap.size,0,none⟩) 1 1) 1 [.string x]):=Co.src1p hWA;have HRO:Hid ((wr.alloc (.cells #[.string x] 9)).ownsRow w.heap.size 9 1 (.slice al out.length ql) out.length (Co.strs out)):=Dt.own_keep (S:=fun _=>False) HO.out (keep_of_below hbA) (fun _ _ h=>h);have HBA:=zh hbA;have HSZ:Hid (w.heap.size≤(wr.alloc (.cells #[.string x] 9)).heap.size):=by have h1:=hbA.size;have h2:=HWS.out;show w.heap.size≤_;omega
   clear hWA hbA hsA;have hm1:out.length+1≤maxLen:=by unfold maxLen;omega
   have hm2:(out.length+1)*16≤140737488355328:=by omega
   go_wp2_with(at_builtin;refine Ap.list rfl _ _ 42 rfl w.heap.size 9 j0 (.string ⟨#[]⟩) 1 16 Tryz.underlying42 HJ.out HJ0.out HJ1.out HJ2.out rfl (by decide) (.slice al out.length ql) out.length (Co.strs out) rfl HRO.out (.slice (some ⟨wr.heap.size,0,none⟩) 1 1) 1 [.string x] rfl HS.out rfl (by simp[Value.oneCell']) hm1 hm2 HSZ.out ?_;intro v' w5 hown hg hat;obtain⟨al',ql',rfl⟩:=Dt.row_form hown;have HOWN:=zh hown;have HGR:=zh hg;have HAT:=zh hat;clear hown hg hat)
   have HB5:=zh (Co.grown_blT HB.out HO.out HBA.out HGR.out);have HOWN2:Hid (w5.ownsRow w.heap.size 9 1 (.slice al' (out.length+1) ql') (out.length+1) (Co.strs (out++[x]))):=by
    have h:=HOWN.out;unfold Co.strs at h ⊢;rw[List.map_append];exact h
   clear p0;have HN:Hid (Co.PInvT w l n (i+1) true al' (out.length+1) ql' w5):=by
    refine⟨⟨out++[x],by rw[List.length_append];rfl,HOWN2.out,?_,by omega⟩,HB5.out⟩;have h:=HPU.out;unfold Co.PutAtT at h ⊢;rw[if_pos rfl]at h ⊢;rw[List.drop_eq_getElem_cons hlt,HXX.out]at h;rw[←h];simp
   go_wp2;go_roundw
   case rel=>exact⟨i+1,_,ql',al',true,rfl,rfl,by simp,by omega,HN⟩
   case measure=>simp[intOf];omega
  |false=>
   have hpu:(∀y∈l.take i,Co.ltB y n)∧out=l.take i:=by
    have h:=HPU.out;unfold Co.PutAtT at h;rw[if_neg (by simp)]at h;exact h
   have HPP:=zh hpu;clear hpu;have hoi:out.length≤i:=by rw[HPP.out.2,List.length_take];omega
   by_cases hle:Co.ltB n x∨n=x
   case neg=>
    have hb:Op.bytesLess n.toList x.toList=false:=by rw[Co.ltB_bool];exact decide_eq_false (fun e=>hle (.inl e))
    have s1:decide (n=x)=false:=decide_eq_false (fun e=>hle (.inr e));have s2:(n.data==x.data)=false:=by rw[beq_eq_false_iff_ne];intro e;exact hle (.inr (Dt.bytes_ext (by rw[e])))
    have s4:(n==x)=false:=s2;have s6:(n.toList==x.toList)=false:=by rw[ByteArray.toList_eq,ByteArray.toList_eq,beq_eq_false_iff_ne];exact fun e=>hle (.inr (Dt.bytes_ext e))
    have hWA:wr.alloc (.cells #[.string x] 9)=wr.alloc (.cells #[.string x] 9):=rfl;obtain⟨hbA,hsA⟩:=new_below hWA;have HS:Hid (Ap.Src (wr.alloc (.cells #[.string x] 9)) (.slice (some ⟨wr.heap.size,0,none⟩) 1 1) 1 [.string x]):=Co.src1p hWA;have HRO:Hid ((wr.alloc (.cells #[.string x] 9)).ownsRow w.heap.size 9 1 (.slice al out.length ql) out.length (Co.strs out)):=Dt.own_keep (S:=fun _=>False) HO.out (keep_of_below hbA) (fun _ _ h=>h);have HBA:=zh hbA;have HSZ:Hid (w.heap.size≤(wr.alloc (.cells #[.string x] 9)).heap.size):=by have h1:=hbA.size;have h2:=HWS.out;show w.heap.size≤_;omega
    clear hWA hbA hsA;have hm1:out.length+1≤maxLen:=by unfold maxLen;omega
    have hm2:(out.length+1)*16≤140737488355328:=by omega
    go_wp2_with(at_builtin;refine Ap.list rfl _ _ 42 rfl w.heap.size 9 j0 (.string ⟨#[]⟩) 1 16 Tryz.underlying42 HJ.out HJ0.out HJ1.out HJ2.out rfl (by decide) (.slice al out.length ql) out.length (Co.strs out) rfl HRO.out (.slice (some ⟨wr.heap.size,0,none⟩) 1 1) 1 [.string x] rfl HS.out rfl (by simp[Value.oneCell']) hm1 hm2 HSZ.out ?_;intro v' w5 hown hg hat;obtain⟨al',ql',rfl⟩:=Dt.row_form hown;have HOWN:=zh hown;have HGR:=zh hg;have HAT:=zh hat;clear hown hg hat)
    have HB5:=zh (Co.grown_blT HB.out HO.out HBA.out HGR.out);have HOWN2:Hid (w5.ownsRow w.heap.size 9 1 (.slice al' (out.length+1) ql') (out.length+1) (Co.strs (out++[x]))):=by
     have h:=HOWN.out;unfold Co.strs at h ⊢;rw[List.map_append];exact h
    clear p0;have HN:Hid (Co.PInvT w l n (i+1) false al' (out.length+1) ql' w5):=by
     refine⟨⟨out++[x],by rw[List.length_append];rfl,HOWN2.out,?_,by omega⟩,HB5.out⟩;unfold Co.PutAtT;rw[if_neg (by simp),List.take_succ_eq_append_getElem hlt,HXX.out,←HPP.out.2];refine⟨fun y hy=> ?_,rfl⟩;rcases List.mem_append.1 hy with hy|hy
     ·exact HPP.out.1 y (by rw[←HPP.out.2];exact hy)
     ·obtain rfl:y=x:=by simpa using hy
      exact Co.ltB_tri (fun e=>hle (.inl e)) (fun e=>hle (.inr e))
    go_wp2;go_roundw
    case rel=>exact⟨i+1,_,ql',al',false,rfl,rfl,by simp,by omega,HN⟩
    case measure=>simp[intOf];omega
   by_cases hlx:Co.ltB n x
   ·have hb2:Op.bytesLess n.toList x.toList=true:=by rw[Co.ltB_bool];exact decide_eq_true hlx
    have HCELL:Hid (∀w4,Below w.heap.size w w4→w4.cell? ⟨pb,po+i,none⟩=some (.string x)):=fun w4 hb=>by
     have hk:=(HI.out.keep (S:=fun _=>False) (keep_of_below hb) (fun _ _ _ h=>h))
     obtain⟨_,_,he,_,hrow⟩:=hk;injection he with he1 he2 he3
     obtain⟨pb',po',e,hGp,hbl,hcell⟩:=hrow (by intro h0;rw[h0]at hlt;simp at hlt);rw[←he1]at e;cases e;rw[←HXX.out];exact hcell i hlt
    have hWA:wr.alloc (.cells #[.string n] 9)=wr.alloc (.cells #[.string n] 9):=rfl;obtain⟨hbA,hsA⟩:=new_below hWA;have HS:Hid (Ap.Src (wr.alloc (.cells #[.string n] 9)) (.slice (some ⟨wr.heap.size,0,none⟩) 1 1) 1 [.string n]):=Co.src1p hWA;have HRO:Hid ((wr.alloc (.cells #[.string n] 9)).ownsRow w.heap.size 9 1 (.slice al out.length ql) out.length (Co.strs out)):=Dt.own_keep (S:=fun _=>False) HO.out (keep_of_below hbA) (fun _ _ h=>h);have HBA:=zh hbA;have HSZ:Hid (w.heap.size≤(wr.alloc (.cells #[.string n] 9)).heap.size):=by have h1:=hbA.size;have h2:=HWS.out;show w.heap.size≤_;omega
    clear hWA hbA hsA;have hm1:out.length+1≤maxLen:=by unfold maxLen;omega
    have hm2:(out.length+1)*16≤140737488355328:=by omega
    go_wp2_with(first|(at_builtin;refine Ap.list rfl _ _ 42 rfl w.heap.size 9 j0 (.string ⟨#[]⟩) 1 16 Tryz.underlying42 HJ.out HJ0.out HJ1.out HJ2.out rfl (by decide) (.slice al out.length ql) out.length (Co.strs out) rfl HRO.out (.slice (some ⟨wr.heap.size,0,none⟩) 1 1) 1 [.string n] rfl HS.out rfl (by simp[Value.oneCell']) hm1 hm2 HSZ.out ?_;intro v' w4 hown hg hat;obtain⟨al',ql',rfl⟩:=Dt.row_form hown;have HOWN:=zh hown;have HGR:=zh hg;have HAT:=zh hat;have HOWN4:Hid (w4.ownsRow w.heap.size 9 1 (.slice al' (out.length+1) ql') (out.length+1) (Co.strs (out++[n]))):=Co.own_snocT hown;have HB4:Hid (Below w.heap.size w w4):=Co.grown_blT HB.out HO.out HBA.out hg;have p4:=HCELL.out _ HB4.out;clear hown hg hat p0 HS HRO HBA HSZ HOWN HGR HAT hm1 hm2;have hWA:(w4.alloc (.cells #[.string x] 9))=(w4.alloc (.cells #[.string x] 9)):=rfl;obtain⟨hbA,hsA⟩:=new_below hWA;have HS2:Hid (Ap.Src (w4.alloc (.cells #[.string x] 9)) (.slice (some ⟨w4.heap.size,0,none⟩) 1 1) 1 [.string x]):=Co.src1p hWA;have HRO2:Hid ((w4.alloc (.cells #[.string x] 9)).ownsRow w.heap.size 9 1 (.slice al' (out.length+1) ql') (out.length+1) (Co.strs (out++[n]))):=Dt.own_keep (S:=fun _=>False) HOWN4.out (keep_of_below hbA) (fun _ _ h=>h);have HBA2:=zh hbA;have HSZ2:Hid (w.heap.size≤(w4.alloc (.cells #[.string x] 9)).heap.size):=zh (Nat.le_trans HB4.out.size hbA.size);clear hWA hbA hsA;have hn1:out.length+1+1≤maxLen:=(by unfold maxLen;omega);have hn2:(out.length+1+1)*16≤140737488355328:=(by omega))|(at_builtin;refine Ap.list rfl _ _ 42 rfl w.heap.size 9 j0 (.string ⟨#[]⟩) 1 16 Tryz.underlying42 HJ.out HJ0.out HJ1.out HJ2.out rfl (by decide) (.slice al' (out.length+1) ql') (out.length+1) (Co.strs (out++[n])) rfl HRO2.out (.slice (some ⟨w4.heap.size,0,none⟩) 1 1) 1 [.string x] rfl HS2.out rfl (by simp[Value.oneCell']) hn1 hn2 HSZ2.out ?_;intro v' w5 hown hg hat;obtain⟨al5,ql5,rfl⟩:=Dt.row_form hown;have HOWN:=zh hown;have HGR:=zh hg;have HAT:=zh hat;clear hown hg hat p4))
    have HB5:=zh (Co.grown_blT HB4.out HOWN4.out HBA2.out HGR.out);have HOWN2:Hid (w5.ownsRow w.heap.size 9 1 (.slice al5 (out.length+1+1) ql5) (out.length+1+1) (Co.strs (out++[n]++[x]))):=by
     have h:=HOWN.out;unfold Co.strs at h ⊢;rw[List.map_append (l₁:=out++[n])];exact h
    have HN:Hid (Co.PInvT w l n (i+1) true al5 (out.length+1+1) ql5 w5):=by
     refine⟨⟨out++[n]++[x],by rw[List.length_append,List.length_append];rfl,HOWN2.out,?_,by omega⟩,HB5.out⟩;unfold Co.PutAtT;rw[if_pos rfl,Co.put_skipT l n i HPP.out.1,←HPP.out.2,List.drop_eq_getElem_cons hlt,HXX.out,Co.putB,if_pos hlx];simp
    go_wp2;go_roundw
    case rel=>exact⟨i+1,_,ql5,al5,true,rfl,rfl,by simp,by omega,HN⟩
    case measure=>simp[intOf];omega
   ·have hb2:Op.bytesLess n.toList x.toList=false:=by rw[Co.ltB_bool];exact decide_eq_false hlx
    have hnx:n=x:=hle.resolve_left hlx;have s1:decide (n=x)=true:=decide_eq_true hnx;have s2:(n.data==x.data)=true:=by rw[hnx];simp
    have s4:(n==x)=true:=s2;have s6:(n.toList==x.toList)=true:=by rw[hnx];simp
    have HNX:=zh hnx;clear hnx;have hWA:wr.alloc (.cells #[.string x] 9)=wr.alloc (.cells #[.string x] 9):=rfl;obtain⟨hbA,hsA⟩:=new_below hWA;have HS:Hid (Ap.Src (wr.alloc (.cells #[.string x] 9)) (.slice (some ⟨wr.heap.size,0,none⟩) 1 1) 1 [.string x]):=Co.src1p hWA;have HRO:Hid ((wr.alloc (.cells #[.string x] 9)).ownsRow w.heap.size 9 1 (.slice al out.length ql) out.length (Co.strs out)):=Dt.own_keep (S:=fun _=>False) HO.out (keep_of_below hbA) (fun _ _ h=>h);have HBA:=zh hbA;have HSZ:Hid (w.heap.size≤(wr.alloc (.cells #[.string x] 9)).heap.size):=by have h1:=hbA.size;have h2:=HWS.out;show w.heap.size≤_;omega
    clear hWA hbA hsA;have hm1:out.length+1≤maxLen:=by unfold maxLen;omega
    have hm2:(out.length+1)*16≤140737488355328:=by omega
    go_wp2_with(at_builtin;refine Ap.list rfl _ _ 42 rfl w.heap.size 9 j0 (.string ⟨#[]⟩) 1 16 Tryz.underlying42 HJ.out HJ0.out HJ1.out HJ2.out rfl (by decide) (.slice al out.length ql) out.length (Co.strs out) rfl HRO.out (.slice (some ⟨wr.heap.size,0,none⟩) 1 1) 1 [.string x] rfl HS.out rfl (by simp[Value.oneCell']) hm1 hm2 HSZ.out ?_;intro v' w5 hown hg hat;obtain⟨al',ql',rfl⟩:=Dt.row_form hown;have HOWN:=zh hown;have HGR:=zh hg;have HAT:=zh hat;clear hown hg hat)
    have HB5:=zh (Co.grown_blT HB.out HO.out HBA.out HGR.out);have HOWN2:Hid (w5.ownsRow w.heap.size 9 1 (.slice al' (out.length+1) ql') (out.length+1) (Co.strs (out++[x]))):=by
     have h:=HOWN.out;unfold Co.strs at h ⊢;rw[List.map_append];exact h
    clear p0;have HN:Hid (Co.PInvT w l n (i+1) true al' (out.length+1) ql' w5):=by
     refine⟨⟨out++[x],by rw[List.length_append];rfl,HOWN2.out,?_,by omega⟩,HB5.out⟩;unfold Co.PutAtT;rw[if_pos rfl,Co.put_skipT l n i HPP.out.1,←HPP.out.2,List.drop_eq_getElem_cons hlt,HXX.out,Co.putB,if_neg hlx,if_pos HNX.out];simp
    go_wp2;go_roundw
    case rel=>exact⟨i+1,_,ql',al',true,rfl,rfl,by simp,by omega,HN⟩
    case measure=>simp[intOf];omega
end Go.Proofs.YtfjmlfbohenmfaaGreat
namespace Go.Proofs.YtfjmlfbohenmfaaGreat
open Go.RowKit Go.Sort
attribute [local go_sem] Oper.semAt_some
namespace Co
theorem foldl_put_len:∀(l acc:List Int),(l.foldl put acc).length≤acc.length+l.length
 |[],acc=>by simp
 |n :: r,acc=>by
  have h1:=foldl_put_len r (put acc n);have h2:=put_len acc n;rw[List.foldl_cons,List.length_cons];omega
theorem setsOf_len:∀l:List C,(setsOf l).length≤l.length
 |[]=>by simp[setsOf]
 |x :: r=>by
  have h:=setsOf_len r;unfold setsOf at h ⊢;rw[List.flatMap_cons,List.length_append,List.length_cons];have h2:(if x.k=4 then [x.n]else []).length≤1:=by split <;> simp
  omega
theorem puts_len(l:List C):(puts (setsOf l)).length≤l.length:=by
 have h1:=foldl_put_len (setsOf l) [];have h2:=setsOf_len l;unfold puts;simp only[List.length_nil]at h1;omega
theorem puts_snoc(l:List C)(x:C):puts (setsOf (l++[x]))=if x.k=4 then put (puts (setsOf l)) x.n else puts (setsOf l):=by
 rw[setsOf_app];unfold puts setsOf;rw[List.flatMap_cons,List.flatMap_nil,List.append_nil,List.foldl_append];split <;> rfl
def globsB(l:List C):List ByteArray:=l.flatMap fun x=>if x.k=3∨x.k=5∨x.k=6 then [x.s]else []
def putsB(l:List C):List ByteArray:=(globsB l).foldl putB []
theorem foldl_putB_len:∀(l acc:List ByteArray),(l.foldl putB acc).length≤acc.length+l.length
 |[],acc=>by simp
 |n :: r,acc=>by
  have h1:=foldl_putB_len r (putB acc n);have h2:=put_lenT acc n;rw[List.foldl_cons,List.length_cons];omega
theorem globsB_len:∀l:List C,(globsB l).length≤l.length
 |[]=>by simp[globsB]
 |x :: r=>by
  have h:=globsB_len r;unfold globsB at h ⊢;rw[List.flatMap_cons,List.length_append,List.length_cons];have h2:(if x.k=3∨x.k=5∨x.k=6 then [x.s]else []).length≤1:=by split <;> simp
  omega
theorem putsB_len(l:List C):(putsB l).length≤l.length:=by
 have h1:=foldl_putB_len (globsB l) [];have h2:=globsB_len l;unfold putsB;simp only[List.length_nil]at h1;omega
theorem putsB_snoc(l:List C)(x:C):putsB (l++[x])=if x.k=3∨x.k=5∨x.k=6 then putB (putsB l) x.s else putsB l:=by
 unfold putsB globsB;rw[List.flatMap_append,List.flatMap_cons,List.flatMap_nil,List.append_nil,List.foldl_append];split <;> rfl
theorem putB_map(n:ByteArray):∀l:List ByteArray,(putB l n).map (fun b=>b.data.toList)=putT (l.map fun b=>b.data.toList) n.data.toList
 |[]=>rfl
 |x :: r=>by
  rw[putB,List.map_cons,putT];by_cases h:ltB n x
  ·rw[if_pos h,if_pos (show n.data.toList<x.data.toList from h)];rfl
  ·rw[if_neg h,if_neg (show ¬n.data.toList<x.data.toList from h)];by_cases h2:n=x
   ·rw[if_pos h2,if_pos (by rw[h2])];rfl
   ·rw[if_neg h2,if_neg (fun e=>h2 (Dt.bytes_ext e)),List.map_cons,putB_map n r]
theorem foldl_putB_map:∀(l acc:List ByteArray),(l.foldl putB acc).map (fun b=>b.data.toList)=(l.map fun b=>b.data.toList).foldl putT (acc.map fun b=>b.data.toList)
 |[],acc=>rfl
 |n :: r,acc=>by rw[List.foldl_cons,List.map_cons,List.foldl_cons,foldl_putB_map r,putB_map]
theorem putsB_eq(l:List C):putsB l=(putsT (globsOf l)).map (fun x=>(⟨x.toArray⟩:ByteArray)):=by
 have h:=foldl_putB_map (globsB l) [];have e:(globsB l).map (fun b=>b.data.toList)=globsOf l:=by
  unfold globsB globsOf;rw[List.map_flatMap];congr 1;funext x;split <;> rfl
 rw[e]at h;have h2:=congrArg (List.map (fun x:Nm=>(⟨x.toArray⟩:ByteArray))) h;rw[List.map_map]at h2;have e3:((globsB l).foldl putB []).map ((fun x:Nm=>(⟨x.toArray⟩:ByteArray)) ∘ (fun b:ByteArray=>b.data.toList))=(globsB l).foldl putB []:=by
  conv=>rhs;rw[←List.map_id ((globsB l).foldl putB [])]
  exact List.map_congr_left (fun b _=>str_list b)
 rw[e3]at h2;exact h2
theorem take_snoc{ps:List PC}{i:Nat}(h:i<ps.length):(ps.take (i+1)).map PC.c=(ps.take i).map PC.c++[ps[i].c]:=by
 rw[List.take_succ_eq_append_getElem h,List.map_append]
 rfl
theorem take_len{ps:List PC}{i:Nat}(h:i≤ps.length):((ps.take i).map PC.c).length=i:=by rw[List.length_map,List.length_take];omega
end Co
theorem rSet07_any{G:Nat→Prop}(c:Co.C)(vm vl vt vp vk:Value)(w:World)(hW:Co.Wf c)(hR:Co.Rep G w c vm vl vt vp vk):
  Calls Tryz.prog 27 #[Co.V c vm vl vt vp vk] w fun e w'=>∃v,e= .returned v∧Dt.IRow (fun k=>w.heap.size≤k) w' v (Co.setV c)∧Below w.heap.size w w':=by
 obtain⟨w1,hw1⟩:∃w1,w.alloc (.cells #[.int .i64 c.k,.int .i64 c.n,.string c.s,.int .i64 c.d.k,.int .i64 c.d.n,.string c.d.s,vm,vl,vt,vp,vk] 28)=w1:=⟨_,rfl⟩
 obtain⟨hb1,hs1⟩:=new_below hw1;have hal:=rAll07_any c _ _ _ _ _ w1 hW (hR.below hb1);unfold Co.V at hal ⊢;have Hc:=zh (Hp.new hw1);have HB1:=zh hb1;have HR:=zh hR;have HW:=zh hW;obtain⟨y0,y1,y2,y3,y4,y5,y6,y7,y8,y9,y10⟩:=Hc.out.c11;clear hb1 hs1 hR hW;go_enter Tryz.func27,Tryz.ntmps27;go_wp2_with fail
 try rw[hw1]
 refine hal.mono ?_;rintro e w2 ⟨v,ps,rfl,hown,hmap,hnil,-,hb2⟩;have HB2:Hid (Below w.heap.size w w2):=btr HB1.out hb2;have HPS:Hid (ps.length≤8192):=by
  have h:=Co.all_len c;rw[←hmap,List.length_map]at h;exact h
 have HMAP:=zh hmap;obtain⟨av,cv,rfl⟩:=Dt.row_form hown;have HOW:=zh hown;have HI0:Hid (Dt.IRow (fun k=>w.heap.size≤k) w2 (.slice none 0 0) (Co.puts (Co.setsOf ((ps.take 0).map Co.PC.c)))∧Below w2.heap.size w2 w2):=⟨⟨none,0,rfl,Nat.le_refl _,fun h=>absurd rfl h⟩,Below.refl _ _⟩
 clear hal hown hmap hnil hw1 hb2 Hc;clear y0 y1 y2 y3 y4 y5 y6 y7 y8 y9 y10;go_wp2
 go_loopw [4,5] (fun v4 v5 wr=>∃(i:Nat) (ov:Value),ov=v4∧v5= .int .i64 i∧i≤ps.length∧Hid (Dt.IRow (fun k=>w.heap.size≤k) wr ov (Co.puts (Co.setsOf ((ps.take i).map Co.PC.c)))∧Below w2.heap.size w2 wr)) (fun _ v5 _=>ps.length - (intOf v5).toNat)
 case atStart=>exact⟨0,_,rfl,rfl,by omega,HI0⟩
 case round=>
  clear HI0;obtain⟨i,ov,hov,rfl,hi,HI⟩:=hrel;subst hov;have HBW:Hid (Below w.heap.size w wr):=HB2.out.trans (HI.out.2.mono HB2.out.size);by_cases hlt:i<ps.length
  case neg=>
   have hge:(ps.length:Int)≤(i:Int):=by omega
   obtain rfl:i=ps.length:=by omega
   have HE:Hid (Dt.IRow (fun k=>w.heap.size≤k) wr ov (Co.setV c)):=by
    have h:=HI.out.1;rw[List.take_length,HMAP.out]at h;exact h
   go_wp2;go_ret;exact⟨_,rfl,HE.out,HBW.out⟩
  have hlti:(i:Int)<(ps.length:Int):=by omega
  have hl8:ps.length≤8192:=HPS.out;have how:wr.ownsRow w1.heap.size 28 11 (.slice av ps.length cv) ps.length (Co.flatC ps):=Dt.own_keep (S:=fun _=>False) HOW.out (keep_of_below HI.out.2) (fun _ _ h=>h);obtain⟨g',c',he,-,hel⟩:=Co.part_at how i hlt;injection he with he1 he2 he3
  subst he1;clear he2 he3;obtain⟨x,hx⟩:∃x,ps[i].c=x:=⟨_,rfl⟩
  rw[hx]at hel;obtain⟨e0,e1,e2,-,-,-,-,-,-,-,-⟩:=hel;have HXX:=zh hx;have HLI:Hid (i<ps.length):=hlt;clear how hx;by_cases hk:x.k=4
  ·have t1:(x.k==4)=true:=by rw[hk];rfl
   have hpl:(Co.puts (Co.setsOf ((ps.take i).map Co.PC.c))).length≤1000000:=by
    have h:=Co.puts_len ((ps.take i).map Co.PC.c);rw[Co.take_len hi]at h;omega
   have hpu:=putR_any ov _ x.n wr HI.out.1 hpl;have HKK:Hid (x.k=4):=hk;clear hpl hk;go_wp2_with fail
   refine hpu.mono ?_;rintro e w9 ⟨v',rfl,hv',hb9⟩;have HI2:Hid (Dt.IRow (fun k=>w.heap.size≤k) w9 v' (Co.puts (Co.setsOf ((ps.take (i+1)).map Co.PC.c)))∧Below w2.heap.size w2 w9):=by
    refine⟨?_,HI.out.2.trans (hb9.mono HI.out.2.size)⟩;rw[Co.take_snoc HLI.out,HXX.out,Co.puts_snoc,if_pos HKK.out];exact Co.irow_mono (fun b hb hl=>by have:=HBW.out.size;omega) hv'
   clear hpu hv' hb9 e0 e1 e2 t1;go_wp2;go_roundw
   case rel=>exact⟨i+1,v',rfl,by simp,by omega,HI2⟩
   case measure=>simp[intOf];omega
  ·have t1:(x.k==4)=false:=by simpa using hk
   have HI2:Hid (Dt.IRow (fun k=>w.heap.size≤k) wr ov (Co.puts (Co.setsOf ((ps.take (i+1)).map Co.PC.c)))∧Below w2.heap.size w2 wr):=by
    refine⟨?_,HI.out.2⟩;rw[Co.take_snoc HLI.out,HXX.out,Co.puts_snoc,if_neg hk];exact HI.out.1
   clear hk;go_wp2;go_roundw
   case rel=>exact⟨i+1,ov,rfl,by simp,by omega,HI2⟩
   case measure=>simp[intOf];omega
theorem rGlob07_any{G:Nat→Prop}(c:Co.C)(vm vl vt vp vk:Value)(w:World)(hW:Co.Wf c)(hR:Co.Rep G w c vm vl vt vp vk):
  Calls Tryz.prog 28 #[Co.V c vm vl vt vp vk] w fun e w'=>∃v,e= .returned v∧Cd.NameRow (fun k=>w.heap.size≤k) w' v ((Co.globV c).map fun x=>⟨x.toArray⟩)∧Below w.heap.size w w':=by
 obtain⟨w1,hw1⟩:∃w1,w.alloc (.cells #[.int .i64 c.k,.int .i64 c.n,.string c.s,.int .i64 c.d.k,.int .i64 c.d.n,.string c.d.s,vm,vl,vt,vp,vk] 28)=w1:=⟨_,rfl⟩
 obtain⟨hb1,hs1⟩:=new_below hw1;have hal:=rAll07_any c _ _ _ _ _ w1 hW (hR.below hb1);unfold Co.V at hal ⊢;have Hc:=zh (Hp.new hw1);have HB1:=zh hb1;have HR:=zh hR;have HW:=zh hW;obtain⟨y0,y1,y2,y3,y4,y5,y6,y7,y8,y9,y10⟩:=Hc.out.c11;clear hb1 hs1 hR hW;go_enter Tryz.func28,Tryz.ntmps28;go_wp2_with fail
 try rw[hw1]
 refine hal.mono ?_;rintro e w2 ⟨v,ps,rfl,hown,hmap,hnil,-,hb2⟩;have HB2:Hid (Below w.heap.size w w2):=btr HB1.out hb2;have HPS:Hid (ps.length≤8192):=by
  have h:=Co.all_len c;rw[←hmap,List.length_map]at h;exact h
 have HMAP:=zh hmap;obtain⟨av,cv,rfl⟩:=Dt.row_form hown;have HOW:=zh hown;have HI0:Hid (Cd.NameRow (fun k=>w.heap.size≤k) w2 (.slice none 0 0) (Co.putsB ((ps.take 0).map Co.PC.c))∧Below w2.heap.size w2 w2):=⟨⟨none,0,rfl,Nat.le_refl _,fun h=>absurd rfl h⟩,Below.refl _ _⟩
 clear hal hown hmap hnil hw1 hb2 Hc;clear y0 y1 y2 y3 y4 y5 y6 y7 y8 y9 y10;go_wp2
 go_loopw [4,5] (fun v4 v5 wr=>∃(i:Nat) (ov:Value),ov=v4∧v5= .int .i64 i∧i≤ps.length∧Hid (Cd.NameRow (fun k=>w.heap.size≤k) wr ov (Co.putsB ((ps.take i).map Co.PC.c))∧Below w2.heap.size w2 wr)) (fun _ v5 _=>ps.length - (intOf v5).toNat)
 case atStart=>exact⟨0,_,rfl,rfl,by omega,HI0⟩
 case round=>
  clear HI0;obtain⟨i,ov,hov,rfl,hi,HI⟩:=hrel;subst hov;have HBW:Hid (Below w.heap.size w wr):=HB2.out.trans (HI.out.2.mono HB2.out.size);by_cases hlt:i<ps.length
  case neg=>
   have hge:(ps.length:Int)≤(i:Int):=by omega
   obtain rfl:i=ps.length:=by omega
   have HE:Hid (Cd.NameRow (fun k=>w.heap.size≤k) wr ov ((Co.globV c).map fun x=>⟨x.toArray⟩)):=by
    have h:=HI.out.1;rw[List.take_length,HMAP.out,Co.putsB_eq]at h;exact h
   go_wp2;go_ret;exact⟨_,rfl,HE.out,HBW.out⟩
  have hlti:(i:Int)<(ps.length:Int):=by omega
  have hl8:ps.length≤8192:=HPS.out;have how:wr.ownsRow w1.heap.size 28 11 (.slice av ps.length cv) ps.length (Co.flatC ps):=Dt.own_keep (S:=fun _=>False) HOW.out (keep_of_below HI.out.2) (fun _ _ h=>h);obtain⟨g',c',he,-,hel⟩:=Co.part_at how i hlt;injection he with he1 he2 he3
  subst he1;clear he2 he3;obtain⟨x,hx⟩:∃x,ps[i].c=x:=⟨_,rfl⟩
  rw[hx]at hel;obtain⟨e0,e1,e2,-,-,-,-,-,-,-,-⟩:=hel;have HXX:=zh hx;have HLI:Hid (i<ps.length):=hlt;clear how hx;by_cases h3:x.k=3
  ·have t1:(x.k==3)=true:=by rw[h3];rfl
   have hpl:(Co.putsB ((ps.take i).map Co.PC.c)).length≤1000000:=by
    have h:=Co.putsB_len ((ps.take i).map Co.PC.c);rw[Co.take_len hi]at h;omega
   have hpu:=putTextR_any ov _ x.s wr HI.out.1 hpl;have HKK:Hid (x.k=3∨x.k=5∨x.k=6):= .inl h3;clear hpl h3;go_wp2_with fail
   refine hpu.mono ?_;rintro e w9 ⟨v',rfl,hv',hb9⟩;have HI2:Hid (Cd.NameRow (fun k=>w.heap.size≤k) w9 v' (Co.putsB ((ps.take (i+1)).map Co.PC.c))∧Below w2.heap.size w2 w9):=by
    refine⟨?_,HI.out.2.trans (hb9.mono HI.out.2.size)⟩;rw[Co.take_snoc HLI.out,HXX.out,Co.putsB_snoc,if_pos HKK.out];exact Co.nrow_mono (fun b hb hl=>by have:=HBW.out.size;omega) hv'
   clear hpu hv' hb9 e0 e1 e2;go_wp2;go_roundw
   case rel=>exact⟨i+1,v',rfl,by simp,by omega,HI2⟩
   case measure=>simp[intOf];omega
  have t1:(x.k==3)=false:=by simpa using h3
  by_cases h5:x.k=5
  ·have t2:(x.k==5)=true:=by rw[h5];rfl
   have hpl:(Co.putsB ((ps.take i).map Co.PC.c)).length≤1000000:=by
    have h:=Co.putsB_len ((ps.take i).map Co.PC.c);rw[Co.take_len hi]at h;omega
   have hpu:=putTextR_any ov _ x.s wr HI.out.1 hpl;have HKK:Hid (x.k=3∨x.k=5∨x.k=6):= .inr (.inl h5);clear hpl h3 h5;go_wp2_with fail
   refine hpu.mono ?_;rintro e w9 ⟨v',rfl,hv',hb9⟩;have HI2:Hid (Cd.NameRow (fun k=>w.heap.size≤k) w9 v' (Co.putsB ((ps.take (i+1)).map Co.PC.c))∧Below w2.heap.size w2 w9):=by
    refine⟨?_,HI.out.2.trans (hb9.mono HI.out.2.size)⟩;rw[Co.take_snoc HLI.out,HXX.out,Co.putsB_snoc,if_pos HKK.out];exact Co.nrow_mono (fun b hb hl=>by have:=HBW.out.size;omega) hv'
   clear hpu hv' hb9 e0 e1 e2;go_wp2;go_roundw
   case rel=>exact⟨i+1,v',rfl,by simp,by omega,HI2⟩
   case measure=>simp[intOf];omega
  have t2:(x.k==5)=false:=by simpa using h5
  by_cases h6:x.k=6
  ·have t3:(x.k==6)=true:=by rw[h6];rfl
   have hpl:(Co.putsB ((ps.take i).map Co.PC.c)).length≤1000000:=by
    have h:=Co.putsB_len ((ps.take i).map Co.PC.c);rw[Co.take_len hi]at h;omega
   have hpu:=putTextR_any ov _ x.s wr HI.out.1 hpl;have HKK:Hid (x.k=3∨x.k=5∨x.k=6):= .inr (.inr h6);clear hpl h3 h5 h6;go_wp2_with fail
   refine hpu.mono ?_;rintro e w9 ⟨v',rfl,hv',hb9⟩;have HI2:Hid (Cd.NameRow (fun k=>w.heap.size≤k) w9 v' (Co.putsB ((ps.take (i+1)).map Co.PC.c))∧Below w2.heap.size w2 w9):=by
    refine⟨?_,HI.out.2.trans (hb9.mono HI.out.2.size)⟩;rw[Co.take_snoc HLI.out,HXX.out,Co.putsB_snoc,if_pos HKK.out];exact Co.nrow_mono (fun b hb hl=>by have:=HBW.out.size;omega) hv'
   clear hpu hv' hb9 e0 e1 e2;go_wp2;go_roundw
   case rel=>exact⟨i+1,v',rfl,by simp,by omega,HI2⟩
   case measure=>simp[intOf];omega
  have t3:(x.k==6)=false:=by simpa using h6
  have HI2:Hid (Cd.NameRow (fun k=>w.heap.size≤k) wr ov (Co.putsB ((ps.take (i+1)).map Co.PC.c))∧Below w2.heap.size w2 wr):=by
   refine⟨?_,HI.out.2⟩;rw[Co.take_snoc HLI.out,HXX.out,Co.putsB_snoc,if_neg (by omega)];exact HI.out.1
  clear h3 h5 h6;go_wp2;go_roundw
  case rel=>exact⟨i+1,ov,rfl,by simp,by omega,HI2⟩
  case measure=>simp[intOf];omega
theorem rFree07_any{G:Nat→Prop}(c:Co.C)(vm vl vt vp vk:Value)(w:World)(hW:Co.Wf c)(hR:Co.Rep G w c vm vl vt vp vk):
  Calls Tryz.prog 26 #[Co.V c vm vl vt vp vk] w fun e w'=>∃v,e= .returned v∧Dt.IRow (fun k=>w.heap.size≤k) w' v (Co.freeV c)∧Below w.heap.size w w':=by
 obtain⟨w1,hw1⟩:∃w1,w.alloc (.cells #[.int .i64 c.k,.int .i64 c.n,.string c.s,.int .i64 c.d.k,.int .i64 c.d.n,.string c.d.s,vm,vl,vt,vp,vk] 28)=w1:=⟨_,rfl⟩
 obtain⟨hb1,hs1⟩:=new_below hw1;have hal:=rAll07_any c _ _ _ _ _ w1 hW (hR.below hb1);unfold Co.V at hal ⊢;have Hc:=zh (Hp.new hw1);have HB1:=zh hb1;have HR:=zh hR;have HW:=zh hW;obtain⟨y0,y1,y2,y3,y4,y5,y6,y7,y8,y9,y10⟩:=Hc.out.c11;clear hb1 hs1 hR hW;go_enter Tryz.func26,Tryz.ntmps26;go_wp2_with fail
 try rw[hw1]
 refine hal.mono ?_;rintro e w2 ⟨v,ps,rfl,hown,hmap,hnil,-,hb2⟩;have HB2:Hid (Below w.heap.size w w2):=btr HB1.out hb2;have HPS:Hid (ps.length≤8192):=by
  have h:=Co.all_len c;rw[←hmap,List.length_map]at h;exact h
 have HMAP:=zh hmap;have HC2:=zh (Hc.out.below hb2);clear y0 y1 y2 y3 y4 y5 y6 y7 y8 y9 y10;obtain⟨y0,y1,y2,y3,y4,y5,y6,y7,y8,y9,y10⟩:=HC2.out.c11;by_cases hO:Co.outE c=0
 case neg=>
  have hps:ps=[]:=by have h:=HMAP.out;rw[Co.all_no hO]at h;exact List.map_eq_nil_iff.1 h
  obtain rfl:=hnil hps;have hn:=Lib.run_eql_slice_nil (P:=Tryz.prog) w2 26 28 none 0 0 0 0 Tryz.underlying26;have hn':(binOp .eql 26 (.slice none 0 0) (.slice none 0 0)).run Tryz.prog w2= .ok (.bool true) w2:=hn;have HF:Hid (Co.freeV c=[]):=by show _=_;unfold Co.freeV;rw[if_neg hO]
  clear hal hown hmap hnil hw1 hb2 hn hps hO;go_wp2;go_ret;exact⟨_,rfl,by rw[HF.out];exact⟨none,0,rfl,Nat.le_refl _,fun h=>absurd rfl h⟩,HB2.out⟩
 case pos=>
  obtain⟨h1,h2,h3,h4,h5⟩:=Co.all_ok hO;have hps:ps≠[]:=fun e=>Co.parts_pos c (by rw[←h3,←HMAP.out,e];rfl)
  obtain⟨vg,vc,rfl⟩:=Co.nil_none hown hps;have hn:=Lib.run_eql_slice_nil (P:=Tryz.prog) w2 26 28 (some ⟨vg,0,none⟩) ps.length vc 0 0 Tryz.underlying26;have hn':(binOp .eql 26 (.slice (some ⟨vg,0,none⟩) ps.length vc) (.slice none 0 0)).run Tryz.prog w2= .ok (.bool false) w2:=hn;have h9:ps.length=(Co.parts c).length:=by rw[←h3,←HMAP.out,List.length_map]
  have hpl:(Co.parts c).length≤8192:=by rw[←h9];exact HPS.out
  clear h9;have hfr:=coRFree_any c G (fun _=>False) (fun _=>False) vm vl vt vp vk (.slice none 0 0) (.slice none 0 0) [] [] w2 HW.out h5 (HR.out.below HB2.out) ⟨none,0,rfl,Nat.le_refl _,fun h=>absurd rfl h⟩ ⟨none,0,rfl,Nat.le_refl _,fun h=>absurd rfl h⟩ (by simp only[List.length_nil];omega) (by simp only[List.length_nil];omega);have HF:Hid (Co.freeV c=Co.free c [] []):=by show _=_;unfold Co.freeV;rw[if_pos hO];exact h4
  unfold Co.V at hfr;clear hal hown hmap hnil hw1 hb2 hn hps hO h1 h2 h3 h4 h5 hpl;go_wp2_with fail
  refine hfr.mono ?_;rintro e w3 ⟨v',rfl,hi3,hb3⟩;have HB3:Hid (Below w.heap.size w w3):=btr HB2.out hb3;have HI3:Hid (Dt.IRow (fun k=>w.heap.size≤k) w3 v' (Co.freeV c)):=by
   rw[HF.out];exact Co.irow_mono (fun b hb hl=>by have:=HB2.out.size;rcases hb with hb|hb;exact hb.elim;omega) hi3
  clear hfr hi3 hb3;go_wp2;go_ret;exact⟨_,rfl,HI3.out,HB3.out⟩
end Go.Proofs.YtfjmlfbohenmfaaGreat
namespace Go.Proofs.YtfjmlfbohenmfaaGreat
open Go.RowKit
attribute [local go_sem] Oper.semAt_some
theorem rSd_any{F G:Nat→Prop}(x y:Dt.D)(vm vl vt um ul ut:Value)(w:World)(hWx:Dt.Wf x)(hWy:Dt.Wf y)(hRx:Dt.Rep F w x vm vl vt)(hRy:Dt.Rep G w y um ul ut):
  Calls Tryz.prog 70 #[.agg #[.int .i64 x.k,.int .i64 x.n,.string x.s,vm,vl,vt],.agg #[.int .i64 y.k,.int .i64 y.n,.string y.s,um,ul,ut]] w fun e w'=>e= .returned (.bool (Co.sd x y))∧Below w.heap.size w w':=by
 obtain⟨a1,n1,q1,a2,n2,q2,a3,n3,q3,rfl,rfl,rfl⟩:=hRx.forms;obtain⟨a1',n1',q1',a2',n2',q2',a3',n3',q3',rfl,rfl,rfl⟩:=hRy.forms;obtain⟨w1,hw1⟩:∃w1,w.alloc (.cells #[.int .i64 x.k,.int .i64 x.n,.string x.s,.slice a1 n1 q1,.slice a2 n2 q2,.slice a3 n3 q3] 25)=w1:=⟨_,rfl⟩
 obtain⟨w2,hw2⟩:∃w2,w1.alloc (.cells #[.int .i64 y.k,.int .i64 y.n,.string y.s,.slice a1' n1' q1',.slice a2' n2' q2',.slice a3' n3' q3'] 25)=w2:=⟨_,rfl⟩
 obtain⟨hb1,hs1⟩:=new_below hw1;obtain⟨hb2,hs2⟩:=new_below hw2;have hx2:Hp w2 w.heap.size #[.int .i64 x.k,.int .i64 x.n,.string x.s,.slice a1 n1 q1,.slice a2 n2 q2,.slice a3 n3 q3] 25:=(Hp.new hw1).below hb2;have hy2:Hp w2 w1.heap.size #[.int .i64 y.k,.int .i64 y.n,.string y.s,.slice a1' n1' q1',.slice a2' n2' q2',.slice a3' n3' q3'] 25:=Hp.new hw2;have hb12:Below w.heap.size w w2:=btr hb1 hb2;have hnx:=fun W (h:Below w2.heap.size w2 W)=>noneC_any x (.slice a1 n1 q1) (.slice a2 n2 q2) (.slice a3 n3 q3) W hWx ((hRx.below hb12).below h)
 have hny:=fun W (h:Below w2.heap.size w2 W)=>noneC_any y (.slice a1' n1' q1') (.slice a2' n2' q2') (.slice a3' n3' q3') W hWy ((hRy.below hb12).below h)
 have hsm:=fun W (h:Below w2.heap.size w2 W)=>rSame_any x y (.slice a1 n1 q1) (.slice a2 n2 q2) (.slice a3 n3 q3) (.slice a1' n1' q1') (.slice a2' n2' q2') (.slice a3' n3' q3') W hWx hWy ((hRx.below hb12).below h) ((hRy.below hb12).below h)
 have HNX:=zh hnx;have HNY:=zh hny;have HSM:=zh hsm;have HX:=zh hx2;have HY:=zh hy2;have HB12:=zh hb12;obtain⟨x0,x1,x2,x3,x4,x5⟩:=HX.out.c6;obtain⟨y0,y1,y2,y3,y4,y5⟩:=HY.out.c6;clear hb1 hs1 hb2 hs2 hx2 hy2 hb12 hnx hny hsm hRx hRy hWx hWy;have h1:=HNX.out w2 (Below.refl _ _);obtain⟨p,hp⟩:∃p,Co.none_ x=p:=⟨_,rfl⟩
 obtain⟨q,hq⟩:∃q,Co.none_ y=q:=⟨_,rfl⟩
 obtain⟨r,hr⟩:∃r,Dt.sameD x y=r:=⟨_,rfl⟩
 have HR:Hid (Co.sd x y=((p&&q)||r)):=by show Co.sd x y=_;unfold Co.sd;rw[hp,hq,hr]
 rw[hp]at h1;have HP:=zh hp;have HQ:=zh hq;have HRR:=zh hr;clear hp hq hr;go_enter Tryz.func70,Tryz.ntmps70;go_wp2_with fail
 try rw[hw1,hw2]
 refine h1.mono ?_;rintro e w3 ⟨rfl,hb3⟩;have HB3:=zh hb3;clear h1 hw1 hw2;clear x0 x1 x2 x3 x4 x5 y0 y1 y2 y3 y4 y5;have HX3:Hid (Hp w3 w.heap.size #[.int .i64 x.k,.int .i64 x.n,.string x.s,.slice a1 n1 q1,.slice a2 n2 q2,.slice a3 n3 q3] 25):=HX.out.below hb3;have HY3:Hid (Hp w3 w1.heap.size #[.int .i64 y.k,.int .i64 y.n,.string y.s,.slice a1' n1' q1',.slice a2' n2' q2',.slice a3' n3' q3'] 25):=HY.out.below hb3;obtain⟨x0,x1,x2,x3,x4,x5⟩:=HX3.out.c6;obtain⟨y0,y1,y2,y3,y4,y5⟩:=HY3.out.c6;clear hb3
 cases p with
 |true=>
  have h2:=HNY.out w3 HB3.out;rw[HQ.out]at h2;go_wp2_with fail
  refine h2.mono ?_;rintro e w4 ⟨rfl,hb4⟩;have HB4:Hid (Below w2.heap.size w2 w4):=btr HB3.out hb4;have HX4:Hid (Hp w4 w.heap.size #[.int .i64 x.k,.int .i64 x.n,.string x.s,.slice a1 n1 q1,.slice a2 n2 q2,.slice a3 n3 q3] 25):=HX3.out.below hb4;have HY4:Hid (Hp w4 w1.heap.size #[.int .i64 y.k,.int .i64 y.n,.string y.s,.slice a1' n1' q1',.slice a2' n2' q2',.slice a3' n3' q3'] 25):=HY3.out.below hb4;clear h2 hb4;clear x0 x1 x2 x3 x4 x5 y0 y1 y2 y3 y4 y5;obtain⟨x0,x1,x2,x3,x4,x5⟩:=HX4.out.c6;obtain⟨y0,y1,y2,y3,y4,y5⟩:=HY4.out.c6
  cases q with
  |true=>
   have HR2:Hid (Co.sd x y=true):=HR.out;go_wp2;go_ret;exact⟨by rw[HR2.out];rfl,(btr HB12.out HB4.out)⟩
  |false=>
   have h3:=HSM.out w4 HB4.out;rw[HRR.out]at h3;go_wp2_with fail
   refine h3.mono ?_;rintro e w5 ⟨rfl,hb5⟩;have HB5:Hid (Below w2.heap.size w2 w5):=btr HB4.out hb5;have HR2:Hid (Co.sd x y=r):=by show Co.sd x y=r;rw[HR.out];cases r <;> rfl
   clear h3 hb5;go_wp2;go_ret;exact⟨by rw[HR2.out];rfl,(btr HB12.out HB5.out)⟩
 |false=>
  have h3:=HSM.out w3 HB3.out;rw[HRR.out]at h3;go_wp2_with fail
  refine h3.mono ?_;rintro e w5 ⟨rfl,hb5⟩;have HB5:Hid (Below w2.heap.size w2 w5):=btr HB3.out hb5;have HR2:Hid (Co.sd x y=r):=by show Co.sd x y=r;rw[HR.out];cases r <;> rfl
  clear h3 hb5;go_wp2;go_ret;exact⟨by rw[HR2.out];rfl,(btr HB12.out HB5.out)⟩
namespace Co
def PPost(L:Nat)(a b:C)(deep:Nat)(left:Int)(w:World)(e:Ending)(w':World):Prop:=
 e= .returned (.bool (pairs a b deep left).1)∧Keep (fun k=>k=L) w w'∧((pairs a b deep left).1=true→LBs w' L (pairs a b deep left).2∧0≤(pairs a b deep left).2∧(pairs a b deep left).2≤left)
def PairsIs(L:Nat)(a:C):Prop:=
 ∀(b:C) (G H:Nat→Prop) (vm vl vt vp vk um ul ut up uk:Value) (w:World) (deep:Nat) (left:Int),
  Wf a→Wf b→(∀k,G k→k≠L)→(∀k,H k→k≠L)→Rep G w a vm vl vt vp vk→Rep H w b um ul ut up uk→LBs w L left→0≤left→left≤8192→deep≤4611686018427387904→
  Calls Tryz.prog 40 #[V a vm vl vt vp vk,V b um ul ut up uk,.int .i64 (deep:Int),.pointer (some ⟨L,0,none⟩)] w (PPost L a b deep left w)
structure Tw2(a:C)(vm vl vt vp vk:Value)(b:C)(um ul ut up uk:Value)(G H:Nat→Prop)(A0 B0:Nat)(wx:World):Prop where
 ba:Bc wx A0 a vm vl vt vp vk
 bb:Bc wx B0 b um ul ut up uk
 ra:Rep G wx a vm vl vt vp vk
 rb:Rep H wx b um ul ut up uk
theorem Tw2.keep{a b:C}{vm vl vt vp vk um ul ut up uk:Value}{G H S:Nat→Prop}{A0 B0:Nat}{wx wy:World}(h:Tw2 a vm vl vt vp vk b um ul ut up uk G H A0 B0 wx)(hk:Keep S wx wy)(h1:¬S A0)(h2:¬S B0)(h3:∀k,G k→¬S k)(h4:∀k,H k→¬S k):Tw2 a vm vl vt vp vk b um ul ut up uk G H A0 B0 wy:=
 ⟨h.ba.keep hk h1,h.bb.keep hk h2,Rep.keep hk (fun k hk' _=>h3 k hk') a h.ra,Rep.keep hk (fun k hk' _=>h4 k hk') b h.rb⟩
theorem Tw2.below{a b:C}{vm vl vt vp vk um ul ut up uk:Value}{G H:Nat→Prop}{A0 B0:Nat}{wx wy:World}(h:Tw2 a vm vl vt vp vk b um ul ut up uk G H A0 B0 wx)(hk:Below wx.heap.size wx wy):Tw2 a vm vl vt vp vk b um ul ut up uk G H A0 B0 wy:=
 h.keep (S:=fun _=>False) (keep_of_below hk) id id (fun _ _=>id) (fun _ _=>id)
structure PQ(L:Nat)(a b:C)(deep:Nat)(left:Int)(w:World)(T:World→Prop)(j:Nat)(wx:World):Prop where
 tw:T wx
 kp:Keep (fun k=>k=L) w wx
 ms:∃lj,LBs wx L lj∧0≤lj∧lj≤left - 1∧pairs a b deep left=pairsL (a.l.drop j) (b.l.drop j) (deep+1) lj
theorem pr_not{a b:C}{deep:Nat}{left:Int}(h:(left - 1<0∨128<deep)∨a.k≠b.k∨a.n≠b.n∨a.s≠b.s∨a.p.length≠b.p.length∨a.l.length≠b.l.length∨sd a.d b.d=false∨a.p≠b.p):(pairs a b deep left).1=false:=by
 obtain⟨k,n,s,d,p,l⟩:=a;rw[pairs];by_cases h1:left - 1<0∨128<deep
 ·rw[if_pos h1]
 rw[if_neg h1];have h2:(like (.mk k n s d p l) b&&decide (n=b.n)&&decide (p=b.p))=false:=by
  have h:=h.resolve_left h1
  cases e:(like (.mk k n s d p l) b&&decide (n=b.n)&&decide (p=b.p))with
  |false=>rfl
  |true=>
   exfalso;rw[Bool.and_eq_true,Bool.and_eq_true]at e;obtain⟨⟨e1,e2⟩,e3⟩:=e;unfold like at e1;simp only[Bool.and_eq_true]at e1;obtain⟨⟨⟨⟨f1,f2⟩,f3⟩,f4⟩,f5⟩:=e1;have f1:=of_decide_eq_true f1;have f2:=of_decide_eq_true f2;have f3:=of_decide_eq_true f3;have f4:=of_decide_eq_true f4;have e2:=of_decide_eq_true e2;have e3:=of_decide_eq_true e3;rcases h with h|h|h|h|h|h|h
   ·exact h f1
   ·exact h e2
   ·exact h f2
   ·exact h f3
   ·exact h f4
   ·rw[h]at f5;cases f5
   ·exact h e3
 rw[if_pos h2]
theorem pr_go{a b:C}{deep:Nat}{left:Int}(h1:0≤left - 1)(h2:deep≤128)(h3:a.k=b.k)(h4:a.n=b.n)(h5:a.s=b.s)(h6:a.p=b.p)(h7:a.l.length=b.l.length)(h8:sd a.d b.d=true):pairs a b deep left=pairsL a.l b.l (deep+1) (left - 1):=by
 obtain⟨k,n,s,d,p,l⟩:=a;have e:(like (.mk k n s d p l) b&&decide (n=b.n)&&decide (p=b.p))=true:=by
  have e4:n=b.n:=h4;have e6:p=b.p:=h6;unfold like;rw[decide_eq_true h3,decide_eq_true h5,decide_eq_true (show(C.mk k n s d p l).p.length=b.p.length by rw[h6]),decide_eq_true h7,h8,decide_eq_true e4,decide_eq_true e6]
  rfl
 rw[pairs,if_neg (by omega),if_neg (by rw[e];simp)]
 rfl
theorem drop_ne{p q:List Int}{j:Nat}(hp:j<p.length)(hq:j<q.length)(h:p[j]≠q[j]):p≠q:=fun e=>h (by subst e;rfl)
theorem take_step{p q:List Int}{j:Nat}(h:p.take j=q.take j)(hp:j<p.length)(hq:j<q.length)(he:p[j]=q[j]):p.take (j+1)=q.take (j+1):=by
 rw[List.take_succ_eq_append_getElem hp,List.take_succ_eq_append_getElem hq,h,he]
end Co
theorem coRPairs_step(L:Nat)(a:Co.C)(hch:∀y∈a.l,Co.PairsIs L y):Co.PairsIs L a:=by
 intro b G H vm vl vt vp vk um ul ut up uk w deep left hWa hWb hG hH hRa hRb hLB hl0 hl1 hdp;obtain⟨b1,n1,q1,b2,n2,q2,b3,n3,q3,b4,n4,q4,b5,n5,q5,e1,e2,e3,e4,e5⟩:=Co.Rep.forms5 hRa;subst e1 e2 e3 e4 e5;obtain⟨b1',n1',q1',b2',n2',q2',b3',n3',q3',b4',n4',q4',b5',n5',q5',e1,e2,e3,e4,e5⟩:=Co.Rep.forms5 hRb;subst e1 e2 e3 e4 e5;obtain⟨hn4,hn5⟩:n4=a.p.length∧n5=a.l.length:=by
  obtain⟨-,⟨_,_,he,-⟩,⟨_,_,he',-⟩⟩:=(Co.rep_iff _ _ _ _ _ _ _ _).1 hRa;injection he with _ h1 _
  injection he' with _ h2 _
  exact⟨h1,h2⟩
 obtain⟨hn4',hn5'⟩:n4'=b.p.length∧n5'=b.l.length:=by
  obtain⟨-,⟨_,_,he,-⟩,⟨_,_,he',-⟩⟩:=(Co.rep_iff _ _ _ _ _ _ _ _).1 hRb;injection he with _ h1 _
  injection he' with _ h2 _
  exact⟨h1,h2⟩
 subst hn4 hn5 hn4' hn5';unfold Co.V;obtain⟨w1,hw1⟩:∃w1,w.alloc (.cells #[.int .i64 a.k,.int .i64 a.n,.string a.s,.int .i64 a.d.k,.int .i64 a.d.n,.string a.d.s,.slice b1 n1 q1,.slice b2 n2 q2,.slice b3 n3 q3,.slice b4 a.p.length q4,.slice b5 a.l.length q5] 28)=w1:=⟨_,rfl⟩
 obtain⟨w2,hw2⟩:∃w2,w1.alloc (.cells #[.int .i64 b.k,.int .i64 b.n,.string b.s,.int .i64 b.d.k,.int .i64 b.d.n,.string b.d.s,.slice b1' n1' q1',.slice b2' n2' q2',.slice b3' n3' q3',.slice b4' b.p.length q4',.slice b5' b.l.length q5'] 28)=w2:=⟨_,rfl⟩
 obtain⟨hb1,hs1⟩:=new_below hw1;obtain⟨hb2,hs2⟩:=new_below hw2;have hb12:Below w.heap.size w w2:=btr hb1 hb2;have hba:Co.Bc w2 w.heap.size a (.slice b1 n1 q1) (.slice b2 n2 q2) (.slice b3 n3 q3) (.slice b4 a.p.length q4) (.slice b5 a.l.length q5):=Hp.below (Hp.new hw1) hb2;have hbb:Co.Bc w2 w1.heap.size b (.slice b1' n1' q1') (.slice b2' n2' q2') (.slice b3' n3' q3') (.slice b4' b.p.length q4') (.slice b5' b.l.length q5'):=Hp.new hw2;have hll:L<w.heap.size:=hLB.lt;have hl2:Co.LBs w2 L left:=Hp.below hLB hb12;obtain⟨w3,hw3⟩:∃w3,w2.setCell ⟨L,0,none⟩ (.int .i64 (left - 1))=w3:=⟨_,rfl⟩
 have hk3:Keep (fun k=>k=L) w2 w3:=by rw[←hw3];exact set_keep _ _ _ _
 have HL3:Hid (Co.LBs w3 L (left - 1)):=by
  rw[←hw3];exact Hp.set hl2 0 _
 have HTW:Hid ((Co.Tw2 a (.slice b1 n1 q1) (.slice b2 n2 q2) (.slice b3 n3 q3) (.slice b4 a.p.length q4) (.slice b5 a.l.length q5) b (.slice b1' n1' q1') (.slice b2' n2' q2') (.slice b3' n3' q3') (.slice b4' b.p.length q4') (.slice b5' b.l.length q5') G H w.heap.size w1.heap.size) w3):=⟨hba.keep hk3 (by omega),hbb.keep hk3 (by omega),Co.Rep.keep hk3 (fun k hk _=>hG k hk) a (hRa.below hb12),Co.Rep.keep hk3 (fun k hk _=>hH k hk) b (hRb.below hb12)⟩
 have HKP:Hid (Keep (fun k=>k=L) w w3):=((Keep.refl _ w).below hb12).trans hk3;have HNOT:Hid (∀wx,Keep (fun k=>k=L) w wx→((left - 1<0∨128<deep)∨a.k≠b.k∨a.n≠b.n∨a.s≠b.s∨a.p.length≠b.p.length∨a.l.length≠b.l.length∨Co.sd a.d b.d=false∨a.p≠b.p)→Co.PPost L a b deep left w (.returned (.bool false)) wx):=fun wx hk h=>by
  have e:=Co.pr_not h;unfold Co.PPost;rw[e];exact⟨rfl,hk,fun h=>by cases h⟩
 have HNL:Hid (w.heap.size≠L∧w1.heap.size≠L):=⟨by omega,by omega⟩
 have HX:Hid (Co.LBs w2 L left):=hl2;have x0:=HX.out.cell 0 rfl;have xf0:=HX.out.frz 0;have y0:=HL3.out.cell 0 rfl;have HA:Hid (Co.Bc w3 w.heap.size a (.slice b1 n1 q1) (.slice b2 n2 q2) (.slice b3 n3 q3) (.slice b4 a.p.length q4) (.slice b5 a.l.length q5)):=HTW.out.ba;have HB:Hid (Co.Bc w3 w1.heap.size b (.slice b1' n1' q1') (.slice b2' n2' q2') (.slice b3' n3' q3') (.slice b4' b.p.length q4') (.slice b5' b.l.length q5')):=HTW.out.bb;obtain⟨a0,a1,a2,a3,a4,a5,a6,a7,a8,a9,a10⟩:=HA.out.c11;obtain⟨zb0,zb1,zb2,zb3,zb4,zb5,zb6,zb7,zb8,zb9,zb10⟩:=HB.out.c11;have hsd:=rSd_any a.d b.d _ _ _ _ _ _ w3 (Co.wf_parts hWa).2.2.1 (Co.wf_parts hWb).2.2.1 ((Co.rep_iff _ _ _ _ _ _ _ _).1 HTW.out.ra).1 ((Co.rep_iff _ _ _ _ _ _ _ _).1 HTW.out.rb).1;obtain⟨SD,hSD⟩:∃SD,Co.sd a.d b.d=SD:=⟨_,rfl⟩
 rw[hSD]at hsd;have HSD:=zh hSD;have HCH:=zh hch;have HWA:=zh hWa;have HWB:=zh hWb;have HG:=zh hG;have HH:=zh hH;have hka:a.l.length≤140737488355328:=(Co.wf_parts hWa).2.2.2.2.2.1;have hkp:a.p.length≤140737488355328:=(Co.wf_parts hWa).2.2.2.1;clear hch hWa hWb hG hH hRa hRb hLB hb1 hb2 hb12 hba hbb hl2 hk3 hs1 hs2 hSD hll;by_cases g0:left - 1<0
 ·have t0:decide (left - 1<0)=true:=decide_eq_true g0;have HR:=zh (HNOT.out w3 HKP.out (.inl (.inl g0)));clear g0 hsd;go_enter Tryz.func40,Tryz.ntmps40;go_wp2;go_ret;exact HR.out
 have t0:decide (left - 1<0)=false:=decide_eq_false g0;by_cases g1:(128:Int)<(deep:Int)
 ·have t1:decide ((128:Int)<(deep:Int))=true:=decide_eq_true g1;have HR:=zh (HNOT.out w3 HKP.out (.inl (.inr (by omega))));clear g1 hsd;go_enter Tryz.func40,Tryz.ntmps40;go_wp2;go_ret;exact HR.out
 have t1:decide ((128:Int)<(deep:Int))=false:=decide_eq_false g1;by_cases g2:a.k≠b.k
 ·have t2:(a.k !=b.k)=true:=by simpa using g2
  have HR:=zh (HNOT.out w3 HKP.out (.inr (.inl g2)));clear g2 hsd;go_enter Tryz.func40,Tryz.ntmps40;go_wp2;go_ret;exact HR.out
 have t2:(a.k !=b.k)=false:=by simpa using g2
 by_cases g3:a.n≠b.n
 ·have t3:(a.n !=b.n)=true:=by simpa using g3
  have HR:=zh (HNOT.out w3 HKP.out (.inr (.inr (.inl g3))));clear g3 hsd;go_enter Tryz.func40,Tryz.ntmps40;go_wp2;go_ret;exact HR.out
 have t3:(a.n !=b.n)=false:=by simpa using g3
 by_cases g4:a.s≠b.s
 ·have s1:decide (a.s=b.s)=false:=decide_eq_false g4;have s2:(a.s.data==b.s.data)=false:=by rw[beq_eq_false_iff_ne];intro e;exact g4 (Dt.bytes_ext (by rw[e]))
  have s3:(a.s.data !=b.s.data)=true:=by rw[bne,s2];rfl
  have s4:(a.s==b.s)=false:=s2;have s5:(a.s !=b.s)=true:=s3;have s6:(a.s.toList==b.s.toList)=false:=by rw[ByteArray.toList_eq,ByteArray.toList_eq,beq_eq_false_iff_ne];exact fun e=>g4 (Dt.bytes_ext e)
  have s7:(a.s.toList !=b.s.toList)=true:=by rw[bne,s6];rfl
  have HR:=zh (HNOT.out w3 HKP.out (.inr (.inr (.inr (.inl g4)))));clear g4 hsd;go_enter Tryz.func40,Tryz.ntmps40;go_wp2;go_ret;exact HR.out
 have s1:decide (a.s=b.s)=true:=decide_eq_true (Classical.not_not.1 g4);have s2:(a.s.data==b.s.data)=true:=by rw[Classical.not_not.1 g4];simp
 have s3:(a.s.data !=b.s.data)=false:=by rw[bne,s2];rfl
 have s4:(a.s==b.s)=true:=s2;have s5:(a.s !=b.s)=false:=s3;have s6:(a.s.toList==b.s.toList)=true:=by rw[Classical.not_not.1 g4];simp
 have s7:(a.s.toList !=b.s.toList)=false:=by rw[bne,s6];rfl
 by_cases g5:a.p.length≠b.p.length
 ·have t5:((a.p.length:Int) !=(b.p.length:Int))=true:=by simp only[bne_iff_ne,ne_eq];omega
  have HR:=zh (HNOT.out w3 HKP.out (.inr (.inr (.inr (.inr (.inl g5))))));clear g5 hsd;go_enter Tryz.func40,Tryz.ntmps40;go_wp2;go_ret;exact HR.out
 have t5:((a.p.length:Int) !=(b.p.length:Int))=false:=by simp only[bne_eq_false_iff_eq];omega
 by_cases g6:a.l.length≠b.l.length
 ·have t6:((a.l.length:Int) !=(b.l.length:Int))=true:=by simp only[bne_iff_ne,ne_eq];omega
  have HR:=zh (HNOT.out w3 HKP.out (.inr (.inr (.inr (.inr (.inr (.inl g6)))))));clear g6 hsd;go_enter Tryz.func40,Tryz.ntmps40;go_wp2;go_ret;exact HR.out
 have t6:((a.l.length:Int) !=(b.l.length:Int))=false:=by simp only[bne_eq_false_iff_eq];omega
 have HGO:Hid (0≤left - 1∧deep≤128∧a.k=b.k∧a.n=b.n∧a.s=b.s∧a.p.length=b.p.length∧a.l.length=b.l.length):=⟨by omega,by omega,by simpa using g2,by simpa using g3,Classical.not_not.1 g4,by omega,by omega⟩
 clear g0 g1 g2 g3 g4 g5 g6;go_enter Tryz.func40,Tryz.ntmps40;go_wp2_with fail
 try rw[hw1,hw2,hw3]
 refine hsd.mono ?_;rintro e w4 ⟨rfl,hb4⟩;have HTW4:Hid ((Co.Tw2 a (.slice b1 n1 q1) (.slice b2 n2 q2) (.slice b3 n3 q3) (.slice b4 a.p.length q4) (.slice b5 a.l.length q5) b (.slice b1' n1' q1') (.slice b2' n2' q2') (.slice b3' n3' q3') (.slice b4' b.p.length q4') (.slice b5' b.l.length q5') G H w.heap.size w1.heap.size) w4):=HTW.out.below hb4;have HKP4:Hid (Keep (fun k=>k=L) w w4):=HKP.out.below hb4;have HL4:Hid (Co.LBs w4 L (left - 1)):=Hp.below HL3.out hb4;clear hsd hb4 x0 xf0 y0 t0 t1 t2 t3 t5 t6 s1 s2 s3 s4 s5 s6 s7 hw1 hw2 hw3 HTW HKP HX HA HB HL3;clear a0 a1 a2 a3 a4 a5 a6 a7 a8 a9 a10 zb0 zb1 zb2 zb3 zb4 zb5 zb6 zb7 zb8 zb9 zb10
 cases SD with
 |false=>
  have HR:=zh (HNOT.out w4 HKP4.out (.inr (.inr (.inr (.inr (.inr (.inr (.inl HSD.out))))))));go_wp2;go_ret;exact HR.out
 |true=>
 have HI0:Hid ((Co.Tw2 a (.slice b1 n1 q1) (.slice b2 n2 q2) (.slice b3 n3 q3) (.slice b4 a.p.length q4) (.slice b5 a.l.length q5) b (.slice b1' n1' q1') (.slice b2' n2' q2') (.slice b3' n3' q3') (.slice b4' b.p.length q4') (.slice b5' b.l.length q5') G H w.heap.size w1.heap.size) w4∧Co.LBs w4 L (left - 1)∧Keep (fun k=>k=L) w w4∧a.p.take 0=b.p.take 0):=⟨HTW4.out,HL4.out,HKP4.out,rfl⟩
 go_wp2;clear HTW4 HKP4 HL4
 go_loopw [9] (fun v wr=>∃j:Nat,v= .int .i64 j∧j≤a.p.length∧Hid ((Co.Tw2 a (.slice b1 n1 q1) (.slice b2 n2 q2) (.slice b3 n3 q3) (.slice b4 a.p.length q4) (.slice b5 a.l.length q5) b (.slice b1' n1' q1') (.slice b2' n2' q2') (.slice b3' n3' q3') (.slice b4' b.p.length q4') (.slice b5' b.l.length q5') G H w.heap.size w1.heap.size) wr∧Co.LBs wr L (left - 1)∧Keep (fun k=>k=L) w wr∧a.p.take j=b.p.take j)) (fun v _=>a.p.length - (intOf v).toNat)
 case atStart=>exact⟨0,rfl,by omega,HI0⟩
 case round=>
  clear HI0;obtain⟨j,rfl,hj,HI⟩:=hrel;obtain⟨htw,hlb,hkpw,htk⟩:=HI.out;have HTW:=zh htw;have HLB:=zh hlb;have HKP:=zh hkpw;have HTK:=zh htk;clear htw hlb hkpw htk;have a9:=HTW.out.ba.cell 9 rfl;by_cases hlt:j<a.p.length
  case pos=>
   have hlti:(j:Int)<(a.p.length:Int):=by omega
   have hltn:j<b.p.length:=by have:=HGO.out.2.2.2.2.2.1;omega
   have hltb:(j:Int)<(b.p.length:Int):=by omega
   obtain⟨wd,hwd⟩:∃wd,wr.drew=wd:=⟨_,rfl⟩
   have hbd:Below wr.heap.size wr wd:=by rw[←hwd];exact Co.drew_below wr
   have htwd:=HTW.out.below hbd;obtain⟨-,⟨_,_,he,_,hrow⟩,-⟩:=(Co.rep_iff _ _ _ _ _ _ _ _).1 htwd.ra;injection he with he1 he2 he3
   subst he1;clear he2 he3;obtain⟨pa,oa,rfl,-,-,hca⟩:=hrow (by intro h0;rw[h0]at hlt;simp at hlt);obtain⟨-,⟨_,_,he,_,hrow'⟩,-⟩:=(Co.rep_iff _ _ _ _ _ _ _ _).1 htwd.rb;injection he with he1 he2 he3
   subst he1;clear he2 he3;obtain⟨pb,ob,rfl,-,-,hcb⟩:=hrow' (by intro h0;rw[h0]at hltn;simp at hltn);have ca:=hca j hlt;have cb:=hcb j hltn;obtain⟨X,hX⟩:∃X,a.p[j]=X:=⟨_,rfl⟩
   obtain⟨Y,hY⟩:∃Y,b.p[j]=Y:=⟨_,rfl⟩
   rw[hX]at ca;rw[hY]at cb;have HXX:=zh hX;have HYY:=zh hY;have z9:=htwd.ba.cell 9 rfl;have y9:=htwd.bb.cell 9 rfl;have HTWD:=zh htwd;have HLBD:Hid (Co.LBs wd L (left - 1)):=Hp.below HLB.out hbd;have HKPD:Hid (Keep (fun k=>k=L) w wd):=HKP.out.below hbd;clear hca hcb hX hY hrow hrow' hbd htwd HLB HKP;by_cases hxy:X=Y
   ·subst hxy;have HTK2:Hid (a.p.take (j+1)=b.p.take (j+1)):=Co.take_step HTK.out hlt hltn (by rw[HXX.out,HYY.out]);go_wp2;refine wp_region_still_tail 10 (by kernel_rfl) (by kernel_rfl) ?_;change wpStill _ _ wr.drew _ _ _;rw[hwd];have HWD:=zh hwd;clear hwd;simp only[List.take_succ_cons,List.take_zero,List.drop_succ_cons,List.drop_zero];repeat still_step
    try refine wpStill_nil ?_
    go_wp2_with(rw[HWD.out])
    go_roundw
    case rel=>exact⟨j+1,by simp,by omega,⟨HTWD.out,HLBD.out,HKPD.out,HTK2.out⟩⟩
    case measure=>simp[intOf];omega
   ·have hb:(X !=Y)=true:=by simpa using hxy
    have HR:=zh (HNOT.out wd HKPD.out (.inr (.inr (.inr (.inr (.inr (.inr (.inr (Co.drop_ne hlt hltn (by rw[HXX.out,HYY.out];exact hxy))))))))));go_wp2;refine wp_region_still_tail 10 (by kernel_rfl) (by kernel_rfl) ?_;change wpStill _ _ wr.drew _ _ _;rw[hwd];have HWD:=zh hwd;clear hwd;simp only[List.take_succ_cons,List.take_zero,List.drop_succ_cons,List.drop_zero];repeat still_step
    try refine wpStill_nil ?_
    go_wp2_with(rw[HWD.out])
    go_ret;exact HR.out
  have hge:(a.p.length:Int)≤(j:Int):=by omega
  have HPE:Hid (a.p=b.p):=by
   have h:=HTK.out;have h1:=HGO.out.2.2.2.2.2.1;rw[List.take_of_length_le (by omega),List.take_of_length_le (by omega)]at h;exact h
  have HQ0:Hid (Co.PQ L a b deep left w (Co.Tw2 a (.slice b1 n1 q1) (.slice b2 n2 q2) (.slice b3 n3 q3) (.slice b4 a.p.length q4) (.slice b5 a.l.length q5) b (.slice b1' n1' q1') (.slice b2' n2' q2') (.slice b3' n3' q3') (.slice b4' b.p.length q4') (.slice b5' b.l.length q5') G H w.heap.size w1.heap.size) 0 wr):=⟨HTW.out,HKP.out,left - 1,HLB.out,HGO.out.1,Int.le_refl _,by rw[List.drop_zero,List.drop_zero];exact Co.pr_go HGO.out.1 HGO.out.2.1 HGO.out.2.2.1 HGO.out.2.2.2.1 HGO.out.2.2.2.2.1 HPE.out HGO.out.2.2.2.2.2.2 HSD.out⟩
  go_wp2;clear a9 HTW HLB HKP HTK
  go_loopw [10] (fun v wr=>∃j:Nat,v= .int .i64 j∧j≤a.l.length∧Hid (Co.PQ L a b deep left w (Co.Tw2 a (.slice b1 n1 q1) (.slice b2 n2 q2) (.slice b3 n3 q3) (.slice b4 a.p.length q4) (.slice b5 a.l.length q5) b (.slice b1' n1' q1') (.slice b2' n2' q2') (.slice b3' n3' q3') (.slice b4' b.p.length q4') (.slice b5' b.l.length q5') G H w.heap.size w1.heap.size) j wr)) (fun v _=>a.l.length - (intOf v).toNat)
  case atStart=>exact⟨0,rfl,by omega,HQ0⟩
  case round=>
   clear HQ0;obtain⟨i,rfl,hi,HL⟩:=hrel;by_cases hlt:i<a.l.length
   case neg=>
    have hge:(a.l.length:Int)≤(i:Int):=by omega
    have HE1:Hid (Co.PPost L a b deep left w (.returned (.bool true)) wr):=by
     obtain⟨htw,hkp,lj,h1,h2,h3,h6⟩:=HL.out;rw[show i=a.l.length by omega,List.drop_length,Co.pairsL]at h6;show Co.PPost L a b deep left w (.returned (.bool true)) wr;unfold Co.PPost;rw[h6];exact⟨rfl,hkp,fun _=>⟨h1,h2,by show lj≤left;omega⟩⟩
    have a10:=HL.out.tw.ba.cell 10 rfl;go_wp2;go_ret;exact HE1.out
   have hlti:(i:Int)<(a.l.length:Int):=by omega
   have hltn:i<b.l.length:=by have:=HGO.out.2.2.2.2.2.2;omega
   have hltb:(i:Int)<(b.l.length:Int):=by omega
   obtain⟨htw,hkp,lj,h1,h2,h3,h6⟩:=HL.out;obtain⟨wd,hwd⟩:∃wd,wr.drew=wd:=⟨_,rfl⟩
   have hbd:Below wr.heap.size wr wd:=by rw[←hwd];exact Co.drew_below wr
   have c10:=htw.ba.cell 10 rfl;have htwd:=htw.below hbd;obtain⟨-,-,⟨_,_,he,_,hrow⟩⟩:=(Co.rep_iff _ _ _ _ _ _ _ _).1 htwd.ra;injection he with he1 he2 he3
   subst he1;clear he2 he3;obtain⟨ba,oa,rfl,hGa,hbla,hrepsa⟩:=hrow (by intro h0;rw[h0]at hlt;simp at hlt);obtain⟨xm,xl,xt,xp,xk,hela,hrx⟩:=hrepsa.at i hlt;obtain⟨-,-,⟨_,_,he,_,hrow'⟩⟩:=(Co.rep_iff _ _ _ _ _ _ _ _).1 htwd.rb;injection he with he1 he2 he3
   subst he1;clear he2 he3;obtain⟨bb,ob,rfl,hHb,hblb,hrepsb⟩:=hrow' (by intro h0;rw[h0]at hltn;simp at hltn);obtain⟨ym,yl,yt,yp,yk,helb,hry⟩:=hrepsb.at i hltn;have hWx:Co.Wf a.l[i]:=Co.Wfs.at (Co.wf_parts HWA.out).2.2.2.2.2.2 i hlt;have hWy:Co.Wf b.l[i]:=Co.Wfs.at (Co.wf_parts HWB.out).2.2.2.2.2.2 i hltn;have hch:=HCH.out a.l[i] (List.getElem_mem hlt);rw[List.drop_eq_getElem_cons hlt,List.drop_eq_getElem_cons hltn,Co.pairsL]at h6;obtain⟨x,hx⟩:∃x,a.l[i]=x:=⟨_,rfl⟩
   obtain⟨y,hy⟩:∃y,b.l[i]=y:=⟨_,rfl⟩
   rw[hx]at hela hrx hWx hch h6;rw[hy]at helb hry hWy h6;have hcall:=hch y G H xm xl xt xp xk ym yl yt yp yk wd (deep+1) lj hWx hWy HG.out HH.out hrx hry (Hp.below h1 hbd) h2 (by omega) (by have:=HGO.out.2.1;omega);obtain⟨⟨r1,r2⟩,hR⟩:∃R,Co.pairs x y (deep+1) lj=R:=⟨_,rfl⟩
   unfold Co.PPost at hcall;rw[hR]at hcall h6;unfold Co.V at hcall;dsimp only at hcall h6;rw[show((deep+1:Nat):Int)=(deep:Int)+1 from rfl]at hcall;obtain⟨e0,e1,e2,e3,e4,e5,e6,e7,e8,e9,e10⟩:=hela;obtain⟨q0,q1,q2,q3,q4,q5,q6,q7,q8,q9,q10⟩:=helb;have a10:=htwd.ba.cell 10 rfl;have b10:=htwd.bb.cell 10 rfl;have HTWD:=zh htwd;have HKPD:Hid (Keep (fun k=>k=L) w wd):=hkp.below hbd;have H6:=zh h6;have H3:=zh h3;clear htw hkp h1 h2 h3 h6 hbd htwd hrow hrow' hrepsa hrepsb hrx hry hWx hWy hch hx hy hR;go_wp2;refine wp_region_still_tail 13 (by kernel_rfl) (by kernel_rfl) ?_;change wpStill _ _ wr.drew _ _ _;rw[hwd];have HWD:=zh hwd;clear hwd c10;simp only[List.take_succ_cons,List.take_zero,List.drop_succ_cons,List.drop_zero];repeat still_step
   try refine wpStill_nil ?_
   go_wp2_with fail
   rw[HWD.out];refine hcall.mono ?_;rintro e w9 ⟨rfl,hk9,ht9⟩;clear e0 e1 e2 e3 e4 e5 e6 e7 e8 e9 e10 q0 q1 q2 q3 q4 q5 q6 q7 q8 q9 q10 a10 b10 hcall;have HK9:Hid (Keep (fun k=>k=L) w w9):=HKPD.out.trans hk9;have HT9:=zh ht9;have HTW9:=zh (HTWD.out.keep hk9 HNL.out.1 HNL.out.2 HG.out HH.out);clear hk9 ht9
   cases r1 with
   |false=>
    have HR:Hid (Co.PPost L a b deep left w (.returned (.bool false)) w9):=by
     have e:Co.pairs a b deep left=(false,r2):=by rw[H6.out];rfl
     show Co.PPost L a b deep left w (.returned (.bool false)) w9;unfold Co.PPost;rw[e];exact⟨rfl,HK9.out,fun h=>by cases h⟩
    go_wp2;go_ret;exact HR.out
   |true=>
    have HL9:Hid (Co.PQ L a b deep left w (Co.Tw2 a (.slice b1 n1 q1) (.slice b2 n2 q2) (.slice b3 n3 q3) (.slice b4 a.p.length q4) (.slice (some ⟨ba,oa,none⟩) a.l.length q5) b (.slice b1' n1' q1') (.slice b2' n2' q2') (.slice b3' n3' q3') (.slice b4' b.p.length q4') (.slice (some ⟨bb,ob,none⟩) b.l.length q5') G H w.heap.size w1.heap.size) (i+1) w9):=by
     obtain⟨h1,h2,h3⟩:=HT9.out rfl;exact⟨HTW9.out,HK9.out,r2,h1,h2,Int.le_trans h3 H3.out,H6.out⟩
    go_wp2;go_roundw
    case rel=>exact⟨i+1,by simp,by omega,HL9⟩
    case measure=>simp[intOf];omega
mutual
theorem coRPairs_any(L:Nat):∀a:Co.C,Co.PairsIs L a
 | .mk k n s d p l=>coRPairs_step L (.mk k n s d p l) (coRPairsL_any L l)
theorem coRPairsL_any(L:Nat):∀(l:List Co.C),∀y∈l,Co.PairsIs L y
 |[],_,h=>absurd h (by simp)
 |c :: r,y,h=>(List.mem_cons.1 h).elim (fun e=>by rw[e];exact coRPairs_any L c) (fun h'=>coRPairsL_any L r y h')
end
theorem coRSame_any{F G:Nat→Prop}(a b:Co.C)(vm vl vt vp vk um ul ut up uk:Value)(w:World)(hWa:Co.Wf a)(hWb:Co.Wf b)(hRa:Co.Rep F w a vm vl vt vp vk)(hRb:Co.Rep G w b um ul ut up uk):
  Calls Tryz.prog 13 #[Co.V a vm vl vt vp vk,Co.V b um ul ut up uk] w fun e w'=>e= .returned (.bool (Co.same a b))∧Below w.heap.size w w':=by
 unfold Co.V;obtain⟨w1,hw1⟩:∃w1,w.alloc (.cells #[.int .i64 a.k,.int .i64 a.n,.string a.s,.int .i64 a.d.k,.int .i64 a.d.n,.string a.d.s,vm,vl,vt,vp,vk] 28)=w1:=⟨_,rfl⟩
 obtain⟨w2,hw2⟩:∃w2,w1.alloc (.cells #[.int .i64 b.k,.int .i64 b.n,.string b.s,.int .i64 b.d.k,.int .i64 b.d.n,.string b.d.s,um,ul,ut,up,uk] 28)=w2:=⟨_,rfl⟩
 obtain⟨w3,hw3⟩:∃w3,w2.alloc (.cells #[.int .i64 8192] 3)=w3:=⟨_,rfl⟩
 obtain⟨hb1,hs1⟩:=new_below hw1;obtain⟨hb2,hs2⟩:=new_below hw2;obtain⟨hb3,hs3⟩:=new_below hw3;have hb12:Below w.heap.size w w2:=btr hb1 hb2;have hb13:Below w.heap.size w w3:=btr hb12 hb3;have HA:Hid (Co.Bc w3 w.heap.size a vm vl vt vp vk):=Hp.below (Hp.below (Hp.new hw1) hb2) hb3;have HB:Hid (Co.Bc w3 w1.heap.size b um ul ut up uk):=Hp.below (Hp.new hw2) hb3;have hlb:Co.LBs w3 w2.heap.size 8192:=Hp.new hw3;have hz:w.heap.size<w2.heap.size:=by omega
 have hcall:=coRPairs_any w2.heap.size a b (fun k=>k<w.heap.size) (fun k=>k<w.heap.size) vm vl vt vp vk um ul ut up uk w3 1 8192 hWa hWb (fun k hk=>by omega) (fun k hk=>by omega) (Co.Rep.mono (fun _ _ h=>h) a hRa |>.below hb13) (Co.Rep.mono (fun _ _ h=>h) b hRb |>.below hb13) hlb (by decide) (by decide) (by decide);have HKB:Hid (∀wx,Keep (fun k=>k=w2.heap.size) w3 wx→Below w.heap.size w wx):=fun wx hk=>hb13.trans (hk.to_below (fun k e=>by omega) hb13.size)
 obtain⟨R,hR⟩:∃R,Co.same a b=R:=⟨_,rfl⟩
 have hR2:(Co.pairs a b 1 8192).1=R:=hR;unfold Co.PPost at hcall;rw[hR2]at hcall;rw[hR];unfold Co.V at hcall;obtain⟨a0,a1,a2,a3,a4,a5,a6,a7,a8,a9,a10⟩:=HA.out.c11;obtain⟨zb0,zb1,zb2,zb3,zb4,zb5,zb6,zb7,zb8,zb9,zb10⟩:=HB.out.c11;clear hWa hWb hRa hRb hb1 hb2 hb3 hb12 hb13 hs1 hs2 hs3 hlb hz hR hR2;go_enter Tryz.func13,Tryz.ntmps13;go_wp2_with fail
 try rw[hw1,hw2,hw3]
 refine hcall.mono ?_;rintro e w4 ⟨rfl,hk4,-⟩;have HF:=zh (HKB.out w4 hk4);clear hcall hk4 hw1 hw2 hw3;clear a0 a1 a2 a3 a4 a5 a6 a7 a8 a9 a10 zb0 zb1 zb2 zb3 zb4 zb5 zb6 zb7 zb8 zb9 zb10;go_wp2;go_ret;exact⟨rfl,HF.out⟩
end Go.Proofs.YtfjmlfbohenmfaaGreat
namespace Go.Proofs.YtfjmlfbohenmfaaGreat
open Go.RowKit Go.Sort
attribute [local go_sem] Oper.semAt_some
theorem CoreNames_walk{F:Nat→Prop}(c:Co.C)(cm cl ct cp ck:Value)(m:Nat)(w:World)(hWc:Co.Wf c)(hRc:Co.Rep F w c cm cl ct cp ck)(hm:m<256):
  Calls Tryz.prog 6 #[Co.V c cm cl ct cp ck,.int .u8 (m:Int)] w fun e w'=>e= .returned (.bool true)∧Below w.heap.size w w':=by
 obtain⟨w1,hw1⟩:∃w1,w.alloc (.cells #[.int .i64 c.k,.int .i64 c.n,.string c.s,.int .i64 c.d.k,.int .i64 c.d.n,.string c.d.s,cm,cl,ct,cp,ck] 28)=w1:=⟨_,rfl⟩
 obtain⟨hb1,hs1⟩:=new_below hw1;have hq1:Co.Bc w1 w.heap.size c cm cl ct cp ck:=Hp.new hw1;have HQ:Hid (∀W,Below w1.heap.size w1 W→Co.Bc W w.heap.size c cm cl ct cp ck∧Co.Rep (fun k=>k<w1.heap.size) W c cm cl ct cp ck):=fun W hW=>
  ⟨Hp.below hq1 hW,((Co.Rep.mono (fun _ _ h=>by omega) c hRc).below hb1).below hW⟩
 have HW:=zh hWc;have HB1:=zh hb1;have HLc:Hid (∀(ev:Operand→Value) (y:Operand) (d:Option Tmp) (ty:TypeId) (po:String) (af:Array Edge) (gu:Option (Nat×Bool)),ev y= .pointer (some ⟨w.heap.size,0,none⟩)→∀W,Below w1.heap.size w1 W→(execOp ev ⟨d,.load 28 y,ty,po,af,gu⟩).run Tryz.prog W= .ok (.value (Co.V c cm cl ct cp ck)) W):=by
  intro ev y d ty po af gu hy W hW;obtain⟨hqc,-⟩:=HQ.out W hW;have HQx:=zh hqc;clear hqc hW;obtain⟨xx0,xx1,xx2,xx3,xx4,xx5,xx6,xx7,xx8,xx9,xx10⟩:=HQx.out.c11;clear HQx;unfold Co.V;go_simp
 have haw:=coAwake_any w1;clear hb1 hs1 hq1 hRc hWc;unfold Co.V;go_enter Tryz.func6,Tryz.ntmps6;go_wp2_with fail
 try rw[hw1]
 refine haw.mono ?_;rintro e w4 ⟨rfl,hb4⟩;have HB4:=zh hb4;obtain⟨hqc,hrc⟩:=HQ.out w4 hb4;have HQc:=zh hqc;obtain⟨xc0,xc1,xc2,xc3,xc4,xc5,xc6,xc7,xc8,xc9,xc10⟩:=HQc.out.c11;clear hqc HQc;obtain⟨w5,hw5⟩:∃w5,w4.alloc (.cells #[.int .i64 c.k,.int .i64 c.n,.string c.s,.int .i64 c.d.k,.int .i64 c.d.n,.string c.d.s,cm,cl,ct,cp,ck] 28)=w5:=⟨_,rfl⟩
 obtain⟨hb5,hs5⟩:=new_below hw5;have hp5:=Hp.new hw5;have hz4:=hb4.size;have hfew:=coFew_any (F:=fun k=>k<w5.heap.size) [c] (.slice (some ⟨w4.heap.size,0,none⟩) 1 1) w5 (by rw[Co.Wfs,Co.Wfs];exact⟨HW.out,trivial⟩) (fun _ h=>h) (by simp) ⟨some ⟨w4.heap.size,0,none⟩,1,rfl,by simp,fun _=>⟨w4.heap.size,0,rfl,by omega,by omega,by
  rw[Co.Reps,Co.Reps];exact⟨⟨cm,cl,ct,cp,ck,Co.El.ofHp hp5 rfl rfl rfl rfl rfl rfl rfl rfl rfl rfl rfl,Co.Rep.mono (fun _ _ h=>h) c (hrc.below hb5)⟩,trivial⟩⟩⟩
 have HB5:Hid (Below w1.heap.size w1 w5):=btr hb4 hb5;clear haw hw1 hb4 hrc hb5 hs5 hp5 hz4;go_wp2_with fail
 try rw[hw5]
 refine hfew.mono ?_;rintro e w6 ⟨fb,rfl,hb6⟩;have HB6:Hid (Below w1.heap.size w1 w6):=btr HB5.out hb6;clear xc0 xc1 xc2 xc3 xc4 xc5 xc6 xc7 xc8 xc9 xc10;clear hfew hw5 hb6 HB5 HB4
 cases fb with
 |false=>
  have haw:=coAwake_any w6;go_wp2_with fail
  refine haw.mono ?_;rintro e w7 ⟨rfl,hb7⟩;have HB7:Hid (Below w1.heap.size w1 w7):=btr HB6.out hb7;clear haw hb7;go_wp2;go_ret;exact⟨rfl,(btr HB1.out HB7.out)⟩
 |true=>
  obtain⟨hqc,hrc⟩:=HQ.out w6 HB6.out;have HQc:=zh hqc;obtain⟨xc0,xc1,xc2,xc3,xc4,xc5,xc6,xc7,xc8,xc9,xc10⟩:=HQc.out.c11;clear hqc HQc;have hra:=rAll07_any c _ _ _ _ _ w6 HW.out hrc;obtain⟨LS,hLS⟩:∃LS,Co.all c=LS:=⟨_,rfl⟩
  have HLS:=zh hLS;have hl8:LS.length≤8192:=by rw[←hLS];exact Co.all_len c
  rw[hLS]at hra;unfold Co.V at hra;clear hrc hLS;go_wp2_with fail
  refine hra.mono ?_;rintro e w7 ⟨v,ps,rfl,hown,hmap,-,hrep,hb7⟩;have HB7:Hid (Below w1.heap.size w1 w7):=btr HB6.out hb7;have hz6:=hb7.size;have hrow:Co.Row (fun k=>k<w7.heap.size) w7 v LS:=by
   have hcr:Co.CRow (fun k=>k<w6.heap.size) w7 w6.heap.size v ps:=⟨hown,fun p hp=>Co.Rep.mono (fun b hb _=>⟨.inl hb.2,fun e=>by have:=(Dt.own_lt hown b e).1;have:=hb.2;omega⟩) p.c (hrep p hp)⟩
   have h:=hcr.to_row;rw[hmap]at h;obtain⟨a0,c0,h1,h2,h3⟩:=h;refine⟨a0,c0,h1,h2,fun hn=> ?_⟩;obtain⟨b,o,g1,g2,g3,g4⟩:=h3 hn;exact⟨b,o,g1,g3,g3,Co.Reps.mono (fun b _ hl=>hl) LS g4⟩
  obtain⟨av,cv,rfl,hcv,hpt⟩:=hrow;have HROW:Hid (Co.Row (fun k=>k<w7.heap.size) w7 (.slice av LS.length cv) LS):=⟨av,cv,rfl,hcv,hpt⟩
  clear xc0 xc1 xc2 xc3 xc4 xc5 xc6 xc7 xc8 xc9 xc10;clear hra hown hmap hrep hb7 hz6 hcv hpt;obtain⟨hqc,hrc⟩:=HQ.out w7 HB7.out;have HQc:=zh hqc;obtain⟨xc0,xc1,xc2,xc3,xc4,xc5,xc6,xc7,xc8,xc9,xc10⟩:=HQc.out.c11;clear hqc HQc;have hall:=coAll_any c cm cl ct cp ck w7;unfold Co.V at hall;clear hrc;go_wp2_with fail
  refine hall.mono ?_;rintro e w8 ⟨rfl,hb8,hbc8,-⟩;have HB8:Hid (Below w1.heap.size w1 w8):=btr HB7.out hb8;have HB78:=zh hb8;have hto:=coTold_any c _ _ _ _ _ 1048576 (by decide) w7.heap.size w8 HW.out (HQ.out w8 HB8.out).2 hbc8;rw[HLS.out,List.take_of_length_le (by omega)]at hto;clear xc0 xc1 xc2 xc3 xc4 xc5 xc6 xc7 xc8 xc9 xc10;clear hall hb8 hbc8;go_wp2_with fail
  refine hto.mono ?_;rintro e w9 ⟨v,rfl,hrow9,hb9⟩;obtain⟨at_,qt,rfl,hqt,hpt⟩:=hrow9;have HROW9:Hid (Co.Row (fun k=>k<w9.heap.size) w9 (.slice at_ LS.length qt) LS):=⟨at_,qt,rfl,hqt,fun hn=>by
   obtain⟨b,o,e1,e2,e3,e4⟩:=hpt hn;exact⟨b,o,e1,e3,e3,Co.Reps.mono (fun b hb hl=>hl) LS e4⟩⟩
  have HB9:Hid (Below w1.heap.size w1 w9):=btr HB8.out hb9;have HB79:Hid (Below w7.heap.size w7 w9):=btr HB78.out hb9;clear hto hb9 hqt hpt HB78;obtain⟨hqc,hrc⟩:=HQ.out w9 HB9.out;have HQc:=zh hqc;obtain⟨xc0,xc1,xc2,xc3,xc4,xc5,xc6,xc7,xc8,xc9,xc10⟩:=HQc.out.c11;clear hqc HQc;have hall:=coAll_any c cm cl ct cp ck w9;obtain⟨q,hq⟩:∃q,q=min LS.length m:=⟨_,rfl⟩
  have hqi:min (LS.length:Int) (m:Int)=(q:Int):=by omega
  have hm0:(0:Int)≤(m:Int):=by omega
  have hm2:(m:Int)<256:=by omega
  have hwm:IntKind.i64.wrap (m:Int)=(m:Int):=IntWalk.i64_in _ (by omega);have HQQ:=zh hq;unfold Co.V at hall;clear hrc hq;go_wp2_with fail
  refine hall.mono ?_;rintro e wA ⟨rfl,hbA,hbcA,-⟩;have HBA:Hid (Below w1.heap.size w1 wA):=btr HB9.out hbA;have HB9A:=zh hbA;have hto:=coTold_any c _ _ _ _ _ m (by omega) w9.heap.size wA HW.out (HQ.out wA HBA.out).2 hbcA;rw[HLS.out]at hto;clear xc0 xc1 xc2 xc3 xc4 xc5 xc6 xc7 xc8 xc9 xc10;clear hall hbA hbcA;go_wp2_with fail
  refine hto.mono ?_;rintro e wB ⟨v,rfl,hrowB,hbB⟩;obtain⟨aB,qB,rfl,-,-⟩:=hrowB;have hlB:(LS.take m).length=q:=by rw[List.length_take,HQQ.out];omega
  rw[hlB];have HBB:Hid (Below w1.heap.size w1 wB):=btr HBA.out hbB;have HB9B:Hid (Below w9.heap.size w9 wB):=btr HB9A.out hbB;have HB7B:Hid (Below w7.heap.size w7 wB):=btr HB79.out HB9B.out;have HRA:Hid (∀W,Below wB.heap.size wB W→Co.Row (fun k=>k<wB.heap.size) W (.slice av LS.length cv) LS∧Co.Row (fun k=>k<wB.heap.size) W (.slice at_ LS.length qt) LS):=fun W hW=>by
   have h7:=HB7B.out.size;have h9:=HB9B.out.size;exact⟨(Co.row_mono (fun b hb=>by omega) (HROW.out.below HB7B.out)).below hW,(Co.row_mono (fun b hb=>by omega) (HROW9.out.below HB9B.out)).below hW⟩
  have HLP:Hid (Below wB.heap.size wB wB):=Below.refl _ _;clear hto hbB hlB HROW HROW9 HB79 HB9A HB9B HB7B HB8 HB9 HBA HB7 HB6;go_wp2;clear hqi hwm
  go_loopw [44] (fun v wr=>∃j:Nat,v= .int .i64 j∧j≤LS.length∧Hid (Below wB.heap.size wB wr)) (fun v _=>LS.length - (intOf v).toNat)
  case atStart=>exact⟨0,rfl,by omega,HLP⟩
  case round=>
   clear HLP;obtain⟨j,rfl,hj,HLP⟩:=hrel;have HBR:Hid (Below w1.heap.size w1 wr):=btr HBB.out HLP.out;by_cases hlt:j<LS.length
   case neg=>
    have hge:(LS.length:Int)≤(j:Int):=by omega
    have HS0:Below w1.heap.size w1 wr.drew:=HBR.out.drew;have HB10:=zh HS0;have HF1:Hid (∀W,Below w1.heap.size w1 W→Calls Tryz.prog 21 #[Co.V c cm cl ct cp ck] W fun e w'=>∃v,e= .returned v∧Dt.IRow (fun k=>W.heap.size≤k) w' v (Co.freeV c)∧Below W.heap.size W w'):=fun W hW=>freeC_any c _ _ _ _ _ W HW.out (HQ.out W hW).2
    have HF2:Hid (∀W,Below w1.heap.size w1 W→Calls Tryz.prog 26 #[Co.V c cm cl ct cp ck] W fun e w'=>∃v,e= .returned v∧Dt.IRow (fun k=>W.heap.size≤k) w' v (Co.freeV c)∧Below W.heap.size W w'):=fun W hW=>rFree07_any c _ _ _ _ _ W HW.out (HQ.out W hW).2
    have HS1:Hid (∀W,Below w1.heap.size w1 W→Calls Tryz.prog 18 #[Co.V c cm cl ct cp ck] W fun e w'=>∃v,e= .returned v∧Dt.IRow (fun k=>W.heap.size≤k) w' v (Co.setV c)∧Below W.heap.size W w'):=fun W hW=>setC_any c _ _ _ _ _ W HW.out (HQ.out W hW).2
    have HS2:Hid (∀W,Below w1.heap.size w1 W→Calls Tryz.prog 27 #[Co.V c cm cl ct cp ck] W fun e w'=>∃v,e= .returned v∧Dt.IRow (fun k=>W.heap.size≤k) w' v (Co.setV c)∧Below W.heap.size W w'):=fun W hW=>rSet07_any c _ _ _ _ _ W HW.out (HQ.out W hW).2
    have HG1:Hid (∀W,Below w1.heap.size w1 W→Calls Tryz.prog 20 #[Co.V c cm cl ct cp ck] W fun e w'=>∃v,e= .returned v∧Cd.NameRow (fun k=>W.heap.size≤k) w' v ((Co.globV c).map fun x=>⟨x.toArray⟩)∧Below W.heap.size W w'):=fun W hW=>globC_any c _ _ _ _ _ W HW.out (HQ.out W hW).2
    have HG2:Hid (∀W,Below w1.heap.size w1 W→Calls Tryz.prog 28 #[Co.V c cm cl ct cp ck] W fun e w'=>∃v,e= .returned v∧Cd.NameRow (fun k=>W.heap.size≤k) w' v ((Co.globV c).map fun x=>⟨x.toArray⟩)∧Below W.heap.size W w'):=fun W hW=>rGlob07_any c _ _ _ _ _ W HW.out (HQ.out W hW).2
    obtain⟨A1,hA1⟩:∃A1,Co.freeV c=A1:=⟨_,rfl⟩
    obtain⟨A2,hA2⟩:∃A2,Co.setV c=A2:=⟨_,rfl⟩
    obtain⟨A3,hA3⟩:∃A3:List ByteArray,(Co.globV c).map (fun x=>(⟨x.toArray⟩:ByteArray))=A3:=⟨_,rfl⟩
    have hl1:A1.length≤140737488355328:=by
     rw[←hA1];unfold Co.freeV;split
     ·rename_i h;obtain⟨g1,-,-,g4,-⟩:=Co.all_ok h;rw[g4];exact Nat.le_trans (Co.free_facts g1 HW.out).1 (by decide)
     ·simp
    have hl2:A2.length≤140737488355328:=by
     rw[←hA2];have h1:=Co.puts_len (Co.all c);have h2:=Co.all_len c;unfold Co.setV;omega
    have hl3:A3.length≤140737488355328:=by rw[←hA3,List.length_map];exact Nat.le_trans (Co.globV_len c) (by decide)
    rw[hA1]at HF1 HF2;rw[hA2]at HS1 HS2;rw[hA3]at HG1 HG2;clear hA1 hA2 hA3;go_upto_region 13 with fail
    refine wp_region_noPanic ?_;refine wp_region_held_drew (S:=fun W=>Below w1.heap.size w1 W) (by kernel_rfl) HS0 (fun hHeld=> ?_);refine Zm.u 0 (Co.V c cm cl ct cp ck) rfl (HLc.out _ _ _ _ _ _ _ rfl) ?_;simp only[Act.put,za,zb,zc];refine Zm.u 2 (Co.V c cm cl ct cp ck) rfl (HLc.out _ _ _ _ _ _ _ rfl) ?_;simp only[Act.put,za,zb,zc];refine Zm.r 1 rfl (fun K hK=> ?_);go_simp;try unfold Co.V
    refine(HF1.out _ HB10.out).mono ?_;rintro e w11 ⟨va,rfl,hna,hb11⟩;have HNa:=zh hna;have HB11:Hid (Below w1.heap.size w1 w11):=btr HB10.out hb11;clear hna hb11;dsimp only;refine hK.out _ _ ?_ (fun hHeld=> ?_)
    ·exact HB11.out
    clear hK K;try simp only[Act.put,za,zb,zc]
    refine Zm.r 3 rfl (fun K hK=> ?_);go_simp;try unfold Co.V
    refine(HF2.out _ HB11.out).mono ?_;rintro e w12 ⟨vb,rfl,hnb,hb12⟩;have HNb:=zh hnb;have HNa2:=zh (HNa.out.below hb12);have HB12:Hid (Below w1.heap.size w1 w12):=btr HB11.out hb12;clear hnb hb12;dsimp only;refine hK.out _ _ ?_ (fun hHeld=> ?_)
    ·exact HB12.out
    clear hK K;try simp only[Act.put,za,zb,zc]
    refine Zm.r 4 rfl (fun K hK=> ?_);go_simp;refine(iEqual_any _ _ A1 A1 _ HNa2.out HNb.out hl1 hl1).mono ?_;rintro e w13 ⟨rfl,hb13⟩;rw[decide_eq_true rfl];have HB13:Hid (Below w1.heap.size w1 w13):=btr HB12.out hb13;clear hb13;dsimp only;refine hK.out _ _ ?_ (fun hHeld=> ?_)
    ·exact HB13.out
    clear hK K;try simp only[Act.put,za,zb,zc]
    refine Zm.u 5 (.bool true) rfl ?_ ?_
    ·intro w hSw;clear hSw;go_simp;try with_reducible rfl
    simp only[Act.put,za,zb,zc];refine Zm.u 6 (Co.V c cm cl ct cp ck) rfl (HLc.out _ _ _ _ _ _ _ rfl) ?_;simp only[Act.put,za,zb,zc];refine Zm.u 8 (Co.V c cm cl ct cp ck) rfl (HLc.out _ _ _ _ _ _ _ rfl) ?_;simp only[Act.put,za,zb,zc];refine Zm.r 7 rfl (fun K hK=> ?_);go_simp;try unfold Co.V
    refine(HS1.out _ HB13.out).mono ?_;rintro e w14 ⟨vc,rfl,hnc,hb14⟩;have HNc:=zh hnc;have HB14:Hid (Below w1.heap.size w1 w14):=btr HB13.out hb14;clear hnc hb14;dsimp only;refine hK.out _ _ ?_ (fun hHeld=> ?_)
    ·exact HB14.out
    clear hK K;try simp only[Act.put,za,zb,zc]
    refine Zm.r 9 rfl (fun K hK=> ?_);go_simp;try unfold Co.V
    refine(HS2.out _ HB14.out).mono ?_;rintro e w15 ⟨vd,rfl,hnd,hb15⟩;have HNd:=zh hnd;have HNc2:=zh (HNc.out.below hb15);have HB15:Hid (Below w1.heap.size w1 w15):=btr HB14.out hb15;clear hnd hb15;dsimp only;refine hK.out _ _ ?_ (fun hHeld=> ?_)
    ·exact HB15.out
    clear hK K;try simp only[Act.put,za,zb,zc]
    refine Zm.r 10 rfl (fun K hK=> ?_);go_simp;refine(iEqual_any _ _ A2 A2 _ HNc2.out HNd.out hl2 hl2).mono ?_;rintro e w16 ⟨rfl,hb16⟩;rw[decide_eq_true rfl];have HB16:Hid (Below w1.heap.size w1 w16):=btr HB15.out hb16;clear hb16;dsimp only;refine hK.out _ _ ?_ (fun hHeld=> ?_)
    ·exact HB16.out
    clear hK K;try simp only[Act.put,za,zb,zc]
    refine Zm.u 11 (.bool true) rfl ?_ ?_
    ·intro w hSw;clear hSw;go_simp;try with_reducible rfl
    simp only[Act.put,za,zb,zc];refine Zm.u 12 ?_ rfl ?_ ?_;rotate_left
    ·intro w hSw;clear hSw;go_simp;try with_reducible rfl
    simp only[Act.put,za,zb,zc];refine Zm.u 13 (Co.V c cm cl ct cp ck) rfl (HLc.out _ _ _ _ _ _ _ rfl) ?_;simp only[Act.put,za,zb,zc];refine Zm.u 15 (Co.V c cm cl ct cp ck) rfl (HLc.out _ _ _ _ _ _ _ rfl) ?_;simp only[Act.put,za,zb,zc];refine Zm.r 14 rfl (fun K hK=> ?_);go_simp;try unfold Co.V
    refine(HG1.out _ HB16.out).mono ?_;rintro e w17 ⟨ve,rfl,hne,hb17⟩;have HNe:=zh hne;have HB17:Hid (Below w1.heap.size w1 w17):=btr HB16.out hb17;clear hne hb17;dsimp only;refine hK.out _ _ ?_ (fun hHeld=> ?_)
    ·exact HB17.out
    clear hK K;try simp only[Act.put,za,zb,zc]
    refine Zm.r 16 rfl (fun K hK=> ?_);go_simp;try unfold Co.V
    refine(HG2.out _ HB17.out).mono ?_;rintro e w18 ⟨vf,rfl,hnf,hb18⟩;have HNf:=zh hnf;have HNe2:=zh (HNe.out.below hb18);have HB18:Hid (Below w1.heap.size w1 w18):=btr HB17.out hb18;clear hnf hb18;dsimp only;refine hK.out _ _ ?_ (fun hHeld=> ?_)
    ·exact HB18.out
    clear hK K;try simp only[Act.put,za,zb,zc]
    refine Zm.r 17 rfl (fun K hK=> ?_);go_simp;refine(sEqual_any _ _ A3 A3 _ HNe2.out HNf.out hl3 hl3).mono ?_;rintro e w19 ⟨rfl,hb19⟩;rw[decide_eq_true rfl];have HB19:Hid (Below w1.heap.size w1 w19):=btr HB18.out hb19;clear hb19;dsimp only;refine hK.out _ _ ?_ (fun hHeld=> ?_)
    ·exact HB19.out
    clear hK K;try simp only[Act.put,za,zb,zc]
    refine Zm.u 18 (.bool true) rfl ?_ ?_
    ·intro w hSw;clear hSw;go_simp;try with_reducible rfl
    simp only[Act.put,za,zb,zc];refine Zm.u 19 ?_ rfl ?_ ?_;rotate_left
    ·intro w hSw;clear hSw;go_simp;try with_reducible rfl
    simp only[Act.put,za,zb,zc];refine wpAnyH_done (by kernel_rfl) ?_ _;refine NoPanic.normal ?_;go_wp2;go_ret;exact⟨rfl,(btr HB1.out HB19.out)⟩
   have hlti:(j:Int)<(LS.length:Int):=by omega
   obtain⟨_,_,he,_,hrow⟩:=(HRA.out wr HLP.out).2;injection he with he1 he2 he3
   subst he1;clear he2 he3;obtain⟨ba,oa,rfl,hGa,hbla,hrepsa⟩:=hrow (by intro h0;rw[h0]at hlt;simp at hlt);obtain⟨xm,xl,xt,xp,xk,hela,hrx⟩:=hrepsa.at j hlt;obtain⟨x,hx⟩:∃x,LS[j]=x:=⟨_,rfl⟩
   rw[hx]at hela hrx;have hxm:x∈Co.all c:=by rw[HLS.out,←hx];exact List.getElem_mem hlt
   have HSS:Hid (Co.same x x=true):=Co.same_part hxm;have hwx:Co.Wf x:=by
    have h9:x∈Co.parts c:=by
     unfold Co.all at hxm;split at hxm
     ·exact hxm
     ·cases hxm
    exact Co.wf_mem c HW.out x h9
   obtain⟨c1,m1,p1,c2,m2,p2,c3,m3,p3,c4,m4,p4,c5,m5,p5,f1,f2,f3,f4,f5⟩:=Co.Rep.forms5 hrx;subst f1 f2 f3 f4 f5;obtain⟨wd,hwd⟩:∃wd,wr.alloc (.cells #[.int .i64 x.k,.int .i64 x.n,.string x.s,.int .i64 x.d.k,.int .i64 x.d.n,.string x.d.s,.slice c1 m1 p1,.slice c2 m2 p2,.slice c3 m3 p3,.slice c4 m4 p4,.slice c5 m5 p5] 28)=wd:=⟨_,rfl⟩
   obtain⟨hbd,hsd⟩:=new_below hwd;obtain⟨we,hwe⟩:∃we,wd.drew=we:=⟨_,rfl⟩
   have hbe:Below wd.heap.size wd we:=by rw[←hwe];exact Co.drew_below wd
   have hde:Below wr.heap.size wr we:=btr hbd hbe;have HD:Hid (Co.Bc we wr.heap.size x (.slice c1 m1 p1) (.slice c2 m2 p2) (.slice c3 m3 p3) (.slice c4 m4 p4) (.slice c5 m5 p5)):=Hp.below (Hp.new hwd) hbe;have HLE:Hid (Below wB.heap.size wB we):=btr HLP.out hde;obtain⟨_,_,he,_,hrow2⟩:=(HRA.out we HLE.out).1;injection he with he1 he2 he3
   subst he1;clear he2 he3;obtain⟨bb,ob,rfl,hGb,hblb,hrepsb⟩:=hrow2 (by intro h0;rw[h0]at hlt;simp at hlt);obtain⟨ym,yl,yt,yp,yk,helb,hry⟩:=hrepsb.at j hlt;rw[hx]at helb hry;have hsm:=coRSame_any x x _ _ _ _ _ ym yl yt yp yk we hwx hwx (hrx.below hde) hry;rw[HSS.out]at hsm;unfold Co.V at hsm;obtain⟨d0,d1,d2,d3,d4,d5,d6,d7,d8,d9,d10⟩:=HD.out.c11;obtain⟨e0,e1,e2,e3,e4,e5,e6,e7,e8,e9,e10⟩:=hela;obtain⟨y0,y1,y2,y3,y4,y5,y6,y7,y8,y9,y10⟩:=helb;have HBE:Hid (Below w1.heap.size w1 we):=btr HBB.out HLE.out;clear hrow hrow2 hrepsa hrepsb hrx hry hx hbd hsd hbe hde hxm hwx;go_wp2_with fail
   try rw[hwd]
   refine wp_region_still_tail 5 (by kernel_rfl) (by kernel_rfl) ?_;change wpStill _ _ wd.drew _ _ _;rw[hwe];have HWE:=zh hwe;clear hwe hwd;simp only[List.take_succ_cons,List.take_zero,List.drop_succ_cons,List.drop_zero];repeat still_step
   try refine wpStill_nil ?_
   go_wp2_with fail
   rw[HWE.out];refine hsm.mono ?_;rintro e wf ⟨rfl,hbf⟩;have HLF:Hid (Below wB.heap.size wB wf):=btr HLE.out hbf;clear e0 e1 e2 e3 e4 e5 e6 e7 e8 e9 e10 y0 y1 y2 y3 y4 y5 y6 y7 y8 y9 y10 hsm hbf HD;clear d0 d1 d2 d3 d4 d5 d6 d7 d8 d9 d10;go_wp2;go_roundw
   case rel=>exact⟨j+1,by simp,by omega,HLF⟩
   case measure=>simp[intOf];omega
theorem CoreNames_law{F:Nat→Prop}(c:Co.C)(cm cl ct cp ck:Value)(m:Int)(w:World)(hWc:Co.Wf c)(hRc:Co.Rep F w c cm cl ct cp ck)(hm:(Lit.int .u8 m).wf=true):
  Calls Tryz.prog 6 #[Co.V c cm cl ct cp ck,.int .u8 m] w fun e w'=>e= .returned (.bool true)∧Below w.heap.size w w':=by
 have h:=hm;simp only[Lit.wf,IntKind.min,IntKind.max,IntKind.signed,IntKind.bits,Bool.and_eq_true]at h;obtain⟨j,rfl⟩:∃j:Nat,m=(j:Int):=⟨m.toNat,by simp at h;omega⟩
 exact CoreNames_walk c cm cl ct cp ck j w hWc hRc (by simp at h;omega)
end Go.Proofs.YtfjmlfbohenmfaaGreat
