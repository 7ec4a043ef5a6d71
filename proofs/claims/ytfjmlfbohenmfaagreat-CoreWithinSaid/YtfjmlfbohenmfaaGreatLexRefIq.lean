/-
  LexRefIq.
-/
import Derived.Test.YtfjmlfbohenmfaaGreatLexRefHq
import Derived.Test.YtfjmlfbohenmfaaGreatLexRefBq
import Derived.Test.YtfjmlfbohenmfaaGreatCoreWithinLawZM3
import Derived.Test.YtfjmlfbohenmfaaGreatCoreWithinLawZM2
set_option maxRecDepth 100000
set_option maxHeartbeats 32000000
namespace Go.Proofs.YtfjmlfbohenmfaaGreat
open Go.RowKit Go.Sort
namespace Lx
theorem gap_tl(s:ByteArray)(n:Nat)(hn:n≤s.size):∃n' ok,gap (s.size - n) (tl s n)=(tl s n',ok)∧n≤n'∧n'≤s.size:=by
 have h1:(gap (s.size - n) (tl s n)).1<:+s.data.toList:=(gap_suf _ _).trans (List.drop_suffix _ _);have h2:=suf_drop _ _ h1;have h3:=gap_len (s.size - n) (tl s n);rw[tl_len]at h3;have h4:=Fx.size_toList s;refine⟨s.data.toList.length - (gap (s.size - n) (tl s n)).1.length,(gap (s.size - n) (tl s n)).2,?_,by omega,by omega⟩;exact Prod.ext h2 rfl
theorem own_bel{w w':World}{b size n:Nat}{e:TypeId}{v:Value}{xs:List Value}(h:w.ownsRow b e size v n xs)(hb:Below w.heap.size w w'):w'.ownsRow b e size v n xs:=by
 obtain⟨h0,h1⟩:=h;refine⟨h0,?_⟩;rcases h1 with h1|⟨g,cap,cur,e1,e2,e3,e4⟩
 ·exact .inl h1
 ·refine .inr ⟨g,cap,cur,e1,e2,?_,e4⟩;have hg:g<w.heap.size:=by
   apply Classical.byContradiction
   intro hh;rw[Array.getElem?_eq_none (by omega)]at e3;exact absurd e3 (by simp)
  rw[hb.block g hg];exact e3
theorem own_ne{w:World}{b size n:Nat}{T:TypeId}{v:Value}{xs:List Value}(h:w.ownsRow b T size v n xs):some w.heap.size≠v.ownBlock:=by
 intro he;have:=(h.lt _ he.symm).2;omega
theorem row_form{w:World}{b size n:Nat}{T:TypeId}{pv:Value}{xs:List Value}(ho:w.ownsRow b T size pv n xs):∃a c,pv= .slice a n c:=by
 rcases Joins.ownsRow_forms ho with⟨rfl,hz⟩|⟨g,cap,rfl,_⟩
 ·exact⟨none,0,by rw[hz]⟩
 ·exact⟨_,_,rfl⟩
end Lx
theorem WordsR_any(s:ByteArray)(w:World)(hs:s.size≤9223372036854775807):
  Calls Tryz.prog 108 #[.string s] w (Lx.WordsPost (Lx.lex s.data.toList) w):=by
 by_cases hl:16384<s.size
 ·have HR:Hid (Lx.lex s.data.toList=([],0,3)):=by show _=_;unfold Lx.lex;rw[if_pos (by rw[Fx.size_toList];exact hl)]
  have hli:16384<(s.size:Int):=by omega
  go_enter Tryz.func108,Tryz.ntmps108;go_wp2
  go_ret3
  exact .err 0 3 HR.out (by decide) (Below.refl _ _) rfl
 have hli:¬16384<(s.size:Int):=by omega
 have HL:Hid (Lx.lex s.data.toList=if !s.data.toList.all Lx.okByte then([],(s.data.toList.takeWhile Lx.okByte).length,32)else Lx.words s.size (s.size+1) 0 s.data.toList):=by
  show _=_;unfold Lx.lex;rw[if_neg (by rw[Fx.size_toList];exact hl),Fx.size_toList]
 go_enter Tryz.func108,Tryz.ntmps108;go_wp2_with fail
 go_loopw [5] (fun v wr=>∃k:Nat,v= .int .i64 k∧k≤s.size∧Hid (∀j,j<k→(hj:j<s.size)→Lx.okByte s[j]=true)∧w=wr) (fun v _=>s.size - (intOf v).toNat)
 case atStart=>exact⟨0,rfl,by omega,(fun j hj=>absurd hj (by omega)),rfl⟩
 case round=>
  obtain⟨k,rfl,hk,HI,rfl⟩:=hrel;by_cases hlt:k<s.size
  case pos=>
   have hlt':(k:Int)<(s.size:Int):=by omega
   have hcb:=Lx.b8 s[k];cases hok:Lx.okByte s[k]
   ·have HR:Hid (Lx.lex s.data.toList=([],k,32)):=by
     show _=_;rw[HL.out,if_pos]
     ·have e0:s.data.toList=Lx.tl s 0:=by unfold Lx.tl;simp
      rw[e0,Lx.run_len Lx.okByte s 0 k (by omega) hk (fun j _ h2=>HI.out j h2 (by omega)) (fun _=>hok)]
      rfl
     ·have:s.data.toList.all Lx.okByte=false:=by
       rw[List.all_eq_false];exact⟨s[k],by have h:=List.getElem_mem (l:=s.data.toList) (n:=k) (by rw[Fx.size_toList];exact hlt);exact h,by rw[hok];simp⟩
      rw[this];rfl
    rw[Lx.ok_int]at hok;clear HL HI;by_cases l1:(s[k].toNat:Int)≤126
    ·have l1n:s[k].toNat≤126:=by omega
     by_cases l2:32≤(s[k].toNat:Int)
     ·simp[l1,l2]at hok
     ·have hw:Lx.white s[k]=false:=by simpa[l1,l2]using hok
      go_wp2_with fail
      refine(blankR_any _ _).mono ?_;rintro e w1 ⟨rfl,rfl⟩;rw[hw];go_wp2
      go_ret3
      exact .err k 32 HR.out (by decide) (Below.refl _ _) rfl
    ·go_wp2
     go_ret3
     exact .err k 32 HR.out (by decide) (Below.refl _ _) rfl
   ·have HI2:Hid (∀j,j<k+1→(hj:j<s.size)→Lx.okByte s[j]=true):=fun j hj h'=>by
     by_cases e:j=k
     ·subst e;exact hok
     ·exact HI.out j (by omega) h'
    rw[Lx.ok_int]at hok;have l1:(s[k].toNat:Int)≤126:=by
     apply Classical.byContradiction
     intro h;simp[h]at hok
    by_cases l2:32≤(s[k].toNat:Int)
    ·go_wp2;go_roundw
     case rel=>exact⟨k+1,by simp,by omega,HI2,trivial⟩
     case measure=>simp[intOf];omega
    ·have hw:Lx.white s[k]=true:=by simpa[l1,l2]using hok
     go_wp2_with fail
     refine(blankR_any _ _).mono ?_;rintro e w1 ⟨rfl,rfl⟩;rw[hw];go_wp2;go_roundw
     case rel=>exact⟨k+1,by simp,by omega,HI2,trivial⟩
     case measure=>simp[intOf];omega
  have hge:(s.size:Int)≤(k:Int):=by omega
  have hall:=Lx.all_ok s (fun j hj=>HI.out j (by omega) hj);have HL2:Hid (Lx.lex s.data.toList=Lx.words s.size (s.size+1) 0 (Lx.tl s 0)):=by
   show _=_;rw[HL.out,hall];rw[show s.data.toList=Lx.tl s 0 by unfold Lx.tl;simp]
   rfl
  have HOK:Hid (∀j,(hj:j<s.size)→Lx.okByte s[j]=true):=fun j hj=>HI.out j (by omega) hj
  clear HL HI hall;obtain⟨i0,hi,hz0,hz1,hz2⟩:=info_parts Lx.infoTok;go_wp2_with fail
  go_loopw [6,7] (fun v v2 wr=>∃(n f:Nat) (acc:List Lx.PTok) (vv:Value),v=vv∧v2= .int .i64 n∧n≤s.size∧s.size+1≤n+f∧acc.length≤4096∧Hid (Lx.lex s.data.toList=Lx.app acc (Lx.words s.size f acc.length (Lx.tl s n)))∧Hid (wr.ownsRow w.heap.size 144 5 vv acc.length (Lx.flatT acc))∧Below w.heap.size w wr) (fun _ v2 _=>s.size - (intOf v2).toNat)
  case atStart=>
   refine⟨0,s.size+1,[],_,rfl,rfl,by omega,by omega,by simp,?_,World.ownsRow_nil _ _ _ _,Below.refl _ _⟩;show _=_;rw[HL2.out];exact(Lx.words_norm _ _ _ _).symm
  case round=>
   obtain⟨n,f,acc,vv,rfl,rfl,hn,hf,hacc,HM,HO,hbl⟩:=hrel;obtain⟨a,c,rfl⟩:=Lx.row_form HO.out;obtain⟨f,rfl⟩:∃g,f=g+1:=⟨f - 1,by omega⟩
   obtain⟨n',ok,hg,hnn1,hn'⟩:=Lx.gap_tl s n hn;have hM:=HM.out;have hend:=Lx.gap_end (s.size - n) (Lx.tl s n) (by rw[Lx.tl_len];exact Nat.le_refl _);rw[Lx.words_step,Lx.tl_len,hg]at hM;rw[hg]at hend;simp only[]at hM hend;rw[Lx.tl_len,show s.size - (s.size - n')=n' by omega]at hM;have hSK:=fun wq=>skipR_any s n (s.size - n) wq (by omega) hn (Nat.le_refl _)
   rw[hg]at hSK;have HBL:=zh hbl;clear HM hbl;cases ok
   case false=>
    rw[Lx.skip_no s n' hn']at hSK;have HR:Hid (Lx.lex s.data.toList=([],n',31)):=hM;clear hM hend hg;go_wp2_with fail
    refine(hSK _).mono ?_;rintro e w2 ⟨rfl,rfl⟩;go_wp2
    go_ret3
    exact .err n' 31 HR.out (by decide) HBL.out rfl
   case true=>
    rw[Lx.skip_ok s n' hn']at hSK;simp only[Bool.true_eq_false,if_false]at hM;by_cases hge2:s.size≤n'
    ·have hgei:(s.size:Int)≤(n':Int):=by omega
     have HR:Hid (Lx.lex s.data.toList=(acc,0,0)):=by
      show _=_;rw[hM,if_pos (Lx.tl_nil s n' hge2)];unfold Lx.app;simp
     clear hM hend hg;go_wp2_with fail
     refine(hSK _).mono ?_;rintro e w2 ⟨rfl,rfl⟩;go_wp2
     go_ret3
     refine⟨HBL.out,.inl ⟨by rw[HR.out],_,rfl,?_⟩⟩;rw[HR.out];exact HO.out
    ·have hlt2:n'<s.size:=by omega
     have hlti:¬ (s.size:Int)≤(n':Int):=by omega
     have hnn:Lx.tl s n'≠[]:=by intro hh;have:=congrArg List.length hh;rw[Lx.tl_len]at this;simp at this;omega
     rw[if_neg hnn]at hM;obtain⟨hwh,h59⟩:=(hend rfl).resolve_left hnn;have h00:(Lx.pk (Lx.tl s n') 0==0)=false:=by
      have hk:=HOK.out n' hlt2;rw[Lx.pk_in s n' 0 hlt2];show(s[n']==0)=false;cases h:(s[n']==0)
      ·rfl
      ·have h':s[n']=0:=by simpa using h
       rw[h']at hk;exact absurd hk (by decide)
     by_cases h4:acc.length=4096
     ·have h4i:4096≤(acc.length:Int):=by omega
      rw[if_pos h4]at hM;have HR:Hid (Lx.lex s.data.toList=([],n',3)):=hM;clear hM h4 hend hg hwh h59 h00;go_wp2_with fail
      refine(hSK _).mono ?_;rintro e w2 ⟨rfl,rfl⟩;go_wp2
      go_ret3
      exact .err n' 3 HR.out (by decide) HBL.out rfl
     ·have h4i:¬4096≤(acc.length:Int):=by omega
      rw[if_neg h4]at hM;have hWD:=fun wq=>wordR_any s n' wq (by omega) hlt2 (fun j hj h0=>by have hk:=HOK.out j hj;rw[h0]at hk;exact absurd hk (by decide)) (by have h:=hwh;rw[Lx.pk_in s n' 0 hlt2]at h;exact h) (by have h:=h59;rw[Lx.pk_in s n' 0 hlt2]at h;intro h0;rw[show s[n'+0]=s[n']from rfl,h0]at h;exact absurd h (by decide))
      have HSK:=zh hSK;have HWD:=zh hWD;clear hSK hWD
      cases hword:Lx.word (Lx.tl s n')with
      |err cc0=>
       rw[hword]at hM;have hc0:=Lx.word_err _ _ hword;have HR:Hid (Lx.lex s.data.toList=([],n',cc0)):=hM.trans (Lx.app_err _ _ _ hc0);have HWO:=zh hword;clear hM hword hwh h59 h00 hend hg hnn;go_wp2_with fail
       refine(HSK.out _).mono ?_;rintro e w2 ⟨rfl,rfl⟩;go_wp2_with fail
       refine(HWD.out _).mono ?_;intro e w3 hpost;rw[HWO.out]at hpost;obtain⟨kk,z,m,x,cc,rfl,hbw,rfl⟩:=hpost;have hbl3:=zh ((btr HBL.out hbw));have hcb:(cc !=0)=true:=by simp[hc0]
       clear hbw;go_wp2
       go_ret3
       exact .err n' cc HR.out hc0 (hbl3.out.alloc hbl3.out.size _) rfl
      |tok tk rest=>
       rw[hword]at hM;have hlen:=Lx.word_len _ hnn hwh h59 h00 _ _ hword;rw[Lx.tl_len]at hlen;have HWO:=zh hword;clear hword hwh h59 h00 hend hg hnn;have hMM:=zh hM;clear hM;go_wp2_with fail
       refine(HSK.out _).mono ?_;rintro e w2 ⟨rfl,rfl⟩;go_wp2_with fail
       refine(HWD.out _).mono ?_;intro e w3 hpost;rw[HWO.out]at hpost;obtain⟨kk,z,m,x,cc,rfl,hbw,rfl,rfl,rfl,rfl,n2,rfl,hn2,rfl⟩:=hpost;have hM:=hMM.out;rw[Lx.tl_len,show s.size - (s.size - n2)=n2 by omega,Lx.app_cons]at hM;rw[Lx.tl_len]at hlen;have HM2:=zh hM;have hO3:=zh (Lx.own_bel HO.out hbw);have hb3:=hbw.size;have hb2s:=HBL.out.size;have hbl3:=zh ((btr HBL.out hbw));clear hbw hM hMM;have htk:=Lx.TkAt.alloc w3 tk.k (n':Int) (n2:Int) tk.n ⟨tk.s.toArray⟩ 144;have a0:=htk.c0;have a1:=htk.c1;have a2:=htk.c2;have a3:=htk.c3;have a4:=htk.c4;have hfive:=Lx.five_new (w3.alloc (.cells #[.int .i64 tk.k,.int .i64 (n':Int),.int .i64 (n2:Int),.int .i64 tk.n,.string ⟨tk.s.toArray⟩] 144)) tk.k (n':Int) (n2:Int) tk.n ⟨tk.s.toArray⟩ 144;rw[show(w3.alloc (.cells #[.int .i64 tk.k,.int .i64 (n':Int),.int .i64 (n2:Int),.int .i64 tk.n,.string ⟨tk.s.toArray⟩] 144)).heap.size=w3.heap.size+1 by simp]at hfive;have hO4:=(hO3.out.alloc (.cells #[.int .i64 tk.k,.int .i64 (n':Int),.int .i64 (n2:Int),.int .i64 tk.n,.string ⟨tk.s.toArray⟩] 144)).alloc (.cells #[.int .i64 tk.k,.int .i64 (n':Int),.int .i64 (n2:Int),.int .i64 tk.n,.string ⟨tk.s.toArray⟩] 144);have HTK:=zh htk;clear htk;go_wp2_with(at_builtin;refine wpList_append_own _ rfl _ _ 137 rfl w.heap.size 144 i0 (.agg #[.int .i64 0,.int .i64 0,.int .i64 0,.int .i64 0,.string ⟨#[]⟩]) 5 48 Tryz.underlying137 hi hz0 hz1 hz2 rfl (by decide) _ _ _ rfl hO4 ⟨w3.heap.size+1,0,none⟩ 1 1 [.int .i64 tk.k,.int .i64 (n':Int),.int .i64 (n2:Int),.int .i64 tk.n,.string ⟨tk.s.toArray⟩] rfl rfl hfive (fun x hx=>by simp at hx;rcases hx with rfl|rfl|rfl|rfl|rfl <;> rfl) (by unfold maxLen;omega) (by omega) (by simp;omega) ?_;intro v' w5 hown' hgrow3 hnil3;have c5:=World.grownBy.cell hgrow3 (a:=⟨w3.heap.size,2,none⟩) (v:= .int .i64 (n2:Int)) (by rw[World.cell?_alloc_lt _ _ _ (by simp)];exact a2) (Lx.own_ne hO3.out))
       have hb5:Below w.heap.size w3 w5:=Below.grown (((Below.refl w.heap.size w3).alloc (by omega) _).alloc (by simp;omega) _) hgrow3 (by simp;omega) (fun j hj=>(hO4.lt _ hj).1);go_roundw
       case rel=>exact⟨n2,f,acc++[⟨n',n2,tk⟩],_,rfl,rfl,hn2,by omega,by simp;try omega,(by show _=_;rw[HM2.out];simp),zh (by rw[List.length_append,Lx.flat_app];exact hown'),hbl3.out.trans (hb5.mono (by omega))⟩
       case measure=>simp[intOf];omega
end Go.Proofs.YtfjmlfbohenmfaaGreat
