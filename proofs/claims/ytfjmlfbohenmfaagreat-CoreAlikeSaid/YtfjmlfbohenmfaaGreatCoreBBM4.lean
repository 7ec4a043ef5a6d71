/-
  DtCheckb, TbSymRb, CdSymRb.
-/
import Derived.Test.YtfjmlfbohenmfaaGreatDtWalkb
import Derived.Test.YtfjmlfbohenmfaaGreatCoreBBM2
import Derived.Test.YtfjmlfbohenmfaaGreatLexRefCb
set_option maxRecDepth 100000
set_option maxHeartbeats 32000000
namespace Go.Proofs.YtfjmlfbohenmfaaGreat
open Go.RowKit
mutual
theorem Dt.down_any:∀x:Dt.D,Dt.Down x
 | .mk k n s m l t=>down_step (.mk k n s m l t) (Dt.downs_any l) (Dt.downs_any t)
theorem Dt.downs_any:∀(l:List Dt.D) (y:Dt.D),y∈l→Dt.Down y
 |[],_,h=>absurd h (by simp)
 |x :: r,y,h=>(List.mem_cons.1 h).elim (fun e=>by rw[e];exact Dt.down_any x) (fun h'=>Dt.downs_any r y h')
end
theorem Dt.frz_new(w:World)(C:Array Value)(T:TypeId)(j:Nat):(w.alloc (.cells C T)).frozen? ⟨w.heap.size,j,none⟩=false:=by
 unfold World.frozen?;rw[heap_alloc_new];simp
theorem Dt.one_new(w:World)(v:Value)(T:TypeId):(w.alloc (.cells #[v] T)).cell? ⟨w.heap.size,0,none⟩=some v:=by
 unfold World.cell?;rw[heap_alloc_new];rfl
theorem walkD_nil{F:Nat→Prop}(x:Dt.D)(vm vl vt:Value)(w:World)(hW:Dt.Wf x)(hR:Dt.Rep F w x vm vl vt):
  Calls Tryz.prog 80 #[.agg #[.int .i64 x.k,.int .i64 x.n,.string x.s,vm,vl,vt],.nilFunc] w fun e w'=>(∃a b:Int,e= .returned (.tuple #[.int .i64 a,.int .i64 b,.int .i64 (Dt.check x)]))∧Below w.heap.size w w':=by
 obtain⟨a1,n1,c1,a2,n2,c2,a3,n3,c3,rfl,rfl,rfl⟩:=hR.forms;obtain⟨X0,h0⟩:∃X,w.alloc (.cells #[.int .i64 x.k,.int .i64 x.n,.string x.s,.slice a1 n1 c1,.slice a2 n2 c2,.slice a3 n3 c3] 25)=X:=⟨_,rfl⟩
 obtain⟨X1,h1⟩:∃X,X0.alloc (.cells #[.nilFunc] 105)=X:=⟨_,rfl⟩
 obtain⟨X2,h2⟩:∃X,X1.alloc (.cells #[.int .i64 0] 3)=X:=⟨_,rfl⟩
 obtain⟨X3,h3⟩:∃X,X2.alloc (.cells #[.int .i64 0] 3)=X:=⟨_,rfl⟩
 obtain⟨X4,h4⟩:∃X,X3.alloc (.cells #[.bool false] 4)=X:=⟨_,rfl⟩
 obtain⟨X5,h5⟩:∃X,X4.alloc (.cells #[.nilFunc] 134)=X:=⟨_,rfl⟩
 have z0:X0.heap.size=w.heap.size+1:=by rw[←h0,World.size_alloc]
 have z1:X1.heap.size=w.heap.size+1+1:=by rw[←h1,World.size_alloc,z0]
 have z2:X2.heap.size=w.heap.size+1+1+1:=by rw[←h2,World.size_alloc,z1]
 have z3:X3.heap.size=w.heap.size+1+1+1+1:=by rw[←h3,World.size_alloc,z2]
 have z4:X4.heap.size=w.heap.size+1+1+1+1+1:=by rw[←h4,World.size_alloc,z3]
 have z5:X5.heap.size=w.heap.size+1+1+1+1+1+1:=by rw[←h5,World.size_alloc,z4]
 have b0:Below w.heap.size w X0:=by rw[←h0];exact(Below.refl _ _).alloc (Nat.le_refl _) _
 have b1:Below X0.heap.size X0 X1:=by rw[←h1];exact(Below.refl _ _).alloc (Nat.le_refl _) _
 have b2:Below X1.heap.size X1 X2:=by rw[←h2];exact(Below.refl _ _).alloc (Nat.le_refl _) _
 have b3:Below X2.heap.size X2 X3:=by rw[←h3];exact(Below.refl _ _).alloc (Nat.le_refl _) _
 have b4:Below X3.heap.size X3 X4:=by rw[←h4];exact(Below.refl _ _).alloc (Nat.le_refl _) _
 have b5:Below X4.heap.size X4 X5:=by rw[←h5];exact(Below.refl _ _).alloc (Nat.le_refl _) _
 have n1':X1.cell? ⟨w.heap.size+1,0,none⟩=some .nilFunc:=by rw[←h1,←z0];exact Dt.one_new _ _ _
 have n2':X2.cell? ⟨w.heap.size+1+1,0,none⟩=some (.int .i64 0):=by rw[←h2,←z1];exact Dt.one_new _ _ _
 have n3':X3.cell? ⟨w.heap.size+1+1+1,0,none⟩=some (.int .i64 0):=by rw[←h3,←z2];exact Dt.one_new _ _ _
 have n4':X4.cell? ⟨w.heap.size+1+1+1+1,0,none⟩=some (.bool false):=by rw[←h4,←z3];exact Dt.one_new _ _ _
 have n5':X5.cell? ⟨w.heap.size+1+1+1+1+1,0,none⟩=some .nilFunc:=by rw[←h5,←z4];exact Dt.one_new _ _ _
 have m2:X2.frozen? ⟨w.heap.size+1+1,0,none⟩=false:=by rw[←h2,←z1];exact Dt.frz_new _ _ _ _
 have m3:X3.frozen? ⟨w.heap.size+1+1+1,0,none⟩=false:=by rw[←h3,←z2];exact Dt.frz_new _ _ _ _
 have m5:X5.frozen? ⟨w.heap.size+1+1+1+1+1,0,none⟩=false:=by rw[←h5,←z4];exact Dt.frz_new _ _ _ _
 have b25:=(b3.trans (b4.mono (by omega))).trans (b5.mono (by omega));have b35:=b4.trans (b5.mono (by omega));have b15:=b2.trans (b25.mono (by omega));have hB5:Below w.heap.size w X5:=((b0.trans (b1.mono (by omega))).trans (b2.mono (by omega))).trans (b25.mono (by omega));have b05:Below X0.heap.size X0 X5:=(b1.trans (b15.mono (by omega)))
 have p1:=(b15.cell (p:=⟨w.heap.size+1,0,none⟩) (by simp;omega)).trans n1';have p2:=(b25.cell (p:=⟨w.heap.size+1+1,0,none⟩) (by simp;omega)).trans n2';have p3:=(b35.cell (p:=⟨w.heap.size+1+1+1,0,none⟩) (by simp;omega)).trans n3';have p4:=(b5.cell (p:=⟨w.heap.size+1+1+1+1,0,none⟩) (by simp;omega)).trans n4';have q2:=(b25.frozen (p:=⟨w.heap.size+1+1,0,none⟩) (by simp;omega)).trans m2;have q3:=(b35.frozen (p:=⟨w.heap.size+1+1+1,0,none⟩) (by simp;omega)).trans m3;have hsix:=Dt.six_new w x.k x.n x.s (.slice a1 n1 c1) (.slice a2 n2 c2) (.slice a3 n3 c3) 25;rw[h0]at hsix;have hlt0:w.heap.size<X0.heap.size:=by omega
 have d0:X5.cell? ⟨w.heap.size,0,none⟩=some (.int .i64 x.k):=(b05.cell (p:=⟨w.heap.size,0,none⟩) hlt0).trans (hsix 0 (by omega));have d1:X5.cell? ⟨w.heap.size,1,none⟩=some (.int .i64 x.n):=(b05.cell (p:=⟨w.heap.size,1,none⟩) hlt0).trans (hsix 1 (by omega));have d2:X5.cell? ⟨w.heap.size,2,none⟩=some (.string x.s):=(b05.cell (p:=⟨w.heap.size,2,none⟩) hlt0).trans (hsix 2 (by omega));have d3:X5.cell? ⟨w.heap.size,3,none⟩=some (.slice a1 n1 c1):=(b05.cell (p:=⟨w.heap.size,3,none⟩) hlt0).trans (hsix 3 (by omega));have d4:X5.cell? ⟨w.heap.size,4,none⟩=some (.slice a2 n2 c2):=(b05.cell (p:=⟨w.heap.size,4,none⟩) hlt0).trans (hsix 4 (by omega));have d5:X5.cell? ⟨w.heap.size,5,none⟩=some (.slice a3 n3 c3):=(b05.cell (p:=⟨w.heap.size,5,none⟩) hlt0).trans (hsix 5 (by omega));have hall:(((((w.alloc (.cells #[.int .i64 x.k,.int .i64 x.n,.string x.s,.slice a1 n1 c1,.slice a2 n2 c2,.slice a3 n3 c3] 25)).alloc (.cells #[.nilFunc] 105)).alloc (.cells #[.int .i64 0] 3)).alloc (.cells #[.int .i64 0] 3)).alloc (.cells #[.bool false] 4)).alloc (.cells #[.nilFunc] 134)=X5:=by rw[h0,h1,h2,h3,h4,h5]
 obtain⟨X6,h6⟩:∃X6,X5.setCell ⟨w.heap.size+1+1+1+1+1,0,none⟩ (Dt.downF (w.heap.size+1+1) (w.heap.size+1+1+1) (w.heap.size+1) (w.heap.size+1+1+1+1) (w.heap.size+1+1+1+1+1))=X6:=⟨_,rfl⟩
 have hne:∀ {y},y≠w.heap.size+1+1+1+1+1→∀j,X6.cell? ⟨y,j,none⟩=X5.cell? ⟨y,j,none⟩:=fun hy j=>by
  rw[←h6];exact World.cell?_setCell_other _ _ _ _ (by intro e;cases e;exact hy rfl)
 have hE:Dt.Env X6 (w.heap.size+1+1) (w.heap.size+1+1+1) (w.heap.size+1) (w.heap.size+1+1+1+1) (w.heap.size+1+1+1+1+1) 0 0:=
  ⟨(hne (by omega) 0).trans p2,(hne (by omega) 0).trans p3,(hne (by omega) 0).trans p1,(hne (by omega) 0).trans p4,by rw[←h6];exact World.cell?_setCell_same' _ _ _ (by rw[n5'];rfl),by rw[←h6,World.frozen?_setCell];exact q2,by rw[←h6,World.frozen?_setCell];exact q3⟩
 have hB6:Below w.heap.size w X6:=by rw[←h6];exact hB5.setCell (p:=⟨w.heap.size+1+1+1+1+1,0,none⟩) (by simp;omega) _
 have hs6:X6.heap.size=w.heap.size+1+1+1+1+1+1:=by rw[←h6];simpa[World.setCell]using z5
 have hdn:=Dt.down_any x (fun k=>k<w.heap.size) 1 0 0 _ _ _ X6 _ _ _ _ _ hW ((Dt.Rep.mono (fun _ _ h=>h) x hR).below hB6) (fun k hk h=>by rcases h with h|h <;> omega) hE ⟨by omega,by omega,by omega,by omega,by omega,by omega,by omega⟩ (by omega) (by omega);rw[show(((1:Nat)):Int)=1 from rfl]at hdn;have eu:=hE.cu;have HDN:=zh hdn;have HB:=zh hB6;have HS:=zh hs6;have e0:=(hne (y:=w.heap.size) (by omega) 0).trans d0;have e1:=(hne (y:=w.heap.size) (by omega) 1).trans d1;have e2:=(hne (y:=w.heap.size) (by omega) 2).trans d2;have e3:=(hne (y:=w.heap.size) (by omega) 3).trans d3;have e4:=(hne (y:=w.heap.size) (by omega) 4).trans d4;have e5:=(hne (y:=w.heap.size) (by omega) 5).trans d5;clear n1' n2' n3' n4' m2 m3 b0 b1 b2 b3 b4 b5 b25 b35 b15 b05 h0 h1 h2 h3 h4 h5 z0 z1 z2 z3 z4 z5 hsix hE hB6 hB5 hs6 hdn hne p1 p2 p3 p4 q2 q3 d0 d1 d2 d3 d4 d5 hlt0 hR hW;obtain⟨R,hRR⟩:∃R,R=Dt.chk x 1 0:=⟨_,rfl⟩
 have HRR:Hid (Dt.check x=R.1):=by show _=_;rw[hRR];rfl
 rw[←hRR]at HDN;rw[HRR.out];clear hRR;go_enter Tryz.func80,Tryz.ntmps80;go_wp2_with fail
 refine HDN.out.mono ?_;rintro e w7 ⟨rfl,⟨b',hE7⟩,hK⟩;have HK:=zh (HB.out.trans (hK.to_below (n:=w.heap.size) (fun k hk=>by rcases hk with h|h <;> omega) (by have:=HS.out;omega)));have ca:=hE7.cp;have cb:=hE7.cd;clear hK hE7 HDN eu e0 e1 e2 e3 e4 e5 n5' m5 hall h6;go_wp2
 go_quiet (fail)
 go_wp2;refine bodyPost_ret (v:= .tuple #[.int .i64 (R.2:Int),.int .i64 b',.int .i64 R.1]) (by simp[results,Tryz.results80,go_sem]) rfl ?_;exact⟨⟨_,_,rfl⟩,⟨HK.out.os,HK.out.tape,HK.out.output,HK.out.size,HK.out.block⟩⟩
theorem dCheck_any{F:Nat→Prop}(x:Dt.D)(vm vl vt:Value)(w:World)(hW:Dt.Wf x)(hR:Dt.Rep F w x vm vl vt):
  Calls Tryz.prog 58 #[.agg #[.int .i64 x.k,.int .i64 x.n,.string x.s,vm,vl,vt]] w fun e w'=>e= .returned (.int .i64 (Dt.check x))∧Below w.heap.size w w':=by
 have hb0:Below w.heap.size w (w.alloc (.cells #[.int .i64 x.k,.int .i64 x.n,.string x.s,vm,vl,vt] 25)):=(Below.refl _ _).alloc (Nat.le_refl _) _;have hw:=walkD_nil x vm vl vt _ hW (hR.below hb0);obtain⟨R,hRR⟩:∃R,Dt.check x=R:=⟨_,rfl⟩
 rw[hRR]at hw ⊢;clear hRR hR hW;go_enter Tryz.func58,Tryz.ntmps58;go_wp2_with fail
 refine hw.mono ?_;rintro e w1 ⟨⟨a,b,rfl⟩,hb1⟩;clear hw;go_wp2;go_ret;exact⟨rfl,(btr hb0 hb1)⟩
theorem SymbolR2_any(s:ByteArray)(w:World)(hs:s.size≤140737488355328):
  Calls Tryz.prog 95 #[.string s] w fun e w'=>e= .returned (.bool (Lx.symbol s.data.toList))∧w=w':=by
 obtain⟨R,hR⟩:∃R,Lx.symbol s.data.toList=R:=⟨_,rfl⟩
 rw[hR];unfold Lx.symbol at hR;rw[←ByteArray.toList_eq]at hR;cases h1:(s.toList==[43])
 case true=>
  have HF:Hid (R=true):=by show _=_;rw[←hR,h1];rfl
  clear hR;go_enter Tryz.func95,Tryz.ntmps95;go_wp2;go_ret;exact⟨by rw[HF.out];rfl,rfl⟩
 cases h2:(s.toList==[45])
 case true=>
  have HF:Hid (R=true):=by show _=_;rw[←hR,h1,h2];rfl
  clear hR;go_enter Tryz.func95,Tryz.ntmps95;go_wp2;go_ret;exact⟨by rw[HF.out];rfl,rfl⟩
 cases h3:(s.toList==[46,46,46])
 case true=>
  have HF:Hid (R=true):=by show _=_;rw[←hR,h1,h2,h3];rfl
  clear hR;go_enter Tryz.func95,Tryz.ntmps95;go_wp2;go_ret;exact⟨by rw[HF.out];rfl,rfl⟩
 rw[h1,h2,h3,ByteArray.toList_eq]at hR;simp only[Bool.false_or]at hR;have hlen:s.data.toList.length=s.size:=Fx.size_toList s;by_cases h0:s.size=0
 ·have h0i:(s.size:Int)<1:=by omega
  have HF:Hid (R=false):=by
   show _=_;rw[←hR,show s.data.toList=[]from List.length_eq_zero_iff.1 (by omega)];rfl
  clear hR;go_enter Tryz.func95,Tryz.ntmps95;go_wp2;go_ret;exact⟨by rw[HF.out];rfl,rfl⟩
 have h0i:¬ (s.size:Int)<1:=by omega
 have hpos:0<s.size:=by omega
 by_cases h32:32<s.size
 ·have h32i:32<(s.size:Int):=by omega
  have HF:Hid (R=false):=by
   show _=_;rw[←hR,hlen,decide_eq_false (show ¬s.size≤32 by omega)];simp
  clear hR;go_enter Tryz.func95,Tryz.ntmps95;go_wp2;go_ret;exact⟨by rw[HF.out];rfl,rfl⟩
 have h32i:¬32<(s.size:Int):=by omega
 have hcons:s.data.toList=s[0] :: Lx.tl s 1:=by
  have:=Lx.tl_cons s 0 hpos;rw[←this];unfold Lx.tl;simp
 have hR2:R=(Lx.begins s[0]&&(Lx.goes s[0]&&(Lx.tl s 1).all Lx.goes)):=by
  rw[←hR,hlen,decide_eq_true (show s.size≤32 by omega),hcons];simp
 have hl:=letterR_any s[0] w;cases hb:Lx.begins s[0]
 ·have HF:Hid (R=false):=by show _=_;rw[hR2,hb];rfl
  rw[hb]at hl;clear hR hR2 hcons hlen;go_enter Tryz.func95,Tryz.ntmps95;go_wp2_with fail
  refine hl.mono ?_;rintro e w1 ⟨rfl,rfl⟩;go_wp2;go_ret;exact⟨by rw[HF.out];rfl,rfl⟩
 have H1:Hid (R=(Lx.tl s 1).all Lx.goes):=by
  show _=_;rw[hR2,hb,Lx.goes_more,hb];simp
 rw[hb]at hl;clear hR hR2 hcons hlen;go_enter Tryz.func95,Tryz.ntmps95;go_wp2_with fail
 refine hl.mono ?_;rintro e w1 ⟨rfl,rfl⟩;clear hl;go_wp2_with fail
 go_loop [3] (fun vi=>∃k:Nat,vi= .int .i64 k∧1≤k∧k≤s.size∧Hid (R=(Lx.tl s k).all Lx.goes)) (fun vi=>s.size - (intOf vi).toNat)
 case atStart=>exact⟨1,rfl,by omega,by omega,H1⟩
 case round=>
  obtain⟨k,rfl,hk1,hk,HR⟩:=hrel;by_cases hlt:k<s.size
  case neg=>
   have hge:¬ (k:Int)<(s.size:Int):=by omega
   have HE:Hid (R=true):=by show _=_;rw[HR.out,Lx.tl_nil s k (by omega)];rfl
   go_wp2;go_ret;exact⟨by rw[HE.out];rfl,rfl⟩
  have hlti:(k:Int)<(s.size:Int):=by omega
  have hr:=HR.out;rw[Lx.tl_cons s k hlt,List.all_cons,Lx.goes_more]at hr;have hl2:=letterR_any s[k] w;have hi2:=isInR_any s[k] Lx.moreB w (by decide);cases hb2:Lx.begins s[k]
  ·rw[hb2]at hl2 hr;cases hm:Lx.moreB.data.toList.contains s[k]
   ·rw[hm]at hi2 hr;have HE:Hid (R=false):=hr;clear hr HR hb2 hm;go_wp2_with fail
    refine hl2.mono ?_;rintro e w1 ⟨rfl,rfl⟩;go_wp2_with fail
    refine hi2.mono ?_;rintro e w1 ⟨rfl,rfl⟩;go_wp2;go_ret;exact⟨by rw[HE.out];rfl,rfl⟩
   ·rw[hm]at hi2 hr;have HN:Hid (R=(Lx.tl s (k+1)).all Lx.goes):=by show _=_;rw[hr];simp
    clear hr HR hb2 hm;go_wp2_with fail
    refine hl2.mono ?_;rintro e w1 ⟨rfl,rfl⟩;go_wp2_with fail
    refine hi2.mono ?_;rintro e w1 ⟨rfl,rfl⟩;go_wp2
    go_round
    case rel=>exact⟨k+1,by go_num,by omega,by omega,HN⟩
    case measure=>simp[intOf];omega
  ·rw[hb2]at hl2 hr;have HN:Hid (R=(Lx.tl s (k+1)).all Lx.goes):=by show _=_;rw[hr];simp
   clear hr HR hb2;go_wp2_with fail
   refine hl2.mono ?_;rintro e w1 ⟨rfl,rfl⟩;go_wp2
   go_round
   case rel=>exact⟨k+1,by go_num,by omega,by omega,HN⟩
   case measure=>simp[intOf];omega
end Go.Proofs.YtfjmlfbohenmfaaGreat
