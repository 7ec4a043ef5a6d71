/-
  DtWalkSb, DtAllSb, CdPlainb, CoConstb, DtRCloneb.
-/
import Derived.Test.YtfjmlfbohenmfaaGreatDtDownTb
import Derived.Test.YtfjmlfbohenmfaaGreatCoreBBM4
import Derived.Test.YtfjmlfbohenmfaaGreatCoreBBM2
import Derived.Test.YtfjmlfbohenmfaaGreatCoreBBM7
import Derived.Shelf.Abstract
import Derived.Test.YtfjmlfbohenmfaaGreatCoreBBM5
import Derived.Test.YtfjmlfbohenmfaaGreatDtMadeb
set_option maxRecDepth 100000
set_option maxHeartbeats 32000000
namespace Go.Proofs.YtfjmlfbohenmfaaGreat
open Go.RowKit
mutual
theorem Dt.downS_any(n nY:Nat)(hn:3≤n){N l:Nat}{lb:Nat→Prop}{B0:Nat}{J Jx:List Dt.P→World→Prop}(hlb:∀k,lb k→k<B0)(hJ:Rb.BelFrom B0 J)(hJx:Rb.BelFrom B0 Jx)
  (hY : ∀ pre x W1, J pre W1 → Dt.VP x W1 → pre.length < N → YieldAt Fence.wide nY Tryz.prog l (Dt.encP x) W1 fun e W' =>
   (e= .returned (.bool true)∧J (pre++[x]) W'∧Keep lb W1 W')∨(e= .returned (.bool false)∧Jx (pre++[x]) W'∧Keep lb W1 W')):∀x:Dt.D,Dt.DownS n J Jx N l lb B0 x
 | .mk k nn s m l' t=>downS_step n nY hn hlb hJ hJx hY (.mk k nn s m l' t) (Dt.downsS_any n nY hn hlb hJ hJx hY l') (Dt.downsS_any n nY hn hlb hJ hJx hY t)
theorem Dt.downsS_any(n nY:Nat)(hn:3≤n){N l:Nat}{lb:Nat→Prop}{B0:Nat}{J Jx:List Dt.P→World→Prop}(hlb:∀k,lb k→k<B0)(hJ:Rb.BelFrom B0 J)(hJx:Rb.BelFrom B0 Jx)
  (hY : ∀ pre x W1, J pre W1 → Dt.VP x W1 → pre.length < N → YieldAt Fence.wide nY Tryz.prog l (Dt.encP x) W1 fun e W' =>
   (e= .returned (.bool true)∧J (pre++[x]) W'∧Keep lb W1 W')∨(e= .returned (.bool false)∧Jx (pre++[x]) W'∧Keep lb W1 W')):∀(L:List Dt.D) (y:Dt.D),y∈L→Dt.DownS n J Jx N l lb B0 y
 |[],_,h=>absurd h (by simp)
 |x :: r,y,h=>(List.mem_cons.1 h).elim (fun e=>by rw[e];exact Dt.downS_any n nY hn hlb hJ hJx hY x) (fun h'=>Dt.downsS_any n nY hn hlb hJ hJx hY r y h')
end
theorem walkS_any(n nY:Nat)(hn:3≤n){N l:Nat}{lb:Nat→Prop}{yb:Nat}{J Jx:List Dt.P→World→Prop}{w:World}(hlb:∀k,lb k→k<w.heap.size)(hJ:Rb.BelFrom w.heap.size J)(hJx:Rb.BelFrom w.heap.size Jx)
  (hY : ∀ pre x W1, J pre W1 → Dt.VP x W1 → pre.length < N → YieldAt Fence.wide nY Tryz.prog l (Dt.encP x) W1 fun e W' =>
   (e= .returned (.bool true)∧J (pre++[x]) W'∧Keep lb W1 W')∨(e= .returned (.bool false)∧Jx (pre++[x]) W'∧Keep lb W1 W'))
  {F:Nat→Prop} (x:Dt.D) (vm vl vt:Value) (hW:Dt.Wf x) (hFi:Dt.Fine x) (hR:Dt.Rep F w x vm vl vt) (hF:∀k,F k→¬lb k) (hy:w.cell? ⟨yb,0,none⟩=some (.func (.yield l) #[] #[])) (hyl:¬lb yb) (hck:(Dt.chk x 1 0).1=0) (hJ0:J [] w) (hN:(Dt.pre x).length≤N):
  Calls Tryz.prog 80 #[.agg #[.int .i64 x.k,.int .i64 x.n,.string x.s,vm,vl,vt],Dt.seeF yb] w fun e w'=>(∃v,e= .returned v)∧((∃xs:List Dt.P,xs.map Dt.P.d=Dt.pre x∧J xs w')∨(∃xs:List Dt.P,xs.map Dt.P.d<+:Dt.pre x∧Jx xs w')):=by
 have hyb:yb<w.heap.size:=block_lt_of_cell hy;have HJ:=zh hJ;have HJX:=zh hJx;obtain⟨a1,n1,c1,a2,n2,c2,a3,n3,c3,rfl,rfl,rfl⟩:=hR.forms;obtain⟨X0,h0⟩:∃X,w.alloc (.cells #[.int .i64 x.k,.int .i64 x.n,.string x.s,.slice a1 n1 c1,.slice a2 n2 c2,.slice a3 n3 c3] 25)=X:=⟨_,rfl⟩
 obtain⟨X1,h1⟩:∃X,X0.alloc (.cells #[Dt.seeF yb] 105)=X:=⟨_,rfl⟩
 obtain⟨X2,h2⟩:∃X,X1.alloc (.cells #[.int .i64 0] 3)=X:=⟨_,rfl⟩
 obtain⟨X3,h3⟩:∃X,X2.alloc (.cells #[.int .i64 0] 3)=X:=⟨_,rfl⟩
 obtain⟨X4,h4⟩:∃X,X3.alloc (.cells #[.bool false] 4)=X:=⟨_,rfl⟩
 obtain⟨X5,h5⟩:∃X,X4.alloc (.cells #[.nilFunc] 134)=X:=⟨_,rfl⟩
 have z0:X0.heap.size=w.heap.size+1:=by rw[←h0,World.size_alloc]
 have z1:X1.heap.size=w.heap.size+1+1:=by rw[←h1,World.size_alloc,z0]
 have z2:X2.heap.size=w.heap.size+1+1+1:=by rw[←h2,World.size_alloc,z1]
 have z3:X3.heap.size=w.heap.size+1+1+1+1:=by rw[←h3,World.size_alloc,z2]
 have z4:X4.heap.size=w.heap.size+1+1+1+1+1:=by rw[←h4,World.size_alloc,z3]
 have z5:X5.heap.size=w.heap.size+1+1+1+1+1+1:=by rw[←h5,World.size_alloc,z4]
 have b0:Below w.heap.size w X0:=by rw[←h0];exact(Below.refl _ _).alloc (Nat.le_refl _) _
 have b1:Below X0.heap.size X0 X1:=by rw[←h1];exact(Below.refl _ _).alloc (Nat.le_refl _) _
 have b2:Below X1.heap.size X1 X2:=by rw[←h2];exact(Below.refl _ _).alloc (Nat.le_refl _) _
 have b3:Below X2.heap.size X2 X3:=by rw[←h3];exact(Below.refl _ _).alloc (Nat.le_refl _) _
 have b4:Below X3.heap.size X3 X4:=by rw[←h4];exact(Below.refl _ _).alloc (Nat.le_refl _) _
 have b5:Below X4.heap.size X4 X5:=by rw[←h5];exact(Below.refl _ _).alloc (Nat.le_refl _) _
 have n1':X1.cell? ⟨w.heap.size+1,0,none⟩=some (Dt.seeF yb):=by rw[←h1,←z0];exact Dt.one_new _ _ _
 have n2':X2.cell? ⟨w.heap.size+1+1,0,none⟩=some (.int .i64 0):=by rw[←h2,←z1];exact Dt.one_new _ _ _
 have n3':X3.cell? ⟨w.heap.size+1+1+1,0,none⟩=some (.int .i64 0):=by rw[←h3,←z2];exact Dt.one_new _ _ _
 have n4':X4.cell? ⟨w.heap.size+1+1+1+1,0,none⟩=some (.bool false):=by rw[←h4,←z3];exact Dt.one_new _ _ _
 have n5':X5.cell? ⟨w.heap.size+1+1+1+1+1,0,none⟩=some .nilFunc:=by rw[←h5,←z4];exact Dt.one_new _ _ _
 have m2:X2.frozen? ⟨w.heap.size+1+1,0,none⟩=false:=by rw[←h2,←z1];exact Dt.frz_new _ _ _ _
 have m3:X3.frozen? ⟨w.heap.size+1+1+1,0,none⟩=false:=by rw[←h3,←z2];exact Dt.frz_new _ _ _ _
 have m4:X4.frozen? ⟨w.heap.size+1+1+1+1,0,none⟩=false:=by rw[←h4,←z3];exact Dt.frz_new _ _ _ _
 have m5:X5.frozen? ⟨w.heap.size+1+1+1+1+1,0,none⟩=false:=by rw[←h5,←z4];exact Dt.frz_new _ _ _ _
 have b25:=(b3.trans (b4.mono (by omega))).trans (b5.mono (by omega));have b35:=b4.trans (b5.mono (by omega));have b15:=b2.trans (b25.mono (by omega));have hB5:Below w.heap.size w X5:=((b0.trans (b1.mono (by omega))).trans (b2.mono (by omega))).trans (b25.mono (by omega));have b05:Below X0.heap.size X0 X5:=(b1.trans (b15.mono (by omega)))
 have p1:=(b15.cell (p:=⟨w.heap.size+1,0,none⟩) (by simp;omega)).trans n1';have p2:=(b25.cell (p:=⟨w.heap.size+1+1,0,none⟩) (by simp;omega)).trans n2';have p3:=(b35.cell (p:=⟨w.heap.size+1+1+1,0,none⟩) (by simp;omega)).trans n3';have p4:=(b5.cell (p:=⟨w.heap.size+1+1+1+1,0,none⟩) (by simp;omega)).trans n4';have q2:=(b25.frozen (p:=⟨w.heap.size+1+1,0,none⟩) (by simp;omega)).trans m2;have q4:=(b5.frozen (p:=⟨w.heap.size+1+1+1+1,0,none⟩) (by simp;omega)).trans m4;have q3:=(b35.frozen (p:=⟨w.heap.size+1+1+1,0,none⟩) (by simp;omega)).trans m3;have hsix:=Dt.six_new w x.k x.n x.s (.slice a1 n1 c1) (.slice a2 n2 c2) (.slice a3 n3 c3) 25;rw[h0]at hsix;have hlt0:w.heap.size<X0.heap.size:=by omega
 have d0:X5.cell? ⟨w.heap.size,0,none⟩=some (.int .i64 x.k):=(b05.cell (p:=⟨w.heap.size,0,none⟩) hlt0).trans (hsix 0 (by omega));have d1:X5.cell? ⟨w.heap.size,1,none⟩=some (.int .i64 x.n):=(b05.cell (p:=⟨w.heap.size,1,none⟩) hlt0).trans (hsix 1 (by omega));have d2:X5.cell? ⟨w.heap.size,2,none⟩=some (.string x.s):=(b05.cell (p:=⟨w.heap.size,2,none⟩) hlt0).trans (hsix 2 (by omega));have d3:X5.cell? ⟨w.heap.size,3,none⟩=some (.slice a1 n1 c1):=(b05.cell (p:=⟨w.heap.size,3,none⟩) hlt0).trans (hsix 3 (by omega));have d4:X5.cell? ⟨w.heap.size,4,none⟩=some (.slice a2 n2 c2):=(b05.cell (p:=⟨w.heap.size,4,none⟩) hlt0).trans (hsix 4 (by omega));have d5:X5.cell? ⟨w.heap.size,5,none⟩=some (.slice a3 n3 c3):=(b05.cell (p:=⟨w.heap.size,5,none⟩) hlt0).trans (hsix 5 (by omega));have hall:(((((w.alloc (.cells #[.int .i64 x.k,.int .i64 x.n,.string x.s,.slice a1 n1 c1,.slice a2 n2 c2,.slice a3 n3 c3] 25)).alloc (.cells #[Dt.seeF yb] 105)).alloc (.cells #[.int .i64 0] 3)).alloc (.cells #[.int .i64 0] 3)).alloc (.cells #[.bool false] 4)).alloc (.cells #[.nilFunc] 134)=X5:=by rw[h0,h1,h2,h3,h4,h5]
 obtain⟨X6,h6⟩:∃X6,X5.setCell ⟨w.heap.size+1+1+1+1+1,0,none⟩ (Dt.downF (w.heap.size+1+1) (w.heap.size+1+1+1) (w.heap.size+1) (w.heap.size+1+1+1+1) (w.heap.size+1+1+1+1+1))=X6:=⟨_,rfl⟩
 have hne:∀ {y},y≠w.heap.size+1+1+1+1+1→∀j,X6.cell? ⟨y,j,none⟩=X5.cell? ⟨y,j,none⟩:=fun hy j=>by
  rw[←h6];exact World.cell?_setCell_other _ _ _ _ (by intro e;cases e;exact hy rfl)
 have hB6:Below w.heap.size w X6:=by rw[←h6];exact hB5.setCell (p:=⟨w.heap.size+1+1+1+1+1,0,none⟩) (by simp;omega) _
 have hs6:X6.heap.size=w.heap.size+1+1+1+1+1+1:=by rw[←h6];simpa[World.setCell]using z5
 have hyc:X6.cell? ⟨yb,0,none⟩=some (.func (.yield l) #[] #[]):=(hB6.cell (p:=⟨yb,0,none⟩) hyb).trans hy;have hE:Dt.EnvS X6 (w.heap.size+1+1) (w.heap.size+1+1+1) (w.heap.size+1) (w.heap.size+1+1+1+1) (w.heap.size+1+1+1+1+1) yb l 0 false:=
  ⟨(hne (by omega) 0).trans p2,⟨0,(hne (by omega) 0).trans p3⟩,(hne (by omega) 0).trans p1,(hne (by omega) 0).trans p4,by rw[←h6];exact World.cell?_setCell_same' _ _ _ (by rw[n5'];rfl),hyc,by rw[←h6,World.frozen?_setCell];exact q2,by rw[←h6,World.frozen?_setCell];exact q3,by rw[←h6,World.frozen?_setCell];exact q4⟩
 have hnl:∀ {k},w.heap.size≤k→¬lb k:=fun h h2=>by have:=hlb _ h2;omega
 have hJ6:J [] X6:=hJ _ _ _ hJ0 (Nat.le_refl _) hB6;have hdn:=Dt.downS_any n nY hn hlb hJ hJx hY x (fun k=>k<w.heap.size∧¬lb k) 1 0 _ _ _ X6 (w.heap.size+1+1) (w.heap.size+1+1+1) (w.heap.size+1) (w.heap.size+1+1+1+1) (w.heap.size+1+1+1+1+1) yb [] hW hFi ((Dt.Rep.mono (fun k h hk=>⟨hk,hF k h⟩) x hR).below hB6) (fun k hk h=>by rcases h with h|h|h|h;omega;omega;omega;exact hk.2 h) hE ⟨by omega,by omega,by omega,by omega,by omega,hnl (by omega),by omega,by omega,by omega,by omega,hnl (by omega),by omega,by omega,by omega,hnl (by omega),hnl (by omega),hnl (by omega),hyl,by omega,by omega,by omega⟩ (by omega) (by omega) (by omega) hck hJ6 (by simpa using hN);rw[show(((1:Nat)):Int)=1 from rfl]at hdn;have eu:=hE.cu;have HDN:=zh (callsIn_wide.1 hdn);have HB:=zh hB6;have HS:=zh hs6;have e0:=(hne (y:=w.heap.size) (by omega) 0).trans d0;have e1:=(hne (y:=w.heap.size) (by omega) 1).trans d1;have e2:=(hne (y:=w.heap.size) (by omega) 2).trans d2;have e3:=(hne (y:=w.heap.size) (by omega) 3).trans d3;have e4:=(hne (y:=w.heap.size) (by omega) 4).trans d4;have e5:=(hne (y:=w.heap.size) (by omega) 5).trans d5;clear n1' n2' n3' n4' m2 m3 b0 b1 b2 b3 b4 b5 b25 b35 b15 b05 h0 h1 h2 h3 h4 h5 z0 z1 z2 z3 z4 z5 hsix hE hB6 hB5 hs6 hdn hne p1 p2 p3 p4 q2 q3 q4 m4 hyc hJ6 d0 d1 d2 d3 d4 d5 hlt0 hR hW;clear hJ hJx hY hJ0 hck hFi;obtain⟨R,hRR⟩:∃R,R=Dt.chk x 1 0:=⟨_,rfl⟩
 rw[←hRR]at HDN;clear hRR;go_enter Tryz.func80,Tryz.ntmps80;go_wp2_with fail
 refine HDN.out.mono ?_;rintro e w7 ⟨rfl,sp,hM⟩;have HM:Hid ((∃xs:List Dt.P,xs.map Dt.P.d=Dt.pre x∧J xs w7)∨(∃xs:List Dt.P,xs.map Dt.P.d<+:Dt.pre x∧Jx xs w7)):=by
  rcases hM.2 with⟨_,_,xs,h1,h2⟩|⟨_,_,xs,h1,h2⟩
  ·exact .inl ⟨xs,h1,h2⟩
  ·exact .inr ⟨xs,h1,h2⟩
 have HZ:Hid (w.heap.size≤w7.heap.size):=by
  show _≤_;have:=hM.1.size;have:=HS.out;omega
 obtain⟨a',b',ca,cb⟩:∃(a':Nat) (b':Int),w7.cell? ⟨w.heap.size+1+1,0,none⟩=some (.int .i64 (a':Int))∧w7.cell? ⟨w.heap.size+1+1+1,0,none⟩=some (.int .i64 b'):=by
  rcases hM.2 with⟨_,hE,_⟩|⟨_,⟨a',hE⟩,_⟩
  ·exact⟨_,_,hE.cp,hE.cd.choose_spec⟩
  ·exact⟨_,_,hE.cp,hE.cd.choose_spec⟩
 clear hM HDN eu e0 e1 e2 e3 e4 e5 n5' m5 hall h6;go_wp2
 go_quiet (fail)
 go_wp2;refine bodyPost_ret (v:= .tuple #[.int .i64 (a':Int),.int .i64 b',.int .i64 0]) (by simp[results,Tryz.results80,go_sem]) rfl ?_;exact⟨⟨_,rfl⟩,HM.out.elim (fun⟨xs,h1,h2⟩=> .inl ⟨xs,h1,HJ.out _ _ _ h2 HZ.out ⟨rfl,rfl,rfl,Nat.le_refl _,fun _ _=>rfl⟩⟩) (fun⟨xs,h1,h2⟩=> .inr ⟨xs,h1,HJX.out _ _ _ h2 HZ.out ⟨rfl,rfl,rfl,Nat.le_refl _,fun _ _=>rfl⟩⟩)⟩
theorem dAll1_any(n nY:Nat)(hn:3≤n){N l:Nat}{lb:Nat→Prop}{J Jx:List Dt.P→World→Prop}{w:World}(hlb:∀k,lb k→k<w.heap.size)(hJ:Rb.BelFrom w.heap.size J)(hJx:Rb.BelFrom w.heap.size Jx)
  (hY : ∀ pre x W1, J pre W1 → Dt.VP x W1 → pre.length < N → YieldAt Fence.wide nY Tryz.prog l (Dt.encP x) W1 fun e W' =>
   (e= .returned (.bool true)∧J (pre++[x]) W'∧Keep lb W1 W')∨(e= .returned (.bool false)∧Jx (pre++[x]) W'∧Keep lb W1 W'))
  {F:Nat→Prop} (x:Dt.D) (vm vl vt:Value) (hW:Dt.Wf x) (hR:Dt.Rep F w x vm vl vt) (hF:∀k,F k→¬lb k) (db:Nat) (hd:Dt.Six w db 0 x vm vl vt) (hck:(Dt.chk x 1 0).1=0) (hJ0:J [] w) (hN:(Dt.pre x).length≤N):
  Calls Tryz.prog 150 #[.func (.yield l) #[] #[],.pointer (some ⟨db,0,none⟩)] w fun e w'=>(∃v,e= .returned v)∧((∃xs:List Dt.P,xs.map Dt.P.d=Dt.pre x∧J xs w')∨(∃xs:List Dt.P,xs.map Dt.P.d<+:Dt.pre x∧Jx xs w')):=by
 obtain⟨w1,hw1⟩:∃w1,w.alloc (.cells #[.func (.yield l) #[] #[]] 105)=w1:=⟨_,rfl⟩
 have hb1:Below w.heap.size w w1:=by rw[←hw1];exact(Below.refl _ _).alloc (Nat.le_refl _) _
 have hy1:w1.cell? ⟨w.heap.size,0,none⟩=some (.func (.yield l) #[] #[]):=by rw[←hw1];exact Dt.one_new _ _ _
 have hz1:w1.heap.size=w.heap.size+1:=by rw[←hw1,World.size_alloc]
 have hc:=dCheck_any x vm vl vt w1 hW (hR.below hb1);have hdb:db<w.heap.size:=block_lt_of_cell hd.1;have hd1:=hd.keep (S:=fun _=>False) ((Keep.refl _ _).below hb1) hdb id;have hfi:Dt.Fine x:=(Dt.chk_fine x 1 0 (by omega) hck).2;have hck0:Dt.check x=0:=hck;rw[hck0]at hc;have HB1:=zh hb1;have HD:=zh hd1;obtain⟨d0,d1,d2,d3,d4,d5⟩:=hd1;simp only[Nat.zero_add]at d0 d1 d2 d3 d4 d5;have HR:=zh hR;have HJ:=zh hJ;have HJX:=zh hJx;have HY:=zh hY;have HJ0:=zh hJ0;have HCK:=zh hck;have HY1:=zh hy1;have HZ1:=zh hz1;clear hb1 hd hR hJ hJx hY hJ0 hck hck0 hy1 hz1;go_enter Tryz.func150,Tryz.ntmps150;go_wp2_with fail
 refine hc.mono ?_;rintro e w2 ⟨rfl,hb2⟩;clear hc hw1;have HB2:=zh hb2;have HB12:=zh ((btr HB1.out hb2));obtain⟨e0,e1,e2,e3,e4,e5⟩:=HD.out.keep (S:=fun _=>False) ((Keep.refl _ _).below hb2) (by have:=HZ1.out;omega) id;simp only[Nat.zero_add]at e0 e1 e2 e3 e4 e5;clear hb2 d0 d1 d2 d3 d4 d5;go_wp2_with fail
 refine(walkS_any n nY hn (N:=N) (l:=l) (lb:=lb) (yb:=w.heap.size) (J:=J) (Jx:=Jx) (w:=w2) (fun k hk=>Nat.lt_of_lt_of_le (hlb k hk) HB12.out.size) (fun s A B h hle hb=>HJ.out s A B h (Nat.le_trans HB12.out.size hle) (hb.mono HB12.out.size)) (fun s A B h hle hb=>HJX.out s A B h (Nat.le_trans HB12.out.size hle) (hb.mono HB12.out.size)) HY.out (F:=F) x vm vl vt hW hfi (HR.out.below HB12.out) hF
  ((HB2.out.cell (p:=⟨w.heap.size,0,none⟩) (by have:=HZ1.out;simp only;omega)).trans HY1.out) (fun h=>Nat.lt_irrefl _ (hlb _ h)) HCK.out (HJ.out _ _ _ HJ0.out (Nat.le_refl _) HB12.out) hN).mono ?_
 rintro e w3 ⟨⟨v,rfl⟩,h3⟩;have H3:=zh h3;clear h3;go_wp2;first|go_end0|go_ret2|trace_state
 exact⟨⟨_,rfl⟩,H3.out⟩
namespace Dt
theorem six_of(w:World)(x:D)(vm vl vt:Value)(t:TypeId):Six (w.alloc (.cells #[.int .i64 x.k,.int .i64 x.n,.string x.s,vm,vl,vt] t)) w.heap.size 0 x vm vl vt:=by
 have h:=six_new w x.k x.n x.s vm vl vt t;exact⟨h 0 (by omega),h 1 (by omega),h 2 (by omega),h 3 (by omega),h 4 (by omega),h 5 (by omega)⟩
end Dt
theorem dAll_any(x:Dt.D)(vm vl vt:Value)(w:World):
  Calls Tryz.prog 112 #[.agg #[.int .i64 x.k,.int .i64 x.n,.string x.s,vm,vl,vt]] w fun e w'=>e= .returned (.func (.func 150) #[] #[.pointer (some ⟨w.heap.size,0,none⟩)])∧Below w.heap.size w w'∧Dt.Six w' w.heap.size 0 x vm vl vt∧w.heap.size<w'.heap.size:=by
 obtain⟨w1,hw1⟩:∃w1,w.alloc (.cells #[.int .i64 x.k,.int .i64 x.n,.string x.s,vm,vl,vt] 25)=w1:=⟨_,rfl⟩
 have hb1:Below w.heap.size w w1:=by rw[←hw1];exact(Below.refl _ _).alloc (Nat.le_refl _) _
 have hs:Dt.Six w1 w.heap.size 0 x vm vl vt:=by rw[←hw1];exact Dt.six_of w x vm vl vt _
 have hz:w.heap.size<w1.heap.size:=by rw[←hw1];simp
 go_enter Tryz.func112,Tryz.ntmps112;go_wp2;go_ret;exact⟨rfl,hb1,hs,hz⟩
theorem dAll_stops(n:Nat){F:Nat→Prop}(x:Dt.D)(vm vl vt:Value)(w0:World)(R db:Nat)(hRz:R<w0.heap.size)(hW:Dt.Wf x)(hR:Dt.Rep F w0 x vm vl vt)(hF:∀k,F k→k<w0.heap.size∧k≠R)(hd:Dt.Six w0 db 0 x vm vl vt)(hck:(Dt.chk x 1 0).1=0):
  Rb.SeqStopsB Fence.wide n Tryz.prog 150 #[.pointer (some ⟨db,0,none⟩)] Dt.encP (Keep fun k=>k=R∨k=w0.heap.size+1) Dt.VP (fun xs=>xs.map Dt.P.d=Dt.pre x) (fun xs=>xs.map Dt.P.d<+:Dt.pre x) (Dt.pre x).length w0:=by
 intro l J Jx W hW0 hz hJ hJx hY h0;have hdb:db<w0.heap.size:=block_lt_of_cell hd.1;have h:=dAll1_any 3 (n - 1) (Nat.le_refl _) (N:=(Dt.pre x).length) (l:=l) (lb:=fun k=>k=R∨k=w0.heap.size+1) (J:=J) (Jx:=Jx) (w:=W) (fun k hk=>by rcases hk with rfl|rfl <;> omega) hJ hJx hY (F:=F) x vm vl vt hW (hR.below hW0)
  (fun k hk h=>by have:=hF k hk;rcases h with h|h <;> omega) db (hd.keep (S:=fun _=>False) ((Keep.refl _ _).below hW0) hdb id) hck h0 (Nat.le_refl _)
 exact(callsIn_wide.2 h).mono (fun e w' h=>⟨h.1,h.2⟩)
end Go.Proofs.YtfjmlfbohenmfaaGreat
namespace Go.Proofs.YtfjmlfbohenmfaaGreat
open Go.RowKit Go.Shelf
attribute [local go_sem] Oper.semAt_some
namespace Cd
open Dt
theorem keep_putObj{S:Nat→Prop}(W:World)(b:Nat)(o':Obj)(h:S b):Keep S W (W.putObj b o'):=
 ⟨rfl,rfl,rfl,by simp[World.putObj],fun k _ hn=>World.putObj_heap_other (fun e=>hn (by rw[e];exact h))⟩
def PI(w:World)(R:Nat)(pre:List P)(W:World):Prop:=(∀p∈pre,p.d.m=[])∧Boxed W R 4 (.bool false)∧Below w.heap.size w W
def PX(w:World)(R:Nat)(c:Go.Code)(pre:List P)(W:World):Prop:=c= .ret∧(∃p∈pre,p.d.m≠[])∧Boxed W R 4 (.bool false)∧Below w.heap.size w W
theorem below_grown{w W W':World}{row:Option Nat}{B:Nat}(h:Below w.heap.size w W)(hB:w.heap.size≤B)(hg:W.grownBy W' row)(hr:∀r,row=some r→B≤r):Below w.heap.size w W':=
 ⟨hg.os.trans h.os,hg.tape.trans h.tape,hg.output.trans h.output,Nat.le_trans h.size hg.size,fun k hk=>(hg.block k (Nat.lt_of_lt_of_le hk h.size) (fun e=>by have:=hr _ e.symm;omega)).trans (h.block k hk)⟩
theorem PI.grown{w W W':World}{R B:Nat}{pre:List P}{row:Option Nat}(h:PI w R pre W)(hw:w.heap.size≤B)(hR:R<B)(hg:W.grownBy W' row)(hr:∀r,row=some r→B≤r):PI w R pre W':=
 ⟨h.1,h.2.1.kept hg (fun e=>by have:=hr R e.symm;omega),below_grown h.2.2 hw hg hr⟩
theorem PX.grown{w W W':World}{R B:Nat}{c:Go.Code}{pre:List P}{row:Option Nat}(h:PX w R c pre W)(hw:w.heap.size≤B)(hR:R<B)(hg:W.grownBy W' row)(hr:∀r,row=some r→B≤r):PX w R c pre W':=
 ⟨h.1,h.2.1,h.2.2.1.kept hg (fun e=>by have:=hr R e.symm;omega),below_grown h.2.2.2 hw hg hr⟩
def PAx(w:World)(R:Nat)(tm:Nat→P→Array Value)(pre:List P)(x:P)(a':Act)(W:World):Prop:=
 PI w R pre W∧(∃am cm,x.vm= .slice am x.d.m.length cm)∧∃Bx,W.heap[Bx]?=some (.cells #[.int .i64 x.d.k,.int .i64 x.d.n,.string x.d.s,x.vm,x.vl,x.vt] 25 (0,0))∧a'= {tmps:=tm Bx x,defers:=[]}
theorem PAx.grown{w W W':World}{R B:Nat}{tm:Nat→P→Array Value}{pre:List P}{x:P}{a':Act}{row:Option Nat}(h:PAx w R tm pre x a' W)(hw:w.heap.size≤B)(hR:R<B)(hg:W.grownBy W' row)(hr:∀r,row=some r→B≤r∧∃o:Obj,W.heap[r]?=some o∧o.isCells=false):PAx w R tm pre x a' W':=by
 obtain⟨h1,h2,Bx,h4,h5⟩:=h;refine⟨h1.grown hw hR hg (fun r e=>(hr r e).1),h2,Bx,(hg.block Bx (Array.getElem?_eq_some_iff.1 h4).1 (fun e=> ?_)).trans h4,h5⟩;obtain⟨-,o,ho,hc⟩:=hr Bx e.symm;rw[h4]at ho;cases ho;cases hc
theorem boxed_below{W W':World}{R B:Nat}{t:TypeId}{v:Value}(h:Boxed W R t v)(hb:Below B W W')(hR:R<B):Boxed W' R t v:=(hb.block R hR).trans h
theorem vm_form{w:World}{p:P}(h:VP p w):∃am cm,p.vm= .slice am p.d.m.length cm:=by
 obtain⟨⟨am,cm,h1,_⟩,_⟩:=(rep_iff _ w p.d p.vm p.vl p.vt).1 h;exact⟨am,cm,h1⟩
end Cd
theorem constP_any{F:Nat→Prop}(x:Dt.D)(vm vl vt:Value)(w:World)(hW:Dt.Wf x)(hR:Dt.Rep F w x vm vl vt):
  Calls Tryz.prog 89 #[.agg #[.int .i64 x.k,.int .i64 x.n,.string x.s,vm,vl,vt]] w fun e w'=>e= .returned (.bool (Cd.plainD x))∧Below w.heap.size w w':=by
 obtain⟨w1,hw1⟩:∃w1,w.alloc (.cells #[.int .i64 x.k,.int .i64 x.n,.string x.s,vm,vl,vt] 25)=w1:=⟨_,rfl⟩
 obtain⟨w2,hw2⟩:∃w2,w1.alloc (.cells #[.bool false] 4)=w2:=⟨_,rfl⟩
 have hb1:Below w.heap.size w w1:=by rw[←hw1];exact(Below.refl _ _).alloc (Nat.le_refl _) _
 have hb2:Below w1.heap.size w1 w2:=by rw[←hw2];exact(Below.refl _ _).alloc (Nat.le_refl _) _
 have hz1:w1.heap.size=w.heap.size+1:=by rw[←hw1,World.size_alloc]
 have hz2:w2.heap.size=w.heap.size+2:=by rw[←hw2,World.size_alloc,hz1]
 have hx2:Boxed w2 (w.heap.size+1) 4 (.bool false):=by have h:=Boxed.new w1 4 (.bool false);rw[hw2,hz1]at h;exact h
 have hb12:Below w.heap.size w w2:=hb1.trans (hb2.mono (by omega));have hsix:Dt.Six w2 w.heap.size 0 x vm vl vt:=by
  have h:=Dt.six_of w x vm vl vt 25;rw[hw1]at h;exact h.keep (S:=fun _=>False) ((Keep.refl _ _).below hb2) (by omega) id
 have hc:=dCheck_any x vm vl vt w2 hW (hR.below hb12);obtain⟨d0,d1,d2,d3,d4,d5⟩:=hsix;have hsix:Dt.Six w2 w.heap.size 0 x vm vl vt:=⟨d0,d1,d2,d3,d4,d5⟩
 simp only[Nat.zero_add]at d0 d1 d2 d3 d4 d5;have HB:=zh hb12;have HX2:=zh hx2;have HZ2:=zh hz2;have HSIX:=zh hsix;have HR:=zh hR;clear hb1 hb2 hz2 hb12 hsix hx2 hR;by_cases hck:Dt.check x=0
 case neg=>
  have hnz:(Dt.check x !=0)=true:=by simpa using hck
  have hpl:Cd.plainD x=false:=by simp[Cd.plainD,hck]
  rw[hpl];clear hpl;obtain⟨cv,hcv⟩:∃cv,Dt.check x=cv:=⟨_,rfl⟩
  rw[hcv]at hc hnz;clear hcv hck;go_enter Tryz.func89,Tryz.ntmps89;go_wp2_with fail
  refine hc.mono ?_;rintro e w3 ⟨rfl,hb3⟩;have hx3:=Cd.boxed_below HX2.out hb3 HX2.out.lt;have c3:=hx3.cell;have f3:=hx3.frozen;have HX3:=zh hx3;have HB3:=zh ((btr HB.out hb3));clear hb3 hx3 hc hw2;go_wp2;have c4:(w3.setCell ⟨w.heap.size+1,0,none⟩ (.bool false)).cell? ⟨w.heap.size+1,0,none⟩=some (.bool false):=World.cell?_setCell_same' _ _ _ (by rw[c3];rfl);refine bodyPost_ret (v:= .bool false) (by simp[results,Tryz.results89,go_sem,c4]) rfl ?_;exact⟨rfl,HB3.out.setCell (p:=⟨w.heap.size+1,0,none⟩) (by simp) _⟩
 have hz:(Dt.check x !=0)=false:=by simpa using hck
 have HCK:Hid ((Dt.chk x 1 0).1=0):=hck;rw[hck]at hc;clear hz hck;refine(callsIn_wide (n:=12)).1 ?_;refine callsIn_of_wp_marks Tryz.func89 rfl trivial ?_ rfl;simp only[Tryz.ntmps89,List.size_toArray,List.length_cons,List.length_nil,Nat.reduceAdd,Nat.reduceSub,Array.replicate_succ,Array.replicate_zero,List.push_toArray,List.append_toArray,List.nil_append,List.cons_append]
 gi_wp2_with (refine⟨trivial,?_⟩;gi_at_call 58;refine(callsIn_wide.2 hc).mono ?_;clear hc hw1 hw2;rintro e w3 ⟨rfl,hb3⟩;have HB3:=zh hb3;obtain⟨e0,e1,e2,e3,e4,e5⟩:=HSIX.out.keep (S:=fun _=>False) ((Keep.refl _ _).below hb3) (by have:=HZ2.out;omega) id;simp only[Nat.zero_add]at e0 e1 e2 e3 e4 e5;have hal:=dAll_any x vm vl vt w3;clear d0 d1 d2 d3 d4 d5 hb3)
 refine⟨trivial,?_⟩;refine(callsIn_wide.2 hal).mono ?_;clear hal;rintro e W0 ⟨rfl,hb4,hs4,hz4⟩;have HW0:Hid (Below w.heap.size w W0):=((btr HB.out HB3.out)).trans (hb4.mono (Nat.le_trans HB.out.size HB3.out.size));have HX0:Hid (Boxed W0 (w.heap.size+1) 4 (.bool false)):=Cd.boxed_below (Cd.boxed_below HX2.out HB3.out HX2.out.lt) hb4 (Nat.lt_of_lt_of_le HX2.out.lt HB3.out.size);have HS4:=zh hs4;have hwz:w.heap.size≤W0.heap.size:=HW0.out.size;have hRz:=HX0.out.lt;clear hb4 hs4 e0 e1 e2 e3 e4 e5
 gi_wp2
 obtain⟨Y,hY⟩:∃Y,w3.heap.size=Y:=⟨_,rfl⟩
 rw[hY]at HS4 hz4 ⊢;have HRP:Hid (Dt.Rep (fun k=>k<w.heap.size) W0 x vm vl vt):=(Dt.Rep.mono (fun _ _ h=>h) x HR.out).below HW0.out;refine Rb.wpIn_rangeB (n:=12) rfl (by omega) (gf:=150) (lb:=#[.pointer (some ⟨Y,0,none⟩)]) rfl trivial (enters_of Tryz.func150 (by kernel_rfl) rfl)
  (encs:=Dt.encP) (Kp:=Keep fun k=>k=w.heap.size+1∨k=W0.heap.size+1) (V:=Dt.VP) (S:=fun ys=>ys.map Dt.P.d=Dt.pre x) (Sp:=fun ys=>ys.map Dt.P.d<+:Dt.pre x) (N:=(Dt.pre x).length) (w0:=W0)
  (dAll_stops 11 x vm vl vt W0 (w.heap.size+1) Y hRz hW HRP.out (fun k hk=>⟨by omega,by omega⟩) HS4.out HCK.out)
  (fun h k=>h.trans k) (fun W o o' _ _=>Cd.keep_putObj W (W0.heap.size+1) o' (.inr rfl)) (Below.refl _ _) (fun _=>rfl)
  (Cd.PI w (w.heap.size+1)) (Cd.PX w (w.heap.size+1))
  (fun pre W W' row h hg hr=>Cd.PI.grown h hwz hRz hg (fun r e=>(hr r e).1))
  (fun c pre W W' row h hg hr=>Cd.PX.grown h hwz hRz hg (fun r e=>(hr r e).1))
  (fun pre W W' h _ hb=>⟨h.1,Cd.boxed_below h.2.1 hb (by omega),h.2.2.trans (hb.mono (by omega))⟩)
  (fun c pre W W' h _ hb=>⟨h.1,h.2.1,Cd.boxed_below h.2.2.1 hb (by omega),h.2.2.2.trans (hb.mono (by omega))⟩)
  ⟨fun _ h=>(by cases h),HX0.out,HW0.out⟩
  (Cd.PAx w (w.heap.size+1) (fun Bx p=>#[.agg #[.int .i64 x.k,.int .i64 x.n,.string x.s,vm,vl,vt],.pointer (some ⟨w.heap.size,0,none⟩),.pointer (some ⟨w.heap.size+1,0,none⟩),.pointer (some ⟨Bx,0,none⟩),.agg #[.int .i64 x.k,.int .i64 x.n,.string x.s,vm,vl,vt],.int .i64 0,.bool false,.agg #[.int .i64 x.k,.int .i64 x.n,.string x.s,vm,vl,vt],.func (.func 150) #[] #[.pointer (some ⟨Y,0,none⟩)],.agg #[.int .i64 p.d.k,.int .i64 p.d.n,.string p.d.s,p.vm,p.vl,p.vt],undef,undef,undef,undef]))
  (fun pre y a' _ W W' row h hg hr=>Cd.PAx.grown h hwz hRz hg hr)
  ?assign ?body ?done ?stop
 case assign=>
  rintro l pre ⟨pd,pm,pl,pt⟩ W K hT hV hK;have hf:=Cd.vm_form hV;obtain⟨a1,n1,q1,a2,n2,q2,a3,n3,q3,e1,e2,e3⟩:=Dt.Rep.forms (show Dt.Rep (fun _=>True) W pd pm pl pt from hV);subst e1 e2 e3;unfold Dt.encP;dsimp only at hf ⊢
  gi_wp2
  refine hK _ _ ?_ ?_ ?_
  ·exact(KeepsOthers.alloc _ _).from _
  ·exact(Keep.refl _ _).alloc _
  exact⟨hT.grown hwz hRz (World.grownBy_alloc W _ none) (by simp),hf,W.heap.size,World.alloc_heap_new W _,rfl⟩
 case body=>
  rintro l pre ⟨pd,pm,pl,pt⟩ a' W hl ⟨r,hr⟩ ⟨hT,⟨am,cm,hpm⟩,Bx,hX,rfl⟩ hlt;dsimp only at hpm hX ⊢;subst hpm;have x3:W.cell? ⟨Bx,3,none⟩=some (.slice am pd.m.length cm):=by simp[World.cell?,hX]
  have cR:=hT.2.1.cell;have fR:=hT.2.1.frozen;have HT:=zh hT;clear hT;by_cases hm:pd.m=[]
  ·have hln:pd.m.length=0:=by rw[hm];rfl
   rw[hln]at x3 ⊢
   gi_wp2
   exact⟨KeepsFrom.refl _ _,Keep.refl _ _,fun q hq=>by rcases List.mem_append.1 hq with h|h;exact HT.out.1 q h;rw[List.mem_singleton.1 h];exact hm,HT.out.2.1,HT.out.2.2⟩
  ·have hln:(0:Int)<(pd.m.length:Int):=by have:=List.length_pos_iff.2 hm;omega
   gi_wp2
   refine⟨(KeepsOthers.setCell _ _ _).from _,(Keep.refl _ _).setCell (B:=w.heap.size+1) (.inl rfl) 0 _,rfl,⟨_,List.mem_append_right _ (List.mem_singleton_self _),by simp[hm]⟩,HT.out.2.1.set _,HT.out.2.2.setCell (p:=⟨w.heap.size+1,0,none⟩) (by simp) _⟩
 case done=>
  rintro D ys W hD hS hI hK;have HI:=zh hI;have cR:=hI.2.1.cell;have fR:=hI.2.1.frozen;have hv:Cd.plainD x=true:=by
   have h1:Dt.check x=0:=HCK.out;have h2:∀q∈Dt.pre x,q.m.isEmpty=true:=by
    intro q hq;rw[←hS]at hq;obtain⟨p,hp,rfl⟩:=List.mem_map.1 hq;rw[hI.1 p hp];rfl
   simp only[Cd.plainD,h1,List.all_eq_true.2 h2]
   rfl
  have HV:=zh hv;clear hI hS hv
  gi_wp2
  have hb9:Boxed (W.setCell ⟨w.heap.size+1,0,none⟩ (.bool true)) (w.heap.size+1) 4 (.bool true):=HI.out.2.1.set _;have hK9:(W.setCell ⟨w.heap.size+1,0,none⟩ (.bool true)).heap[D]?=some (.deferred (some [])):=(KeepsOthers.setCell _ _ _).same D _ hK rfl;have hbw:=HI.out.2.2.setCell (p:=⟨w.heap.size+1,0,none⟩) (by simp) (.bool true);obtain⟨U,hU⟩:∃U,W.setCell ⟨w.heap.size+1,0,none⟩ (.bool true)=U:=⟨_,rfl⟩
  rw[hU]at hb9 hK9 hbw ⊢;refine⟨by simp,.inl ⟨_,_,rfl,run_takeDeferred hK9,?_⟩⟩;have c9:=fun o'=>(hb9.kept (grownBy_putObj' U D o') (fun e=>by cases e;omega)).cell
  refine⟨.bool true,by simp[results,Tryz.results89,go_sem,c9],by rw[HV.out],?_⟩;exact hbw.trans (belowK_b (w:=w) (Nat.le_refl _) U D _ _ (by omega) hK9 rfl rfl)
 case stop=>
  rintro D c pre W hD hp hI hK;obtain⟨rfl,hex,hbx,hbw⟩:=hI;have cR:=hbx.cell;have HBX:=zh hbx;have hv:Cd.plainD x=false:=by
   obtain⟨p,hp1,hp2⟩:=hex;have hq:p.d∈Dt.pre x:=List.IsPrefix.subset hp (List.mem_map_of_mem hp1);simp only[Cd.plainD,Bool.and_eq_false_iff];right;rw[List.all_eq_false];exact⟨p.d,hq,by simpa using hp2⟩
  have HV:=zh hv;clear hex hbx hv
  gi_wp2
  refine⟨by simp,.inl ⟨_,_,rfl,run_takeDeferred hK,?_⟩⟩;have c9:=fun o'=>(HBX.out.kept (grownBy_putObj' W D o') (fun e=>by cases e;omega)).cell
  refine⟨.bool false,by simp[results,Tryz.results89,go_sem,c9],by rw[HV.out],?_⟩;exact hbw.trans (belowK_b (w:=w) (Nat.le_refl _) W D _ _ (by omega) hK rfl rfl)
theorem constC_any{F:Nat→Prop}(x:Dt.D)(vm vl vt:Value)(w:World)(hW:Dt.Wf x)(hR:Dt.Rep F w x vm vl vt):
  Calls Tryz.prog 89 #[.agg #[.int .i64 x.k,.int .i64 x.n,.string x.s,vm,vl,vt]] w fun e w'=>e= .returned (.bool (Co.const x))∧Below w.heap.size w w':=
 constP_any x vm vl vt w hW hR
end Go.Proofs.YtfjmlfbohenmfaaGreat
namespace Go.Proofs.YtfjmlfbohenmfaaGreat
open Go.RowKit
theorem rClone_any{F:Nat→Prop}(x:Dt.D)(vm vl vt:Value)(w:World)(hW:Dt.Wf x)(hR:Dt.Rep F w x vm vl vt):
  Calls Tryz.prog 88 #[.agg #[.int .i64 x.k,.int .i64 x.n,.string x.s,vm,vl,vt]] w fun e w'=>Dt.Fresh w.heap.size w' (Dt.clone x) e∧Below w.heap.size w w':=by
 obtain⟨a1,n1,q1,a2,n2,q2,a3,n3,q3,rfl,rfl,rfl⟩:=hR.forms;obtain⟨w2,hw2,hb2,hs2,hx2,hy2⟩:=Dt.boxes2 w x (.mk 0 0 ⟨#[]⟩ [] [] []) (.slice a1 n1 q1) (.slice a2 n2 q2) (.slice a3 n3 q3) (.slice none 0 0) (.slice none 0 0) (.slice none 0 0);have hck:=rCheck_any x _ _ _ w2 hW (hR.below hb2);have HR2:=zh (hR.below hb2);have HS2:=zh hs2;have HB2:=zh hb2;have HX:=zh hx2;have HY:=zh hy2;have HW:=zh hW;have HFZ:Hid (∀j,w2.frozen? ⟨w.heap.size+1,j,none⟩=false):=by
  intro j;rw[←hw2];have:=Dt.frz_new (w.alloc (.cells #[.int .i64 x.k,.int .i64 x.n,.string x.s,.slice a1 n1 q1,.slice a2 n2 q2,.slice a3 n3 q3] 25)) #[.int .i64 0,.int .i64 0,.string ⟨#[]⟩,.slice none 0 0,.slice none 0 0,.slice none 0 0] 25 j;rw[World.size_alloc]at this;exact this
 obtain⟨b0,b1,b2,b3,b4,b5⟩:=hx2;have hw2':(w.alloc (.cells #[.int .i64 x.k,.int .i64 x.n,.string x.s,.slice a1 n1 q1,.slice a2 n2 q2,.slice a3 n3 q3] 25)).alloc (.cells #[.int .i64 0,.int .i64 0,.string ⟨#[]⟩,.slice none 0 0,.slice none 0 0,.slice none 0 0] 25)=w2:=hw2;clear hR hW hs2 hb2 hy2 hw2;by_cases h0:Dt.check x=0
 ·have HC:Hid (Dt.clone x=x):=by show _=_;unfold Dt.clone;rw[if_pos h0]
  have HF:=zh (Dt.fine_of_check h0);rw[h0]at hck;rw[HC.out];clear h0;go_enter Tryz.func88,Tryz.ntmps88;go_wp2_with fail
  refine hck.mono ?_;rintro e w3 ⟨rfl,hb3⟩;obtain⟨c0,c1,c2,c3,c4,c5⟩:=HX.out.below hb3;have hown:=Dt.made_any true x F (.slice a1 n1 q1) (.slice a2 n2 q2) (.slice a3 n3 q3) w3 HW.out HF.out (HR2.out.below hb3);rw[Dt.strip_true]at hown;have HB3:=zh hb3;clear hck hw2' hb3 b0 b1 b2 b3 b4 b5;go_wp2_with fail
  refine hown.mono ?_;rintro e w4 ⟨⟨um,ul,ut,rfl,hr4⟩,hb4⟩;obtain⟨b1,m1,p1,b2,m2,p2,b3,m3,p3,rfl,rfl,rfl⟩:=hr4.forms;have hb24:Below w2.heap.size w2 w4:=btr HB3.out hb4;obtain⟨d0,d1,d2,d3,d4,d5⟩:=HY.out.below hb24;have hl:w.heap.size+1<w2.heap.size:=by have:=HS2.out;omega
  have hf:∀j,w4.frozen? ⟨w.heap.size+1,j,none⟩=false:=fun j=>(hb24.frozen (p:=⟨w.heap.size+1,j,none⟩) hl).trans (HFZ.out j)
  have k0:=hf 0;have k1:=hf 1;have k2:=hf 2;have k3:=hf 3;have k4:=hf 4;have k5:=hf 5;have HE:Hid (Dt.Fresh w.heap.size (Dt.six6 w4 (w.heap.size+1) x (.slice b1 m1 p1) (.slice b2 m2 p2) (.slice b3 m3 p3)) x (.returned (.agg #[.int .i64 x.k,.int .i64 x.n,.string x.s,.slice b1 m1 p1,.slice b2 m2 p2,.slice b3 m3 p3]))∧Below w.heap.size w (Dt.six6 w4 (w.heap.size+1) x (.slice b1 m1 p1) (.slice b2 m2 p2) (.slice b3 m3 p3))):=by
   have hk:=Dt.six6_keep w4 (w.heap.size+1) x (.slice b1 m1 p1) (.slice b2 m2 p2) (.slice b3 m3 p3);have hs3:=HB3.out.size;have hs2:=HS2.out;have hr4':Dt.Rep (fun k=>w.heap.size+1<k) w4 x (.slice b1 m1 p1) (.slice b2 m2 p2) (.slice b3 m3 p3):=Dt.Rep.mono (fun b hb _=>by omega) x hr4;refine⟨⟨_,_,_,rfl,Dt.Rep.mono (fun b hb _=>by omega) x (Dt.Rep.keep hk (fun b hb _ e=>by omega) x hr4')⟩,((btr HB2.out hb24)).trans (hk.to_below (fun k e=>by omega) (by have:=hb24.size;omega))⟩
  clear hown hr4 hb4 hb24 hf c0 c1 c2 c3 c4 c5;go_wp2;refine bodyPost_ret (v:= .agg #[.int .i64 x.k,.int .i64 x.n,.string x.s,.slice b1 m1 p1,.slice b2 m2 p2,.slice b3 m3 p3]) ?_ rfl ?_
  ·simp[results,Tryz.results88,go_sem, *]
  ·exact HE.out
 ·have HC:Hid (Dt.clone x= .mk 0 0 ⟨#[]⟩ [] [] []):=by show _=_;unfold Dt.clone;rw[if_neg h0]
  have h1:(Dt.check x !=0)=true:=by simpa using h0
  have h2:(Dt.check x==0)=false:=by simpa using h0
  rw[HC.out];clear h0;go_enter Tryz.func88,Tryz.ntmps88;go_wp2_with fail
  refine hck.mono ?_;rintro e w3 ⟨rfl,hb3⟩;obtain⟨d0,d1,d2,d3,d4,d5⟩:=HY.out.below hb3;have hl:w.heap.size+1<w2.heap.size:=by have:=HS2.out;omega
  have hf:∀j,w3.frozen? ⟨w.heap.size+1,j,none⟩=false:=fun j=>(hb3.frozen (p:=⟨w.heap.size+1,j,none⟩) hl).trans (HFZ.out j)
  have k0:=hf 0;have k1:=hf 1;have k2:=hf 2;have k3:=hf 3;have k4:=hf 4;have k5:=hf 5;have HE:Hid (∀u,Keep (fun k=>k=w.heap.size+1) w3 u→Below w.heap.size w u):=by
   intro u hu;exact((btr HB2.out hb3)).trans (hu.to_below (fun k e=>by omega) (by have:=hb3.size;omega))
  clear hck hw2' hb3 hf b0 b1 b2 b3 b4 b5;simp only[Dt.D.k,Dt.D.n,Dt.D.s]at d0 d1 d2;go_wp2;refine bodyPost_ret (v:= .agg #[.int .i64 0,.int .i64 0,.string ⟨#[]⟩,.slice none 0 0,.slice none 0 0,.slice none 0 0]) ?_ rfl ?_
  ·simp[results,Tryz.results88,go_sem, *]
  ·exact⟨⟨_,_,_,rfl,Dt.rep_zero _ _⟩,HE.out _ (Dt.six6_keep w3 (w.heap.size+1) (.mk 0 0 ⟨#[]⟩ [] [] []) (.slice none 0 0) (.slice none 0 0) (.slice none 0 0))⟩
end Go.Proofs.YtfjmlfbohenmfaaGreat
