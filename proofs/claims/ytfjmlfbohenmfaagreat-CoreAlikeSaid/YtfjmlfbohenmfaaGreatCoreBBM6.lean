/-
  DtAllb, LexRefFb.
-/
import Derived.Test.YtfjmlfbohenmfaaGreatDtGoesb
import Derived.Test.YtfjmlfbohenmfaaGreatCoreBBM2
import Derived.Test.YtfjmlfbohenmfaaGreatLexRefEb
set_option maxRecDepth 100000
set_option maxHeartbeats 32000000
namespace Go.Proofs.YtfjmlfbohenmfaaGreat
open Go.RowKit
namespace Dt
def WalkedPost(x:D)(base:Nat)(w:World)(e:Ending)(w':World):Prop:=
 ∃B vp vd ls ds,e= .returned (.pointer (some ⟨B,0,none⟩))∧Wk w' base B (check x) vp vd ls ds∧(check x=0→ls.map P.d=pre x)∧Below w.heap.size w w'
theorem Wk.fresh(w:World)(base:Nat)(hbase:base≤w.heap.size):Wk (w.alloc (.cells #[.slice none 0 0,.slice none 0 0,.int .i64 0] 121)) base w.heap.size 0 (.slice none 0 0) (.slice none 0 0) [] []:=by
 have hh:=heap_alloc_new w (.cells #[.slice none 0 0,.slice none 0 0,.int .i64 0] 121);refine⟨?_,?_,?_,fun j=> ?_,World.ownsRow_nil _ _ _ _,World.ownsRow_nil _ _ _ _,by simp[Value.ownBlock],by simp[Value.ownBlock],fun k h=>by simp[Value.ownBlock]at h,fun p h=>by simp at h,by simp,by simp,hbase⟩
 ·unfold World.cell?;rw[hh];rfl
 ·unfold World.cell?;rw[hh];rfl
 ·unfold World.cell?;rw[hh];rfl
 ·unfold World.frozen?;rw[hh];simp
theorem rep_all{F:Nat→Prop}{w:World}{d:D}{vm vl vt:Value}(h:Rep F w d vm vl vt):Rep (fun k=>k<w.heap.size) w d vm vl vt:=Rep.mono (fun _ _ h=>h) d h
end Dt
theorem walked_any(x:Dt.D)(vm vl vt:Value)(base:Nat)(w:World)(hbase:base≤w.heap.size)(hW:Dt.Wf x)(hR:Dt.Rep (fun k=>k<base) w x vm vl vt):
  Calls Tryz.prog 84 #[.agg #[.int .i64 x.k,.int .i64 x.n,.string x.s,vm,vl,vt]] w (Dt.WalkedPost x base w):=by
 obtain⟨a1,n1,q1,a2,n2,q2,a3,n3,q3,rfl,rfl,rfl⟩:=hR.forms;obtain⟨w1,hw1⟩:∃w1,w.alloc (.cells #[.int .i64 x.k,.int .i64 x.n,.string x.s,.slice a1 n1 q1,.slice a2 n2 q2,.slice a3 n3 q3] 25)=w1:=⟨_,rfl⟩
 have hb1:Below w.heap.size w w1:=by rw[←hw1];exact(Below.refl _ _).alloc (Nat.le_refl _) _
 have hs1:w1.heap.size=w.heap.size+1:=by rw[←hw1];simp
 have hsix:=Dt.six_new w x.k x.n x.s (.slice a1 n1 q1) (.slice a2 n2 q2) (.slice a3 n3 q3) 25;rw[hw1]at hsix;have d0:w1.cell? ⟨w.heap.size,0,none⟩=some (.int .i64 x.k):=hsix 0 (by omega);have d1:w1.cell? ⟨w.heap.size,1,none⟩=some (.int .i64 x.n):=hsix 1 (by omega);have d2:w1.cell? ⟨w.heap.size,2,none⟩=some (.string x.s):=hsix 2 (by omega);have d3:w1.cell? ⟨w.heap.size,3,none⟩=some (.slice a1 n1 q1):=hsix 3 (by omega);have d4:w1.cell? ⟨w.heap.size,4,none⟩=some (.slice a2 n2 q2):=hsix 4 (by omega);have d5:w1.cell? ⟨w.heap.size,5,none⟩=some (.slice a3 n3 q3):=hsix 5 (by omega);have hK:=Dt.Wk.fresh w1 base (Nat.le_trans hbase hb1.size);have hR1:=hR.below hb1;obtain⟨w2,hw2⟩:∃w2,w1.alloc (.cells #[.slice none 0 0,.slice none 0 0,.int .i64 0] 121)=w2:=⟨_,rfl⟩
 have hb2:Below w1.heap.size w1 w2:=by rw[←hw2];exact(Below.refl _ _).alloc (Nat.le_refl _) _
 rw[hw2]at hK;have hlt:w.heap.size<w1.heap.size:=by omega
 have e0:=(hb2.cell (p:=⟨w.heap.size,0,none⟩) hlt).trans d0;have e1:=(hb2.cell (p:=⟨w.heap.size,1,none⟩) hlt).trans d1;have e2:=(hb2.cell (p:=⟨w.heap.size,2,none⟩) hlt).trans d2;have e3:=(hb2.cell (p:=⟨w.heap.size,3,none⟩) hlt).trans d3;have e4:=(hb2.cell (p:=⟨w.heap.size,4,none⟩) hlt).trans d4;have e5:=(hb2.cell (p:=⟨w.heap.size,5,none⟩) hlt).trans d5;have hgo:=Dt.goes_any x 1 base w1.heap.size (.slice none 0 0) (.slice none 0 0) _ _ _ [] [] w2 hW (hR1.below hb2) hK (by omega);rw[show(((1:Nat)):Int)=1 from rfl,hs1]at hgo;have HS:=zh hs1;have HB2:=zh ((btr hb1 hb2));have HGO:=zh hgo;clear hsix hR hR1 hK hgo hb1 hb2 d0 d1 d2 d3 d4 d5 hW hlt;go_enter Tryz.func84,Tryz.ntmps84;go_wp2_with fail
 refine HGO.out.mono ?_;rintro e w3 ⟨rfl,vp',vd',ls',ds',k1,k2,k3,k4,k5,k6⟩;have HX:Hid (Dt.WalkedPost x base w (.returned (.pointer (some ⟨w.heap.size+1,0,none⟩))) w3):=by
  have hs:=HS.out;have hb3:Below w.heap.size w w3:=HB2.out.trans (k4.to_below (fun k hk=>by
   rcases hk with h|h|h
   ·omega
   ·simp[Value.ownBlock]at h
   ·simp[Value.ownBlock]at h) HB2.out.size)
  refine⟨w.heap.size+1,vp',vd',ls',ds',rfl,?_,fun h0=>by simpa using k3 h0,hb3⟩;exact k1
 clear k1 k2 k3 k4 k5 k6 HGO e0 e1 e2 e3 e4 e5;go_wp2;go_ret;exact HX.out
theorem rCheck_any{F:Nat→Prop}(x:Dt.D)(vm vl vt:Value)(w:World)(hW:Dt.Wf x)(hR:Dt.Rep F w x vm vl vt):
  Calls Tryz.prog 86 #[.agg #[.int .i64 x.k,.int .i64 x.n,.string x.s,vm,vl,vt]] w fun e w'=>e= .returned (.int .i64 (Dt.check x))∧Below w.heap.size w w':=by
 have hb0:Below w.heap.size w (w.alloc (.cells #[.int .i64 x.k,.int .i64 x.n,.string x.s,vm,vl,vt] 25)):=(Below.refl _ _).alloc (Nat.le_refl _) _;have hw:=walked_any x vm vl vt w.heap.size _ hb0.size hW ((Dt.rep_all hR).below hb0);have HB:=zh hb0;obtain⟨a1,n1,q1,a2,n2,q2,a3,n3,q3,rfl,rfl,rfl⟩:=hR.forms;clear hR hW hb0;go_enter Tryz.func86,Tryz.ntmps86;go_wp2_with fail
 refine hw.mono ?_;rintro e w1 ⟨B,vp,vd,ls,ds,rfl,hK,hp,hb1⟩;have c2:=hK.c2;have HB1:=zh ((btr HB.out hb1));clear hw hK hp hb1;go_wp2;go_ret;exact⟨rfl,HB1.out⟩
namespace Dt
def AllPost(x:D)(w:World)(e:Ending)(w':World):Prop:=
 ∃vp ls,e= .returned vp∧w'.ownsRow w.heap.size 25 6 vp ls.length (flatP ls)∧(∀p∈ls,Rep (fun k=>k<w.heap.size) w' p.d p.vm p.vl p.vt)∧ls.map P.d=(if check x=0 then pre x else [])∧ls.length≤4096∧Below w.heap.size w w'
end Dt
theorem rAll_any{F:Nat→Prop}(x:Dt.D)(vm vl vt:Value)(w:World)(hW:Dt.Wf x)(hR:Dt.Rep F w x vm vl vt):
  Calls Tryz.prog 61 #[.agg #[.int .i64 x.k,.int .i64 x.n,.string x.s,vm,vl,vt]] w (Dt.AllPost x w):=by
 have hb0:Below w.heap.size w (w.alloc (.cells #[.int .i64 x.k,.int .i64 x.n,.string x.s,vm,vl,vt] 25)):=(Below.refl _ _).alloc (Nat.le_refl _) _;have hw:=walked_any x vm vl vt w.heap.size _ hb0.size hW ((Dt.rep_all hR).below hb0);have HB:=zh hb0;obtain⟨a1,n1,q1,a2,n2,q2,a3,n3,q3,rfl,rfl,rfl⟩:=hR.forms;clear hR hW hb0;go_enter Tryz.func61,Tryz.ntmps61;go_wp2_with fail
 refine hw.mono ?_;rintro e w1 ⟨B,vp,vd,ls,ds,rfl,hK,hp,hb1⟩;have c2:=hK.c2;have c0:=hK.c0;have hb2:=btr HB.out hb1;obtain⟨ap,cp,rfl⟩:=Dt.row_form hK.rp;by_cases h0:Dt.check x=0
 ·have hX:Hid (Dt.AllPost x w (.returned (.slice ap ls.length cp)) w1):=by
   exact⟨.slice ap ls.length cp,ls,rfl,hK.rp,hK.rep,by rw[if_pos h0];exact hp h0,hK.len,hb2⟩
  rw[h0]at c2;clear hw hK hp hb1 hb2 h0;go_wp2;go_ret;exact hX.out
 ·have hX:Hid (Dt.AllPost x w (.returned (.slice none 0 0)) w1):=
   ⟨.slice none 0 0,[],rfl,World.ownsRow_nil _ _ _ _,by simp,by simp[h0],by simp,hb2⟩
  have h1:(Dt.check x !=0)=true:=by simpa using h0
  have h2:(Dt.check x==0)=false:=by simpa using h0
  clear hw hK hp hb1 hb2;go_wp2;go_ret;exact hX.out
end Go.Proofs.YtfjmlfbohenmfaaGreat
namespace Go.Proofs.YtfjmlfbohenmfaaGreat
open Go.RowKit Go.Sort
namespace Lx
end Lx
end Go.Proofs.YtfjmlfbohenmfaaGreat
