/-
 datum.single, kind by kind.
-/
import Derived.Test.YtfjmlfbohenmfaaGreatCoreBBM2
namespace Go.Proofs.YtfjmlfbohenmfaaGreat
open Go.RowKit
namespace Dt
theorem bel2(w:World)(a b:Obj):Below w.heap.size w ((w.alloc a).alloc b):=((Below.refl _ _).alloc (Nat.le_refl _) a).alloc (by rw[World.size_alloc];omega) b
end Dt
set_option maxRecDepth 100000 in
set_option maxHeartbeats 4000000 in
theorem dSingle1_any{F:Nat→Prop}(n:Int)(s:ByteArray)(m:List Int)(l t:List Dt.D)(vm vl vt:Value)(w:World)(hW:Dt.Wf (.mk 1 n s m l t))(h:Dt.Rep F w (.mk 1 n s m l t) vm vl vt):
  Calls Tryz.prog 105 #[.agg #[.int .i64 1,.int .i64 n,.string s,vm,vl,vt]] w fun e w'=>e= .returned (.bool (Dt.single (.mk 1 n s m l t)))∧Below w.heap.size w w':=by
 rw[Dt.Wf]at hW;rw[Dt.Rep]at h;obtain⟨hn,hsz,hlm,hll,hlt,_,_⟩:=hW;obtain⟨hm,⟨al,cl,rfl,hcl,hl⟩,⟨at_,ct,rfl,hct,ht⟩⟩:=h;have hm0:=hm;obtain⟨am,cm,rfl,hcm,_⟩:=hm;have hem:=fun w=>dEmpty_any 1 0 s am al at_ m.length cm l.length cl t.length ct w hlm hll hlt
 have heq:=Dt.emptyB_eq 0 s m l t;simp only at heq;obtain⟨E,hE⟩:∃E,Dt.emptyB 0 s m.length l.length t.length=E:=⟨_,rfl⟩
 rw[hE]at hem;have hE2:=hE.symm.trans heq;obtain⟨R,hR⟩:∃R,R=Dt.single (.mk 1 n s m l t):=⟨_,rfl⟩
 rw[←hR];have HR:Hid (R=(Dt.isFix n&&E)):=by
  show _=_;rw[hR,hE2];unfold Dt.single;simp[Bool.and_assoc]
 clear hE heq;have hi:=fun w=>fixIn_any n w
 obtain⟨I,hI⟩:∃I,I=Dt.isFix n:=⟨_,rfl⟩
 rw[←hI]at HR hi;clear hI hE2 hR hm0 hl ht;go_enter Tryz.func105,Tryz.ntmps105;go_wp2_with(first
  |(go_at_call 137;refine(hi _).mono ?_;rintro e w1 ⟨rfl,rfl⟩)
  |(go_at_call 138;refine(hem _).mono ?_;rintro e w2 ⟨rfl,hb2⟩))
 ·go_ret;exact⟨by rw[HR.out];simp_all,(Dt.bel2 _ _ _).trans (hb2.mono (by rw[World.size_alloc,World.size_alloc];omega))⟩
 ·go_ret;exact⟨by rw[HR.out];simp_all,Dt.bel2 _ _ _⟩
set_option maxRecDepth 100000 in
set_option maxHeartbeats 4000000 in
theorem dSingle2_any{F:Nat→Prop}(n:Int)(s:ByteArray)(m:List Int)(l t:List Dt.D)(vm vl vt:Value)(w:World)(hW:Dt.Wf (.mk 2 n s m l t))(h:Dt.Rep F w (.mk 2 n s m l t) vm vl vt):
  Calls Tryz.prog 105 #[.agg #[.int .i64 2,.int .i64 n,.string s,vm,vl,vt]] w fun e w'=>e= .returned (.bool (Dt.single (.mk 2 n s m l t)))∧Below w.heap.size w w':=by
 rw[Dt.Wf]at hW;rw[Dt.Rep]at h;obtain⟨hn,hsz,hlm,hll,hlt,_,_⟩:=hW;obtain⟨hm,⟨al,cl,rfl,hcl,hl⟩,⟨at_,ct,rfl,hct,ht⟩⟩:=h;have hm0:=hm;obtain⟨am,cm,rfl,hcm,_⟩:=hm;have hem:=fun w=>dEmpty_any 2 0 s am al at_ m.length cm l.length cl t.length ct w hlm hll hlt
 have heq:=Dt.emptyB_eq 0 s m l t;simp only at heq;obtain⟨E,hE⟩:∃E,Dt.emptyB 0 s m.length l.length t.length=E:=⟨_,rfl⟩
 rw[hE]at hem;have hE2:=hE.symm.trans heq;obtain⟨R,hR⟩:∃R,R=Dt.single (.mk 2 n s m l t):=⟨_,rfl⟩
 rw[←hR];have HR:Hid (R=(decide (0≤n∧n<2)&&E)):=by
  show _=_;rw[hR,hE2];unfold Dt.single;simp[Bool.and_assoc]
 clear hE heq;have hA:=zh (Dt.andNot_zero n 1 1 (by omega) (by decide) hn);clear hE2 hR hm0 hl ht;go_enter Tryz.func105,Tryz.ntmps105;go_wp2_with(go_at_call 138;refine(hem _).mono ?_;rintro e w2 ⟨rfl,hb2⟩)
 ·rename_i hz;have hz:=hA.out.1 hz;go_ret;refine⟨?_,(Dt.bel2 _ _ _).trans (hb2.mono (by rw[World.size_alloc,World.size_alloc];omega))⟩;rw[HR.out,decide_eq_true (show 0≤n∧n<2 by omega)];simp
 ·rename_i hz;have hz':¬ (0≤n∧n<2):=fun h=>hz (hA.out.2 h)
  go_ret;refine⟨?_,Dt.bel2 _ _ _⟩;rw[HR.out,decide_eq_false hz']
  simp_all
set_option maxRecDepth 100000 in
set_option maxHeartbeats 4000000 in
theorem dSingle3_any{F:Nat→Prop}(n:Int)(s:ByteArray)(m:List Int)(l t:List Dt.D)(vm vl vt:Value)(w:World)(hW:Dt.Wf (.mk 3 n s m l t))(h:Dt.Rep F w (.mk 3 n s m l t) vm vl vt):
  Calls Tryz.prog 105 #[.agg #[.int .i64 3,.int .i64 n,.string s,vm,vl,vt]] w fun e w'=>e= .returned (.bool (Dt.single (.mk 3 n s m l t)))∧Below w.heap.size w w':=by
 rw[Dt.Wf]at hW;rw[Dt.Rep]at h;obtain⟨hn,hsz,hlm,hll,hlt,_,_⟩:=hW;obtain⟨hm,⟨al,cl,rfl,hcl,hl⟩,⟨at_,ct,rfl,hct,ht⟩⟩:=h;have hm0:=hm;obtain⟨am,cm,rfl,hcm,_⟩:=hm;have hem:=fun w=>dEmpty_any 3 0 s am al at_ m.length cm l.length cl t.length ct w hlm hll hlt
 have heq:=Dt.emptyB_eq 0 s m l t;simp only at heq;obtain⟨E,hE⟩:∃E,Dt.emptyB 0 s m.length l.length t.length=E:=⟨_,rfl⟩
 rw[hE]at hem;have hE2:=hE.symm.trans heq;obtain⟨R,hR⟩:∃R,R=Dt.single (.mk 3 n s m l t):=⟨_,rfl⟩
 rw[←hR];have HR:Hid (R=(decide (0≤n∧n<128)&&E)):=by
  show _=_;rw[hR,hE2];unfold Dt.single;simp[Bool.and_assoc]
 clear hE heq;have hA:=zh (Dt.andNot_zero n 127 7 (by omega) (by decide) hn);clear hE2 hR hm0 hl ht;go_enter Tryz.func105,Tryz.ntmps105;go_wp2_with(go_at_call 138;refine(hem _).mono ?_;rintro e w2 ⟨rfl,hb2⟩)
 ·rename_i hz;have hz:=hA.out.1 hz;go_ret;refine⟨?_,(Dt.bel2 _ _ _).trans (hb2.mono (by rw[World.size_alloc,World.size_alloc];omega))⟩;rw[HR.out,decide_eq_true (show 0≤n∧n<128 by omega)];simp
 ·rename_i hz;have hz':¬ (0≤n∧n<128):=fun h=>hz (hA.out.2 h)
  go_ret;refine⟨?_,Dt.bel2 _ _ _⟩;rw[HR.out,decide_eq_false hz']
  simp_all
set_option maxRecDepth 100000 in
set_option maxHeartbeats 4000000 in
theorem dSingle4_any{F:Nat→Prop}(n:Int)(s:ByteArray)(m:List Int)(l t:List Dt.D)(vm vl vt:Value)(w:World)(hW:Dt.Wf (.mk 4 n s m l t))(h:Dt.Rep F w (.mk 4 n s m l t) vm vl vt):
  Calls Tryz.prog 105 #[.agg #[.int .i64 4,.int .i64 n,.string s,vm,vl,vt]] w fun e w'=>e= .returned (.bool (Dt.single (.mk 4 n s m l t)))∧Below w.heap.size w w':=by
 rw[Dt.Wf]at hW;rw[Dt.Rep]at h;obtain⟨hn,hsz,hlm,hll,hlt,_,_⟩:=hW;obtain⟨hm,⟨al,cl,rfl,hcl,hl⟩,⟨at_,ct,rfl,hct,ht⟩⟩:=h;have hm0:=hm;obtain⟨am,cm,rfl,hcm,_⟩:=hm;have hem:=fun w=>dEmpty_any 4 n ⟨#[]⟩ am al at_ m.length cm l.length cl t.length ct w hlm hll hlt
 have heq:=Dt.emptyB_eq n ⟨#[]⟩ m l t;simp only at heq;obtain⟨E,hE⟩:∃E,Dt.emptyB n ⟨#[]⟩ m.length l.length t.length=E:=⟨_,rfl⟩
 rw[hE]at hem;have hE2:=hE.symm.trans heq;obtain⟨R,hR⟩:∃R,R=Dt.single (.mk 4 n s m l t):=⟨_,rfl⟩
 rw[←hR];have HR:Hid (R=(Dt.ascii s&&E)):=by
  show _=_;rw[hR,hE2];unfold Dt.single;simp[Bool.and_assoc]
 clear hE heq;have hi:=fun w=>dAscii_any s w hsz
 obtain⟨I,hI⟩:∃I,I=Dt.ascii s:=⟨_,rfl⟩
 have hI2:(decide (s.data.toList.length≤256)&&s.data.toList.all (fun c=>decide (c.toNat<128)))=I:=hI.symm;rw[hI2]at hi;rw[←hI]at HR;clear hI hI2 hE2 hR hm0 hl ht;go_enter Tryz.func105,Tryz.ntmps105;go_wp2_with(first
  |(go_at_call 139;refine(hi _).mono ?_;rintro e w1 ⟨rfl,rfl⟩)
  |(go_at_call 138;refine(hem _).mono ?_;rintro e w2 ⟨rfl,hb2⟩))
 ·go_ret;exact⟨by rw[HR.out];simp_all,(Dt.bel2 _ _ _).trans (hb2.mono (by rw[World.size_alloc,World.size_alloc];omega))⟩
 ·go_ret;exact⟨by rw[HR.out];simp_all,Dt.bel2 _ _ _⟩
set_option maxRecDepth 100000 in
set_option maxHeartbeats 4000000 in
theorem dSingle6_any{F:Nat→Prop}(n:Int)(s:ByteArray)(m:List Int)(l t:List Dt.D)(vm vl vt:Value)(w:World)(hW:Dt.Wf (.mk 6 n s m l t))(h:Dt.Rep F w (.mk 6 n s m l t) vm vl vt):
  Calls Tryz.prog 105 #[.agg #[.int .i64 6,.int .i64 n,.string s,vm,vl,vt]] w fun e w'=>e= .returned (.bool (Dt.single (.mk 6 n s m l t)))∧Below w.heap.size w w':=by
 rw[Dt.Wf]at hW;rw[Dt.Rep]at h;obtain⟨hn,hsz,hlm,hll,hlt,_,_⟩:=hW;obtain⟨hm,⟨al,cl,rfl,hcl,hl⟩,⟨at_,ct,rfl,hct,ht⟩⟩:=h;have hm0:=hm;obtain⟨am,cm,rfl,hcm,_⟩:=hm;have hem:=fun w=>dEmpty_any 6 n s am none at_ m.length cm 0 0 t.length ct w hlm (Nat.zero_le _) hlt
 have heq:=Dt.emptyB_eq n s m [] t;simp only[List.length_nil]at heq;obtain⟨E,hE⟩:∃E,Dt.emptyB n s m.length 0 t.length=E:=⟨_,rfl⟩
 rw[hE]at hem;have hE2:=hE.symm.trans heq;obtain⟨R,hR⟩:∃R,R=Dt.single (.mk 6 n s m l t):=⟨_,rfl⟩
 rw[←hR];have HR:Hid (R=(E)):=by
  show _=_;rw[hR,hE2];unfold Dt.single;simp[Bool.and_assoc]
 clear hE heq;clear hE2 hR hm0 hl ht;go_enter Tryz.func105,Tryz.ntmps105;go_wp2_with(go_at_call 138;refine(hem _).mono ?_;rintro e w2 ⟨rfl,hb2⟩)
 go_ret;exact⟨by rw[HR.out];simp_all,(Dt.bel2 _ _ _).trans (hb2.mono (by rw[World.size_alloc,World.size_alloc];omega))⟩
set_option maxRecDepth 100000 in
set_option maxHeartbeats 4000000 in
theorem dSingle8_any{F:Nat→Prop}(n:Int)(s:ByteArray)(m:List Int)(l t:List Dt.D)(vm vl vt:Value)(w:World)(hW:Dt.Wf (.mk 8 n s m l t))(h:Dt.Rep F w (.mk 8 n s m l t) vm vl vt):
  Calls Tryz.prog 105 #[.agg #[.int .i64 8,.int .i64 n,.string s,vm,vl,vt]] w fun e w'=>e= .returned (.bool (Dt.single (.mk 8 n s m l t)))∧Below w.heap.size w w':=by
 rw[Dt.Wf]at hW;rw[Dt.Rep]at h;obtain⟨hn,hsz,hlm,hll,hlt,_,_⟩:=hW;obtain⟨hm,⟨al,cl,rfl,hcl,hl⟩,⟨at_,ct,rfl,hct,ht⟩⟩:=h;have hm0:=hm;obtain⟨am,cm,rfl,hcm,_⟩:=hm;have hem:=fun w=>dEmpty_any 8 n s am none at_ m.length cm 0 0 t.length ct w hlm (Nat.zero_le _) hlt
 have heq:=Dt.emptyB_eq n s m [] t;simp only[List.length_nil]at heq;obtain⟨E,hE⟩:∃E,Dt.emptyB n s m.length 0 t.length=E:=⟨_,rfl⟩
 rw[hE]at hem;have hE2:=hE.symm.trans heq;obtain⟨R,hR⟩:∃R,R=Dt.single (.mk 8 n s m l t):=⟨_,rfl⟩
 rw[←hR];have HR:Hid (R=(E)):=by
  show _=_;rw[hR,hE2];unfold Dt.single;simp[Bool.and_assoc]
 clear hE heq;clear hE2 hR hm0 hl ht;go_enter Tryz.func105,Tryz.ntmps105;go_wp2_with(go_at_call 138;refine(hem _).mono ?_;rintro e w2 ⟨rfl,hb2⟩)
 go_ret;exact⟨by rw[HR.out];simp_all,(Dt.bel2 _ _ _).trans (hb2.mono (by rw[World.size_alloc,World.size_alloc];omega))⟩
set_option maxRecDepth 100000 in
set_option maxHeartbeats 4000000 in
theorem dSingle5_any{F:Nat→Prop}(n:Int)(s:ByteArray)(m:List Int)(l t:List Dt.D)(vm vl vt:Value)(w:World)(hW:Dt.Wf (.mk 5 n s m l t))(h:Dt.Rep F w (.mk 5 n s m l t) vm vl vt):
  Calls Tryz.prog 105 #[.agg #[.int .i64 5,.int .i64 n,.string s,vm,vl,vt]] w fun e w'=>e= .returned (.bool (Dt.single (.mk 5 n s m l t)))∧Below w.heap.size w w':=by
 rw[Dt.Wf]at hW;rw[Dt.Rep]at h;obtain⟨hn,hsz,hlm,hll,hlt,_,_⟩:=hW;obtain⟨hm,⟨al,cl,rfl,hcl,hl⟩,⟨at_,ct,rfl,hct,ht⟩⟩:=h;have hm0:=hm;obtain⟨am,cm,rfl,hcm,_⟩:=hm;have hem:=fun w=>dEmpty_any 5 n ⟨#[]⟩ none al at_ 0 0 l.length cl t.length ct w (Nat.zero_le _) hll hlt
 have heq:=Dt.emptyB_eq n ⟨#[]⟩ [] l t;simp only[List.length_nil]at heq;obtain⟨E,hE⟩:∃E,Dt.emptyB n ⟨#[]⟩ 0 l.length t.length=E:=⟨_,rfl⟩
 rw[hE]at hem;have hE2:=hE.symm.trans heq;obtain⟨R,hR⟩:∃R,R=Dt.single (.mk 5 n s m l t):=⟨_,rfl⟩
 rw[←hR];have HR:Hid (R=(Lx.symbol s.data.toList&&decide (m.length≤16)&&m.all Dt.mayMark&&E)):=by
  show _=_;rw[hR,hE2];unfold Dt.single;simp[Bool.and_assoc]
 clear hE heq;have hi:=fun w=>dSymbol_any s w hsz
 have hc:=fun w h=>dContainsFunc_any (F:=F) am cm m w h hlm
 have HM:=zh hm0;obtain⟨I,hI⟩:∃I,I=Lx.symbol s.data.toList:=⟨_,rfl⟩
 obtain⟨J,hJ⟩:∃J,J=m.all Dt.mayMark:=⟨_,rfl⟩
 rw[←hI]at HR hi;rw[←hJ]at HR hc;have h16:decide ((m.length:Int)≤16)=decide (m.length≤16):=decide_eq_decide.2 (by omega);obtain⟨G,hG⟩:∃G,G=decide (m.length≤16):=⟨_,rfl⟩
 rw[←hG]at HR h16;clear hI hJ hG hE2 hR hm0 hl ht;go_enter Tryz.func105,Tryz.ntmps105;go_wp2_with(first
  |(go_at_call 90;refine(hi _).mono ?_;rintro e w1 ⟨rfl,rfl⟩)
  |(go_at_call 141;refine(hc _ (HM.out.below (Dt.bel2 _ _ _))).mono ?_;rintro e w1 ⟨rfl,rfl⟩)
  |(go_at_call 138;refine(hem _).mono ?_;rintro e w2 ⟨rfl,hb2⟩))
 all_goals
  go_ret;first
   |exact⟨by rw[HR.out];simp_all,(Dt.bel2 _ _ _).trans (hb2.mono (by rw[World.size_alloc,World.size_alloc];omega))⟩
   |exact⟨by rw[HR.out];simp_all,Dt.bel2 _ _ _⟩
set_option maxRecDepth 100000 in
set_option maxHeartbeats 4000000 in
theorem dSingle7o_any{F:Nat→Prop}(n:Int)(s:ByteArray)(m:List Int)(l:List Dt.D)(t:List Dt.D)(ht1:t.length≠1)(vm vl vt:Value)(w:World)(hW:Dt.Wf (.mk 7 n s m l t))(h:Dt.Rep F w (.mk 7 n s m l t) vm vl vt):
  Calls Tryz.prog 105 #[.agg #[.int .i64 7,.int .i64 n,.string s,vm,vl,vt]] w fun e w'=>e= .returned (.bool (Dt.single (.mk 7 n s m l t)))∧Below w.heap.size w w':=by
 rw[Dt.Wf]at hW;rw[Dt.Rep]at h;obtain⟨hn,hsz,hlm,hll,hlt,_,_⟩:=hW;obtain⟨hm,⟨al,cl,rfl,hcl,hl⟩,⟨at_,ct,rfl,hct,ht⟩⟩:=h;have hm0:=hm;obtain⟨am,cm,rfl,hcm,_⟩:=hm;have hem:=fun w=>dEmpty_any 7 n s am none none m.length cm 0 0 0 0 w hlm (Nat.zero_le _) (Nat.zero_le _)
 have heq:=Dt.emptyB_eq n s m [] [];simp only[List.length_nil]at heq;obtain⟨E,hE⟩:∃E,Dt.emptyB n s m.length 0 0=E:=⟨_,rfl⟩
 rw[hE]at hem;have hE2:=hE.symm.trans heq;obtain⟨R,hR⟩:∃R,R=Dt.single (.mk 7 n s m l t):=⟨_,rfl⟩
 rw[←hR];have HR:Hid (R=false):=by
  show _=_;rw[hR];unfold Dt.single
  cases t with
  |nil=>simp
  |cons x r=>cases r with
   |nil=>simp at ht1
   |cons y r=>simp
 clear hE heq;have hle:decide ((0:Int)<(l.length:Int))= !l.isEmpty:=by cases l <;> simp <;> omega
 obtain⟨I,hI⟩:∃I,I= !l.isEmpty:=⟨_,rfl⟩
 rw[←hI]at hle;have h1:((t.length:Int)==1)=false:=by simp;omega
 clear hE2 hR hm0 hl ht hI;go_enter Tryz.func105,Tryz.ntmps105;go_wp2_with fail
 all_goals
  go_ret;first
   |exact⟨by rw[HR.out];simp_all,(Dt.bel2 _ _ _).trans (hb2.mono (by rw[World.size_alloc,World.size_alloc];omega))⟩
   |exact⟨by rw[HR.out];simp_all,Dt.bel2 _ _ _⟩
set_option maxRecDepth 100000 in
set_option maxHeartbeats 4000000 in
theorem dSingle7i_any{F:Nat→Prop}(n:Int)(s:ByteArray)(m:List Int)(l:List Dt.D)(x:Dt.D)(vm vl vt:Value)(w:World)(hW:Dt.Wf (.mk 7 n s m l [x]))(h:Dt.Rep F w (.mk 7 n s m l [x]) vm vl vt):
  Calls Tryz.prog 105 #[.agg #[.int .i64 7,.int .i64 n,.string s,vm,vl,vt]] w fun e w'=>e= .returned (.bool (Dt.single (.mk 7 n s m l [x])))∧Below w.heap.size w w':=by
 rw[Dt.Wf]at hW;rw[Dt.Rep]at h;obtain⟨hn,hsz,hlm,hll,hlt,_,_⟩:=hW;obtain⟨hm,⟨al,cl,rfl,hcl,hl⟩,⟨at_,ct,rfl,hct,ht⟩⟩:=h;have hm0:=hm;obtain⟨am,cm,rfl,hcm,_⟩:=hm;have hem:=fun w=>dEmpty_any 7 n s am none none m.length cm 0 0 0 0 w hlm (Nat.zero_le _) (Nat.zero_le _)
 have heq:=Dt.emptyB_eq n s m [] [];simp only[List.length_nil]at heq;obtain⟨E,hE⟩:∃E,Dt.emptyB n s m.length 0 0=E:=⟨_,rfl⟩
 rw[hE]at hem;have hE2:=hE.symm.trans heq;obtain⟨R,hR⟩:∃R,R=Dt.single (.mk 7 n s m l [x]):=⟨_,rfl⟩
 rw[←hR];have HR:Hid (R=(!l.isEmpty&&(decide (x.k≠6)&&decide (x.k≠7))&&E)):=by
  show _=_;rw[hR,hE2];unfold Dt.single;simp[Bool.and_assoc,Bool.and_left_comm,Bool.and_comm]
 clear hE heq;have hle:decide ((0:Int)<(l.length:Int))= !l.isEmpty:=by cases l <;> simp <;> omega
 obtain⟨I,hI⟩:∃I,I= !l.isEmpty:=⟨_,rfl⟩
 rw[←hI]at HR hle;obtain⟨bt,ot,rfl,_,hbt,hrt⟩:=ht (by simp);rw[Dt.Reps]at hrt;obtain⟨⟨_,_,_,hs0,_⟩,_⟩:=hrt;have c0:=hs0.c0;obtain⟨xk,hxk⟩:∃xk,xk=x.k:=⟨_,rfl⟩
 rw[←hxk]at HR c0;clear hE2 hR hm0 hl ht hs0 hI hxk;go_enter Tryz.func105,Tryz.ntmps105;go_wp2_with(go_at_call 138;refine(hem _).mono ?_;rintro e w2 ⟨rfl,hb2⟩)
 all_goals
  go_ret;first
   |exact⟨by rw[HR.out];simp_all,(Dt.bel2 _ _ _).trans (hb2.mono (by rw[World.size_alloc,World.size_alloc];omega))⟩
   |exact⟨by rw[HR.out];simp_all,Dt.bel2 _ _ _⟩
set_option maxRecDepth 100000 in
set_option maxHeartbeats 4000000 in
theorem dSingleX_any{F:Nat→Prop}(k n:Int)(s:ByteArray)(m:List Int)(l t:List Dt.D)(vm vl vt:Value)(w:World)(h:Dt.Rep F w (.mk k n s m l t) vm vl vt)(hk:k≠1∧k≠2∧k≠3∧k≠4∧k≠5∧k≠6∧k≠7∧k≠8):
  Calls Tryz.prog 105 #[.agg #[.int .i64 k,.int .i64 n,.string s,vm,vl,vt]] w fun e w'=>e= .returned (.bool (Dt.single (.mk k n s m l t)))∧Below w.heap.size w w':=by
 rw[Dt.Rep]at h;obtain⟨⟨am,cm,rfl,hcm,_⟩,⟨al,cl,rfl,hcl,hl⟩,⟨at_,ct,rfl,hct,ht⟩⟩:=h;obtain⟨k1,k2,k3,k4,k5,k6,k7,k8⟩:=hk;have HR:Hid (Dt.single (.mk k n s m l t)=false):=by
  show _=_;unfold Dt.single;simp[k1,k2,k3,k4,k5,k6,k7,k8]
 have b1:(k==1)=false:=by simpa using k1
 have b2:(k==2)=false:=by simpa using k2
 have b3:(k==3)=false:=by simpa using k3
 have b4:(k==4)=false:=by simpa using k4
 have b5:(k==5)=false:=by simpa using k5
 have b6:(k==6)=false:=by simpa using k6
 have b7:(k==7)=false:=by simpa using k7
 have b8:(k==8)=false:=by simpa using k8
 rw[HR.out];clear k1 k2 k3 k4 k5 k6 k7 k8 hl ht;go_enter Tryz.func105,Tryz.ntmps105;go_wp2;go_ret;exact⟨rfl,Dt.bel2 _ _ _⟩
theorem dSingle_any{F:Nat→Prop}(d:Dt.D)(vm vl vt:Value)(w:World)(hW:Dt.Wf d)(h:Dt.Rep F w d vm vl vt):
  Calls Tryz.prog 105 #[.agg #[.int .i64 d.k,.int .i64 d.n,.string d.s,vm,vl,vt]] w fun e w'=>e= .returned (.bool (Dt.single d))∧Below w.heap.size w w':=by
 cases d with
 |mk k n s m l t=>
  simp only[Dt.D.k,Dt.D.n,Dt.D.s];by_cases k1:k=1
  ·subst k1;exact dSingle1_any n s m l t vm vl vt w hW h
  by_cases k2:k=2
  ·subst k2;exact dSingle2_any n s m l t vm vl vt w hW h
  by_cases k3:k=3
  ·subst k3;exact dSingle3_any n s m l t vm vl vt w hW h
  by_cases k4:k=4
  ·subst k4;exact dSingle4_any n s m l t vm vl vt w hW h
  by_cases k5:k=5
  ·subst k5;exact dSingle5_any n s m l t vm vl vt w hW h
  by_cases k6:k=6
  ·subst k6;exact dSingle6_any n s m l t vm vl vt w hW h
  by_cases k8:k=8
  ·subst k8;exact dSingle8_any n s m l t vm vl vt w hW h
  by_cases k7:k=7
  ·subst k7;by_cases ht:t.length=1
   ·obtain⟨x,rfl⟩:=List.length_eq_one_iff.1 ht;exact dSingle7i_any n s m l x vm vl vt w hW h
   ·exact dSingle7o_any n s m l t ht vm vl vt w hW h
  exact dSingleX_any k n s m l t vm vl vt w h ⟨k1,k2,k3,k4,k5,k6,k7,k8⟩
end Go.Proofs.YtfjmlfbohenmfaaGreat
