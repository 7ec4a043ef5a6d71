/-
 shuttlelaw07.CoreAlike: for every input the call returns true and leaves its arguments as they were. No condition.
-/
import Derived.Test.YtfjmlfbohenmfaaGreatCoAlikeWb
import Derived.Test.YtfjmlfbohenmfaaGreatCoreBBM7
import Derived.Test.YtfjmlfbohenmfaaGreatCoAwakeb
import Derived.Test.YtfjmlfbohenmfaaGreatCoreBBM2
namespace Go.Proofs.YtfjmlfbohenmfaaGreat.coreAlike
open Go.ChangeShapes Go.WideShapes Go.ChangeAt Go.RowKit
open Go.ChangeMaps (open_string shut_string)
theorem own:ownKnob Tryz.prog.godebug=none:=by kernel_rfl
theorem laidOut:laidOutB Tryz.prog=true:=by kernel_rfl
set_option maxRecDepth 100000 in
theorem lifted(os:Os)(started:os.Started)(H:Type)(enc:TypeId×Value→H):
  ReturnsInHanded {} Tryz.checked os 4 .any (fun w args=>(Rows.coreAlikeSpec.pre enc Tryz.prog Tryz.f4 Rows.coreAlikeRow.domain false w args∧True)∧sizedMet enc Tryz.prog Tryz.f4 (OpenSpec.ofChange Rows.coreAlikeSpec) false w args) (Rows.coreAlikeSpec.post enc Tryz.prog Tryz.f4 false true false false):=by
 refine returnsInHanded_of_change_and (C:=Tryz.checked) (X:=fun _ _=>True) (fun _ _ _ _ _=>trivial) own started (by kernel_rfl) Tryz.func4 ?_ ?_
 ·obtain⟨w,t,i,h1,h2,h3,h4,⟨h5,h6⟩,h7⟩:=ChangeSpec.witness6 (enc:=enc) (C:=Tryz.checked) (os:=os) (s:=Rows.coreAlikeSpec) (conds:=Rows.coreAlikeRow.domain) false ⟨#[],#[.agg #[.int .i64 0,.int .i64 0,.string ⟨#[]⟩,.int .i64 0,.int .i64 0,.string ⟨#[]⟩,.slice none 0 0,.slice none 0 0,.slice none 0 0,.slice none 0 0,.slice none 0 0],.agg #[.int .i64 0,.int .i64 0,.string ⟨#[]⟩,.int .i64 0,.int .i64 0,.string ⟨#[]⟩,.slice none 0 0,.slice none 0 0,.slice none 0 0,.slice none 0 0,.slice none 0 0],.agg #[.int .i64 0,.int .i64 0,.string ⟨#[]⟩,.int .i64 0,.int .i64 0,.string ⟨#[]⟩,.slice none 0 0,.slice none 0 0,.slice none 0 0,.slice none 0 0,.slice none 0 0]],[]⟩ 8 (f:=4) (fn:=Tryz.f4) (by kernel_rfl) (by kernel_rfl) (by kernel_rfl) (by kernel_rfl);exact⟨w,t,i,h1,h2,h3,h4,⟨⟨h5,trivial⟩,h6⟩,h7⟩
 intro W base args ds gs before hval0 hW _ hsz _ _;have hval:∀(j:Nat) t v,Tryz.f4.params[j]?=some t→args[j]?=some v→Value.okWide Tryz.prog W .any base t v:=hval0;have hW':=hW;obtain⟨p,q,hA0,hV,rfl,_,_⟩:=hW;have hA:DataW.TrodAll enc Tryz.prog W 0 (fun _=>true) true Tryz.f4.params.toList args.toList ds p:=hA0;rw[Tryz.params4]at hA hval hsz;obtain⟨v0,vs0,d0,ds0,p0,q0,hargs,rfl,rfl,h0,r0⟩:=trodAll_cons hA;obtain⟨v1,vs1,d1,ds1,p1,q1,rfl,rfl,rfl,h1,r1⟩:=trodAll_cons r0;obtain⟨v2,vs2,d2,ds2,p2,q2,rfl,rfl,rfl,h2,r2⟩:=trodAll_cons r1;obtain⟨rfl,rfl,rfl⟩:=trodAll_nil r2;obtain rfl:args=#[v0,v1,v2]:=by cases args;simp_all
 obtain⟨rfl,rfl⟩:=trodVars_none hV;have k0:=h0;have lt0:∀x∈p0,x.block<W.heap.size:=by obtain⟨m,hm⟩:=k0;exact DataW.trod_lt m _ _ _ hm
 have fit0:Dt.Fits Tryz.prog 28 d0:=fun n hn=>by simpa using List.all_eq_true.1 hsz n (DataW.weights_mem_each (j:=0) (t:=28) rfl rfl n hn)
 obtain⟨x0,m0,l0,t0,pp0,kk0,rfl,w0,g0⟩:=Co.open_core (hval 0 28 v0 rfl rfl) h0 fit0;have k1:=h1;have lt1:∀x∈p1,x.block<W.heap.size:=by obtain⟨m,hm⟩:=k1;exact DataW.trod_lt m _ _ _ hm
 have fit1:Dt.Fits Tryz.prog 28 d1:=fun n hn=>by simpa using List.all_eq_true.1 hsz n (DataW.weights_mem_each (j:=1) (t:=28) rfl rfl n hn)
 obtain⟨x1,m1,l1,t1,pp1,kk1,rfl,w1,g1⟩:=Co.open_core (hval 1 28 v1 rfl rfl) h1 fit1;have k2:=h2;have lt2:∀x∈p2,x.block<W.heap.size:=by obtain⟨m,hm⟩:=k2;exact DataW.trod_lt m _ _ _ hm
 have fit2:Dt.Fits Tryz.prog 28 d2:=fun n hn=>by simpa using List.all_eq_true.1 hsz n (DataW.weights_mem_each (j:=2) (t:=28) rfl rfl n hn)
 obtain⟨x2,m2,l2,t2,pp2,kk2,rfl,w2,g2⟩:=Co.open_core (hval 2 28 v2 rfl rfl) h2 fit2;clear hA0 hval0;refine(CoreAlike_law x0 _ _ _ _ _ x1 _ _ _ _ _ x2 _ _ _ _ _ W w0 g0 w1 g1 w2 g2).mono fun e W' ⟨he,bel⟩=> ?_
 subst he;exact⟨_,rfl,_,_,_,[],_,[],hW',trodAll_mk1 (shut_bool Tryz.underlying4 _),(trodAll_cons_mk (Below.trod laidOut (by kernel_rfl) (of_decide_eq_true (by kernel_rfl)) k0 bel lt0) (trodAll_cons_mk (Below.trod laidOut (by kernel_rfl) (of_decide_eq_true (by kernel_rfl)) k1 bel lt1) (trodAll_cons_mk (Below.trod laidOut (by kernel_rfl) (of_decide_eq_true (by kernel_rfl)) k2 bel lt2) trodAll_mk0))),rfl,bel.frame _,fun h=>by cases h⟩
theorem over:Rows.coreAlikeRow.holds Tryz.pinned (OpenSpec.ofChange Rows.coreAlikeSpec):=
 OpenClaim.holds_of_wide 4 Tryz.f4 rfl rfl rfl rfl rfl rfl rfl ⟨rfl,rfl,rfl,rfl,rfl⟩ rfl rfl rfl rfl rfl (by kernel_rfl) Tryz.func4 (by kernel_rfl)
  (of_decide_eq_true (by kernel_rfl)) (by unfold Func.isWrapper;first|(rw[if_pos (by decide+kernel)];kernel_rfl)|(rw[if_neg (by decide+kernel)];exact⟨rfl,rfl⟩))
  (fun os started H enc _=>by have h:=lifted os started H enc;simp only[and_true]at h;exact h)
theorem proved:Rows.CoreAlikeSaid:=
 over
#print axioms proved
end Go.Proofs.YtfjmlfbohenmfaaGreat.coreAlike
