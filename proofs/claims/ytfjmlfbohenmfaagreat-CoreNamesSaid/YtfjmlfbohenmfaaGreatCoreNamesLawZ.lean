/-
 shuttlelaw07.CoreNames: for every input the call returns true and leaves its arguments as they were. No condition.
-/
import Derived.Test.YtfjmlfbohenmfaaGreatCoreNamesLawZM1
import Derived.Test.YtfjmlfbohenmfaaGreatCoreBBM7
import Derived.Test.YtfjmlfbohenmfaaGreatCoAwakeb
import Derived.Test.YtfjmlfbohenmfaaGreatCoreBBM2
namespace Go.Proofs.YtfjmlfbohenmfaaGreat.coreNames
open Go.ChangeShapes Go.WideShapes Go.ChangeAt Go.RowKit
open Go.ChangeMaps (open_string shut_string)
theorem own:ownKnob Tryz.prog.godebug=none:=by kernel_rfl
theorem laidOut:laidOutB Tryz.prog=true:=by kernel_rfl
set_option maxRecDepth 100000 in
theorem lifted(os:Os)(started:os.Started)(H:Type)(enc:TypeId×Value→H):
  ReturnsInHanded {} Tryz.checked os 6 .any (fun w args=>(Rows.coreNamesSpec.pre enc Tryz.prog Tryz.f6 Rows.coreNamesRow.domain false w args∧True)∧sizedMet enc Tryz.prog Tryz.f6 (OpenSpec.ofChange Rows.coreNamesSpec) false w args) (Rows.coreNamesSpec.post enc Tryz.prog Tryz.f6 false true false false):=by
 refine returnsInHanded_of_change_and (C:=Tryz.checked) (X:=fun _ _=>True) (fun _ _ _ _ _=>trivial) own started (by kernel_rfl) Tryz.func6 ?_ ?_
 ·obtain⟨w,t,i,h1,h2,h3,h4,⟨h5,h6⟩,h7⟩:=ChangeSpec.witness6 (enc:=enc) (C:=Tryz.checked) (os:=os) (s:=Rows.coreNamesSpec) (conds:=Rows.coreNamesRow.domain) false ⟨#[],#[.agg #[.int .i64 0,.int .i64 0,.string ⟨#[]⟩,.int .i64 0,.int .i64 0,.string ⟨#[]⟩,.slice none 0 0,.slice none 0 0,.slice none 0 0,.slice none 0 0,.slice none 0 0],.int .u8 0],[]⟩ 8 (f:=6) (fn:=Tryz.f6) (by kernel_rfl) (by kernel_rfl) (by kernel_rfl) (by kernel_rfl);exact⟨w,t,i,h1,h2,h3,h4,⟨⟨h5,trivial⟩,h6⟩,h7⟩
 intro W base args ds gs before hval0 hW _ hsz _ _;have hval:∀(j:Nat) t v,Tryz.f6.params[j]?=some t→args[j]?=some v→Value.okWide Tryz.prog W .any base t v:=hval0;have hW':=hW;obtain⟨p,q,hA0,hV,rfl,_,_⟩:=hW;have hA:DataW.TrodAll enc Tryz.prog W 0 (fun _=>true) true Tryz.f6.params.toList args.toList ds p:=hA0;rw[Tryz.params6]at hA hval hsz;obtain⟨v0,vs0,d0,ds0,p0,q0,hargs,rfl,rfl,h0,r0⟩:=trodAll_cons hA;obtain⟨v1,vs1,d1,ds1,p1,q1,rfl,rfl,rfl,h1,r1⟩:=trodAll_cons r0;obtain⟨rfl,rfl,rfl⟩:=trodAll_nil r1;obtain rfl:args=#[v0,v1]:=by cases args;simp_all
 obtain⟨rfl,rfl⟩:=trodVars_none hV;have k0:=h0;have lt0:∀x∈p0,x.block<W.heap.size:=by obtain⟨m,hm⟩:=k0;exact DataW.trod_lt m _ _ _ hm
 have fit0:Dt.Fits Tryz.prog 28 d0:=fun n hn=>by simpa using List.all_eq_true.1 hsz n (DataW.weights_mem_each (j:=0) (t:=28) rfl rfl n hn)
 obtain⟨x0,m0,l0,t0,pp0,kk0,rfl,w0,g0⟩:=Co.open_core (hval 0 28 v0 rfl rfl) h0 fit0;obtain⟨a1,rfl,rfl,rfl,w1⟩:=open_int Tryz.underlying5 (hval 1 5 v1 rfl rfl) h1;clear hA0 hval0;refine(CoreNames_law x0 _ _ _ _ _ a1 W w0 g0 w1).mono fun e W' ⟨he,bel⟩=> ?_
 subst he;exact⟨_,rfl,_,_,_,[],_,[],hW',trodAll_mk1 (shut_bool Tryz.underlying4 _),(trodAll_cons_mk (Below.trod laidOut (by kernel_rfl) (of_decide_eq_true (by kernel_rfl)) k0 bel lt0) (trodAll_cons_mk (shut_int Tryz.underlying5 w1) trodAll_mk0)),rfl,bel.frame _,fun h=>by cases h⟩
theorem over:Rows.coreNamesRow.holds Tryz.pinned (OpenSpec.ofChange Rows.coreNamesSpec):=
 OpenClaim.holds_of_wide 6 Tryz.f6 rfl rfl rfl rfl rfl rfl rfl ⟨rfl,rfl,rfl,rfl,rfl⟩ rfl rfl rfl rfl rfl (by kernel_rfl) Tryz.func6 (by kernel_rfl)
  (of_decide_eq_true (by kernel_rfl)) (by unfold Func.isWrapper;first|(rw[if_pos (by decide+kernel)];kernel_rfl)|(rw[if_neg (by decide+kernel)];exact⟨rfl,rfl⟩))
  (fun os started H enc _=>by have h:=lifted os started H enc;simp only[and_true]at h;exact h)
theorem proved:Rows.CoreNamesSaid:=
 over
#print axioms proved
end Go.Proofs.YtfjmlfbohenmfaaGreat.coreNames
