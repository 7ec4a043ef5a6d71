/-
 Plain: cores that are alike set as many variables.
-/
import Derived.Test.YtfjmlfbohenmfaaGreatCoreBBM7
import Derived.Test.YtfjmlfbohenmfaaGreatCoreBBM12
namespace Go.Proofs.YtfjmlfbohenmfaaGreat
namespace Co
open Dt (D)
mutual
theorem called_pre:∀(c:C) (bd:List Int),∃tl,(called c bd).2=bd++tl
 | .mk k n s d p l,bd=>by
  rw[called];obtain⟨tl,h⟩:=calledL_pre l (bd++p);exact⟨p++tl,by rw[←List.append_assoc];exact h⟩
theorem calledL_pre:∀(l:List C) (bd:List Int),∃tl,(calledL l bd).2=bd++tl
 |[],bd=>by rw[calledL];exact⟨[],(List.append_nil _).symm⟩
 |c :: r,bd=>by
  rw[calledL];obtain⟨t1,h1⟩:=called_pre c bd;obtain⟨t2,h2⟩:=calledL_pre r (called c bd).2;exact⟨t1++t2,by simp only;rw[h2,h1,List.append_assoc]⟩
end
theorem nodup_inj:∀ {l:List Int},l.Nodup→∀ {i j:Nat} (hi:i<l.length) (hj:j<l.length),l[i]=l[j]→i=j
 |[],_,i,j,hi,_,_=>by simp at hi
 |x :: r,hn,0,0,_,_,_=>rfl
 | x :: r, hn, 0, j + 1, _, hj, h => absurd (List.getElem_mem (by simpa using hj)) (by
   have:=(List.nodup_cons.1 hn).1;simp only[List.getElem_cons_zero,List.getElem_cons_succ]at h;rw[←h];exact this)
 | x :: r, hn, i + 1, 0, hi, _, h => absurd (List.getElem_mem (by simpa using hi)) (by
   have:=(List.nodup_cons.1 hn).1;simp only[List.getElem_cons_zero,List.getElem_cons_succ]at h;rw[h];exact this)
 |x :: r,hn,i+1,j+1,hi,hj,h=>by
  have:=nodup_inj (List.nodup_cons.1 hn).2 (by simpa using hi) (by simpa using hj) (by simpa using h);omega
theorem pos_pre{xs tl:List Int}{n:Int}(hn:(xs++tl).Nodup)(h:n∈xs):pos (xs++tl) n=pos xs n:=by
 obtain⟨i,hi,e1,e2⟩:=pos_at (List.nodup_append.1 hn).1 h;obtain⟨j,hj,e3,e4⟩:=pos_at hn (List.mem_append_left tl h);have hi':i<(xs++tl).length:=by rw[List.length_append];omega
 have e5:(xs++tl)[i]=n:=by rw[List.getElem_append_left hi];exact e1
 have:i=j:=nodup_inj hn hi' hj (e5.trans e3.symm);rw[e2,e4,this]
theorem pos_inj{xs:List Int}{a b:Int}(hn:xs.Nodup)(ha:a∈xs)(hb:b∈xs)(h:pos xs a=pos xs b):a=b:=by
 obtain⟨i,hi,e1,e2⟩:=pos_at hn ha;obtain⟨j,hj,e3,e4⟩:=pos_at hn hb;have:i=j:=by omega
 subst this;exact e1.symm.trans e3
theorem setsOf_cons(c:C)(l:List C):setsOf (c :: l)=(if c.k=4 then [c.n]else [])++setsOf l:=by unfold setsOf;rw[List.flatMap_cons]
mutual
theorem sets_called:∀(c:C) {deep:Nat} {win:List Int} {top:Bool} {cnt:Nat} {bd:List Int} {r:Nat×List Int} (fin tl:List Int),bd.Nodup→(∀x∈win,x∈bd)→goes false c deep win top cnt bd=(0,r)→fin=r.2++tl→fin.Nodup→
  setsOf (parts (called c bd).1)=(setsOf (parts c)).map (fun n=>(pos fin n:Int))∧∀x∈setsOf (parts c),x∈r.2
 | .mk k n s d p l,deep,win,top,cnt,bd,r,fin,tl,hb,hw,h,hf,hfn=>by
  obtain⟨h1,h2⟩:=goes_ok h;obtain⟨h3,h4,h5⟩:=here_ok h1;have hnb:(bd++p).Nodup:=nodup_new h3 hb h5;obtain⟨h6,h7⟩:=setsL_called l fin tl hnb (inner_sub hw) h2 hf hfn;obtain⟨h8,h9,h10⟩:=goesL_names l hnb h2;obtain⟨t2,h11⟩:=calledL_pre l (bd++p);rw[called,parts,parts,setsOf_cons,setsOf_cons,List.map_append,h6];constructor
  ·congr 1
   by_cases hk:k=4
   ·subst hk;have hm:n∈bd++p:=List.mem_append_left _ (hw n (h4 (.inr rfl) rfl));have e1:fin=(bd++p)++(t2++tl):=by rw[hf,h8,h11,List.append_assoc]
    have e2:pos fin n=pos (bd++p) n:=by rw[e1];exact pos_pre (by rw[←e1];exact hfn) hm
    obtain⟨i,hi,-,e3⟩:=pos_at hnb hm;simp[C.k,C.n,e2,e3]
   ·simp[C.k,hk]
  ·intro x hx;rcases List.mem_append.1 hx with hx|hx
   ·split at hx
    ·rename_i hk;rw[List.mem_singleton]at hx;subst hx;exact h10 _ (List.mem_append_left _ (hw _ (h4 (.inr hk) rfl)))
    ·cases hx
   ·exact h7 x hx
theorem setsL_called:∀(l:List C) {deep:Nat} {win:List Int} {top:Bool} {cnt:Nat} {bd:List Int} {r:Nat×List Int} (fin tl:List Int),bd.Nodup→(∀x∈win,x∈bd)→goesL false l deep win top cnt bd=(0,r)→fin=r.2++tl→fin.Nodup→
  setsOf (partsL (calledL l bd).1)=(setsOf (partsL l)).map (fun n=>(pos fin n:Int))∧∀x∈setsOf (partsL l),x∈r.2
 |[],_,_,_,_,bd,r,fin,tl,hb,hw,h,hf,hfn=>by
  rw[calledL,partsL];exact⟨rfl,fun x hx=>by cases hx⟩
 |c :: l,deep,win,top,cnt,bd,r,fin,tl,hb,hw,h,hf,hfn=>by
  obtain⟨q,h1,h2⟩:=goesL_ok h;obtain⟨h3,h4,h5⟩:=goes_names c hb h1;obtain⟨h6,h7,h8⟩:=goesL_names l h4 h2;obtain⟨t2,h11⟩:=calledL_pre l q.2;obtain⟨h12,h13⟩:=sets_called c fin (t2++tl) hb hw h1 (by rw[hf,h6,h11,List.append_assoc]) hfn;obtain⟨h14,h15⟩:=setsL_called l fin tl h4 (fun x hx=>h5 x (hw x hx)) h2 hf hfn;rw[calledL,partsL,partsL,setsOf_app,setsOf_app,List.map_append,h12,←h3,h14];exact⟨rfl,fun x hx=>(List.mem_append.1 hx).elim (fun hx=>h8 x (h13 x hx)) (h15 x)⟩
end
theorem puts_nodup(l:List Int):(puts l).Nodup:=(puts_sorted l).imp (fun h e=>by omega)
theorem puts_map{l:List Int}{f:Int→Int}(hf:∀a∈l,∀b∈l,f a=f b→a=b):(puts (l.map f)).length=(puts l).length:=by
 have h1:(puts (l.map f)).Perm ((puts l).map f):=by
  refine(List.perm_ext_iff_of_nodup (puts_nodup _) ?_).2 fun x=> ?_
  ·refine List.Pairwise.map _ (fun a b h=>h) ?_;refine(puts_nodup l).imp_of_mem ?_;intro a b ha hb hne e;exact hne (hf a ((puts_mem l a).1 ha) b ((puts_mem l b).1 hb) e)
  ·rw[puts_mem,List.mem_map,List.mem_map];exact⟨fun⟨a,h,e⟩=>⟨a,(puts_mem l a).2 h,e⟩,fun⟨a,h,e⟩=>⟨a,(puts_mem l a).1 h,e⟩⟩
 rw[h1.length_eq,List.length_map]
theorem all_of_check{c:C}(h:check c []=0):all c=parts c:=by
 obtain⟨h1,h2,-⟩:=check_closed h;unfold all;rw[h2,if_pos ⟨h1,h⟩]
theorem sets_len{c:C}(h:check c []=0):(puts (setsOf (parts (called c []).1))).length=(setV c).length:=by
 have hg:goes false c 1 [] true 0 []=(0,(goes false c 1 [] true 0 []).2):=Prod.ext h rfl;obtain⟨h3,h4,-⟩:=goes_names c List.nodup_nil hg;obtain⟨h5,h6⟩:=sets_called c _ [] List.nodup_nil (fun x hx=>hx) hg (List.append_nil _).symm h4;rw[h5,setV,all_of_check h];exact puts_map fun a ha b hb e=>pos_inj h4 (h6 a ha) (h6 b hb) (by omega)
theorem alike_sets{a b:C}(h:alike a b=true):(setV a).length=(setV b).length:=by
 rw[alike_iff]at h;rw[←sets_len h.1,←sets_len h.2.1,h.2.2]
theorem alike_all{a b:C}(h:alike a b=true):(all a).length=(all b).length:=by
 have h1:=congrArg List.length (alike_parts h);rw[alike_iff]at h;rw[all_of_check h.1,all_of_check h.2.1];simpa using h1
theorem globsOf_map:∀l:List C,globsOf l=(l.map (fun x=>(x.k,x.s,x.d))).flatMap fun u=>if u.1=3∨u.1=5∨u.1=6 then [u.2.1.data.toList]else []
 |[]=>rfl
 |c :: r=>by
  have:=globsOf_map r;unfold globsOf at this ⊢;rw[List.flatMap_cons,List.map_cons,List.flatMap_cons,this]
theorem alike_globs{a b:C}(h:alike a b=true):globV a=globV b:=by
 have h1:=alike_parts h;rw[alike_iff]at h;unfold globV;rw[all_of_check h.1,all_of_check h.2.1,globsOf_map,globsOf_map,h1]
end Co
end Go.Proofs.YtfjmlfbohenmfaaGreat
