/-
  CoLawPq.
-/
import Derived.Test.YtfjmlfbohenmfaaGreatCoAwakeq
import Derived.Test.YtfjmlfbohenmfaaGreatCoreWithinLawZM11
import Derived.Test.YtfjmlfbohenmfaaGreatCoOwnq
import Derived.Test.YtfjmlfbohenmfaaGreatCoSmallq
import Derived.Test.YtfjmlfbohenmfaaGreatCoreWithinLawZM2
set_option maxRecDepth 100000
set_option maxHeartbeats 32000000
namespace Go.Proofs.YtfjmlfbohenmfaaGreat
open Go.RowKit
attribute [local go_sem] Oper.semAt_some
namespace Co
theorem El.ofHp{w:World}{B:Nat}{cs:Array Value}{t:TypeId}(h:Hp w B cs t){o:Nat}{c:C}{vm vl vt vp vk:Value}(h0:cs[o]?=some (.int .i64 c.k))(h1:cs[o+1]?=some (.int .i64 c.n))(h2:cs[o+2]?=some (.string c.s))(h3:cs[o+3]?=some (.int .i64 c.d.k))(h4:cs[o+4]?=some (.int .i64 c.d.n))(h5:cs[o+5]?=some (.string c.d.s))(h6:cs[o+6]?=some vm)(h7:cs[o+7]?=some vl)(h8:cs[o+8]?=some vt)(h9:cs[o+9]?=some vp)(h10:cs[o+10]?=some vk):El w B o c vm vl vt vp vk:=
 ⟨h.cell _ h0,h.cell _ h1,h.cell _ h2,h.cell _ h3,h.cell _ h4,h.cell _ h5,h.cell _ h6,h.cell _ h7,h.cell _ h8,h.cell _ h9,h.cell _ h10⟩
end Co
theorem cloneInts3_any{F:Nat→Prop}(v:Value)(m:List Int)(w:World)(h:Dt.IRow F w v m)(hl:m.length≤1048576):
  Calls Tryz.prog 23 #[v] w fun e w'=>∃v',e= .returned v'∧w'.ownsRow w.heap.size 3 1 v' m.length (m.map (Value.int .i64))∧Below w.heap.size w w':=by
 have h0:=h;obtain⟨a,c,rfl,hc,_⟩:=h;have hsrc:=fun ha=>h0.src (a:=a) ha
 have hnil:a=none→m=[]:=fun ha=>by
  obtain⟨a',c',h1,h2,h3⟩:=h0;cases h1
  cases hm:m with
  |nil=>rfl
  |cons x r=>obtain⟨b,o,e,_⟩:=h3 (by rw[hm];simp);rw[ha]at e;cases e
 clear h0;have hn:=Lib.run_eql_slice_nil (P:=Tryz.prog) w 22 3 a m.length c 0 0 Tryz.underlying22
 cases a with
 |none=>
  obtain rfl:=hnil rfl;have hn':(binOp .eql 22 (.slice none 0 c) (.slice none 0 0)).run Tryz.prog w= .ok (.bool true) w:=hn;clear hsrc hnil hn;go_enter Tryz.func23,Tryz.ntmps23;go_wp2;go_ret;exact⟨_,rfl,World.ownsRow_nil _ _ _ _,Below.refl _ _⟩
 |some ad=>
  have hs:=hsrc (by simp);clear hsrc hnil;obtain⟨i1,hi1,hy0,hy1,hy2⟩:=info_parts Dt.infoI;have hm1:0+m.length≤maxLen:=by unfold maxLen;omega
  have hm2:(0+m.length)*8≤140737488355328:=by omega
  obtain⟨wA,hwA⟩:∃wA,w.alloc (.cells #[] 3)=wA:=⟨_,rfl⟩
  have hb:Below w.heap.size w wA:=by rw[←hwA];exact(Below.refl _ _).alloc (Nat.le_refl _) _
  have hown:wA.ownsRow w.heap.size 3 1 (.slice (some ⟨w.heap.size,0,none⟩) 0 0) 0 []:=by rw[←hwA];exact World.ownsRow_made w #[] 0 (Nat.le_refl _) (by decide) (by simp)
  have hsA:Ap.Src wA (.slice (some ad) m.length c) m.length (m.map (Value.int .i64)):=by
   rcases hs with⟨h1,_⟩|⟨ad',c',h1,h2⟩
   ·cases h1
   ·refine .inr ⟨ad',c',h1,fun j u hu=> ?_⟩;have hc:=h2 j u hu;exact(hb.cell (World.block_lt_of_cell? w _ hc)).trans hc
  have HS:=zh hsA;have HO:=zh hown;have HB:=zh hb;clear hs hsA hown hb;go_enter Tryz.func23,Tryz.ntmps23;go_wp2_with(at_builtin;refine Ap.list rfl _ _ 22 rfl w.heap.size 3 i1 (.int .i64 0) 1 8 Tryz.underlying22 hi1 hy0 hy1 hy2 rfl (by decide) (.slice (some ⟨w.heap.size,0,none⟩) 0 0) 0 [] rfl HO.out (.slice (some ad) m.length c) m.length (m.map (Value.int .i64)) rfl HS.out (by simp) (by intro u hu;obtain⟨x,_,rfl⟩:=List.mem_map.1 hu;rfl) hm1 hm2 HB.out.size ?_;intro v' w5 hown hg hat;obtain⟨a5,c5,rfl⟩:=Dt.row_form hown)
  go_ret;simp only[Nat.zero_add,List.nil_append]at hown;exact⟨_,rfl,hown,Dt.grown_below HB.out hg (Nat.le_refl _) (fun k hk=>by cases hk;exact Nat.le_refl _)⟩
namespace Co
theorem srcOne{w wD:World}{a:Value}{t:TypeId}(hw:w.alloc (.cells #[a] t)=wD):Ap.Src wD (.slice (some ⟨w.heap.size,0,none⟩) 1 1) 1 [a]:=
 .inr ⟨_,_,rfl,fun z u hu=>by
  rw[Addr.add_mid,Nat.zero_add];have h2:#[a][z]?=some u:=by rw[←hu];simp
  exact(Hp.new hw).cell z h2⟩
theorem src_below{w w':World}{v:Value}{n:Nat}{l:List Value}(h:Ap.Src w v n l)(hb:Below w.heap.size w w'):Ap.Src w' v n l:=by
 rcases h with h|⟨ad,c,h1,h2⟩
 ·exact .inl h
 ·refine .inr ⟨ad,c,h1,fun j u hu=> ?_⟩;have hc:=h2 j u hu;exact(hb.cell (World.block_lt_of_cell? w _ hc)).trans hc
theorem idx_contains{l:List Int}{s x:Int}(h:IdxIs l s x):decide (0≤x)=l.contains s:=by
 rcases h with⟨rfl,h⟩|⟨k,rfl,hk,h1,-⟩
 ·have h2:l.contains s=false:=by simpa using h
  rw[h2]
  rfl
 ·have h2:l.contains s=true:=by
   have:=List.getElem_mem hk;rw[h1]at this;simpa using this
  rw[h2];exact decide_eq_true (by omega)
end Co
theorem containsI_any{F:Nat→Prop}(v:Value)(l:List Int)(s:Int)(w:World)(h:Dt.IRow F w v l)(hl:l.length≤140737488355328):
  Calls Tryz.prog 22 #[v,.int .i64 s] w fun e w'=>e= .returned (.bool (l.contains s))∧w=w':=by
 have hix:=indexI_any v l s w h hl;clear h hl;go_enter Tryz.func22,Tryz.ntmps22;go_wp2_with fail
 refine hix.mono ?_;rintro e w1 ⟨⟨x,rfl,hx⟩,rfl⟩;have HX:=zh hx;clear hx hix;go_wp2;go_ret;refine⟨?_,rfl⟩;have h:decide (0≤x)=l.contains s:=Co.idx_contains HX.out;show Ending.returned (.bool (decide (0≤x)))=_;rw[h]
end Go.Proofs.YtfjmlfbohenmfaaGreat
