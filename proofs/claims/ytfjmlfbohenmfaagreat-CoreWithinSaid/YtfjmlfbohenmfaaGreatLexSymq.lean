/-
 The walk of datum.Symbol.
-/
import Derived.Test.YtfjmlfbohenmfaaGreatLexStrq
import Derived.Test.YtfjmlfbohenmfaaGreatMinq
namespace Go.Proofs.YtfjmlfbohenmfaaGreat
open Go.RowKit Go.Sort
namespace Lx
theorem all_bytes(f g:UInt8→Bool)(h:∀n,n<256→f (UInt8.ofNat n)=g (UInt8.ofNat n))(c:UInt8):f c=g c:=by
 have:=h c.toNat c.toNat_lt;simpa using this
theorem sym_bool(s:ByteArray):symbol s.data.toList=if s.toList==[43]then true else if s.toList==[45]then true else if s.toList==[46,46,46]then true
  else if s.toList.isEmpty then false else if 32<s.size then false else if begins (s.data.toList.headD 0)then s.data.toList.all goes else false:=by
 unfold symbol;rw[ByteArray.toList_eq,←Fx.size_toList];cases (s.data.toList==[43]) <;> cases (s.data.toList==[45]) <;> cases (s.data.toList==[46,46,46]) <;> cases s.data.toList.isEmpty <;> cases begins (s.data.toList.headD 0) <;> simp
 by_cases h:32<s.size
 ·simp[show ¬s.size≤32 by omega,h]
 ·simp[show s.size≤32 by omega,h]
end Lx
theorem Sym_idx(big:ByteArray)(f:UInt8→Bool)(h:∀n,n<256→big.data.toList.contains (UInt8.ofNat n)=f (UInt8.ofNat n))(c:UInt8)(w:World):
  Calls Tryz.prog 113 #[.string big,.int .u8 (c.toNat:Int)] w fun e w'=>∃i:Int,e= .returned (.int .i64 i)∧decide (0≤i)=f c∧w=w':=by
 refine(IndexByte_any big c w).mono ?_;rintro e w' ⟨rfl,rfl⟩;exact⟨_,rfl,by rw[Lx.idx_in];exact Lx.all_bytes (fun c=>big.data.toList.contains c) f h c,rfl⟩
set_option maxRecDepth 100000 in
set_option maxHeartbeats 1000000 in
theorem Symbol_any(s:ByteArray)(w:World)(hs:s.size≤1000000):
  Calls Tryz.prog 90 #[.string s] w fun e w'=>e= .returned (.bool (Lx.symbol s.data.toList))∧w'=w:=by
 have HN:=hd (Lx.sym_bool s);cases f1:(s.toList==[43])
 case true=>
  have HR:Hid (Lx.symbol s.data.toList=true):=by show _=_;rw[HN.out,f1];rfl
  go_enter Tryz.func90,Tryz.ntmps90;go_wp2;go_ret;exact⟨by rw[HR.out];rfl,rfl⟩
 cases f2:(s.toList==[45])
 case true=>
  have HR:Hid (Lx.symbol s.data.toList=true):=by show _=_;rw[HN.out,f1,f2];rfl
  go_enter Tryz.func90,Tryz.ntmps90;go_wp2;go_ret;exact⟨by rw[HR.out];rfl,rfl⟩
 cases f3:(s.toList==[46,46,46])
 case true=>
  have HR:Hid (Lx.symbol s.data.toList=true):=by show _=_;rw[HN.out,f1,f2,f3];rfl
  go_enter Tryz.func90,Tryz.ntmps90;go_wp2;go_ret;exact⟨by rw[HR.out];rfl,rfl⟩
 cases f4:s.toList.isEmpty
 case true=>
  have HR:Hid (Lx.symbol s.data.toList=false):=by show _=_;rw[HN.out,f1,f2,f3,f4];rfl
  go_enter Tryz.func90,Tryz.ntmps90;go_wp2;go_ret;exact⟨by rw[HR.out];rfl,rfl⟩
 have HN2:Hid (Lx.symbol s.data.toList=if 32<s.size then false else if Lx.begins (s.data.toList.headD 0)then s.data.toList.all Lx.goes else false):=by
  show _=_;rw[HN.out,f1,f2,f3,f4];rfl
 clear HN;have hp:0<s.size:=by
  apply Classical.byContradiction
  intro h;have e:s.data.toList=[]:=List.eq_nil_of_length_eq_zero (by rw[Fx.size_toList];omega);rw[ByteArray.toList_eq,e]at f4;simp at f4
 have hp':0<(s.size:Int):=by omega
 by_cases h32:32<s.size
 ·have h32i:32<(s.size:Int):=by omega
  have HR:Hid (Lx.symbol s.data.toList=false):=HN2.out.trans (if_pos h32);go_enter Tryz.func90,Tryz.ntmps90;go_wp2;go_ret;exact⟨by rw[HR.out];rfl,rfl⟩
 have h32i:¬32<(s.size:Int):=by omega
 have hhd:s.data.toList.headD 0=s[0]:=by rw[Lx.d_cons s hp];rfl
 have HN3:Hid (Lx.symbol s.data.toList=if Lx.begins s[0]then(Lx.tl s 0).all Lx.goes else false):=by
  show _=_;rw[HN2.out,if_neg h32,hhd];rfl
 clear HN2 hhd;go_enter Tryz.func90,Tryz.ntmps90;go_wp2_with fail
 refine(Sym_idx _ Lx.begins (by decide+kernel) _ _).mono ?_;rintro e w1 ⟨i,rfl,hi,rfl⟩;cases hb:Lx.begins s[0]
 ·rw[hb]at hi;have hi':i<0:=by simpa using hi
  clear hi;have HR:Hid (Lx.symbol s.data.toList=false):=by show _=_;rw[HN3.out,hb];rfl
  go_wp2;go_ret;exact⟨by rw[HR.out];rfl,rfl⟩
 rw[hb]at hi;have hi':¬i<0:=by simp at hi;omega
 clear hi;have HN4:Hid (Lx.symbol s.data.toList=(Lx.tl s 0).all Lx.goes):=by show _=_;rw[HN3.out,hb];rfl
 clear HN3;go_wp2_with fail
 go_loopw [3,22] (fun _ v wr=>∃k:Nat,v= .int .i64 k∧k≤s.size∧Hid (Lx.symbol s.data.toList=(Lx.tl s k).all Lx.goes)∧wr=w) (fun _ v _=>s.size - (intOf v).toNat)
 case atStart=>exact⟨0,rfl,by omega,HN4,rfl⟩
 case round=>
  obtain⟨k,rfl,hk,HM,rfl⟩:=hrel;by_cases hlt:k<s.size
  case neg=>
   have hge:(s.size:Int)≤(k:Int):=by omega
   have HR:Hid (Lx.symbol s.data.toList=true):=by show _=_;rw[HM.out,Lx.tl_nil s k (by omega)];rfl
   go_wp2;go_ret;exact⟨by rw[HR.out];rfl,rfl⟩
  have hlt':(k:Int)<(s.size:Int):=by omega
  have HM2:Hid (Lx.symbol s.data.toList=(Lx.goes s[k]&&(Lx.tl s (k+1)).all Lx.goes)):=by
   show _=_;rw[HM.out,Lx.tl_cons s k hlt,List.all_cons]
  clear HM HN4;go_wp2_with fail
  refine(Sym_idx _ Lx.goes (by decide+kernel) _ _).mono ?_;rintro e w1 ⟨i2,rfl,hi2,rfl⟩;cases hg:Lx.goes s[k]
  ·rw[hg]at hi2;have hi3:i2<0:=by simpa using hi2
   clear hi2;have HR:Hid (Lx.symbol s.data.toList=false):=by show _=_;rw[HM2.out,hg];rfl
   go_wp2;go_ret;exact⟨by rw[HR.out];rfl,rfl⟩
  ·rw[hg]at hi2;have hi3:¬i2<0:=by simp at hi2;omega
   clear hi2;have HM3:Hid (Lx.symbol s.data.toList=(Lx.tl s (k+1)).all Lx.goes):=by show _=_;rw[HM2.out,hg];rfl
   clear HM2;go_wp2;go_roundw
   case rel=>exact⟨k+1,by simp,by omega,HM3,trivial⟩
   case measure=>simp[intOf];omega
end Go.Proofs.YtfjmlfbohenmfaaGreat
