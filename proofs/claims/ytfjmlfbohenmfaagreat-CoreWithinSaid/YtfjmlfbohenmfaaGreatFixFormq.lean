/-
  FixFormq.
-/
import Derived.Test.YtfjmlfbohenmfaaGreatCoreWithinLawZM2
set_option maxRecDepth 100000
set_option maxHeartbeats 32000000
namespace Go.Proofs.YtfjmlfbohenmfaaGreat
open Go.RowKit
namespace Fx
theorem get_drop(s:ByteArray)(at_:Nat):(s.data.toList.drop at_).all isD=true↔∀j (h:j<s.size),at_≤j→isD s[j]=true:=by
  rw[List.all_eq_true];constructor
  · intro H j h hj
    refine H s[j] ?_;rw[List.mem_iff_getElem];refine⟨j - at_,by rw[List.length_drop,size_toList];omega,?_⟩;rw[List.getElem_drop];have e:at_+(j - at_)=j:=by omega
    simp only[e]
    rfl
  · intro H x hx
    obtain⟨i,hi,rfl⟩:=List.getElem_of_mem hx;rw[List.getElem_drop];rw[List.length_drop,size_toList]at hi;exact H (at_+i) (by omega) (by omega)
def allFrom(s:ByteArray)(at_:Nat):Bool:=(s.data.toList.drop at_).all isD
def pre(s:ByteArray)(at_ k:Nat):List UInt8:=(s.data.toList.take k).drop at_
theorem pre_snoc(s:ByteArray)(at_ k:Nat)(h:k<s.size)(ha:at_≤k):pre s at_ (k+1)=pre s at_ k++[s[k]]:=by
  unfold pre;rw[take_snoc s k h,List.drop_append_of_le_length (by rw[List.length_take,size_toList];omega)]
theorem pre_end(s:ByteArray)(at_:Nat):pre s at_ s.size=s.data.toList.drop at_:=by
  unfold pre;rw[List.take_of_length_le (by rw[size_toList];exact Nat.le_refl _)]
theorem val_mono(l m:List UInt8):val l≤val (l++m):=by
  induction m generalizing l with
  |nil=>simp
  | cons c m ih =>
    have:=ih (l++[c]);rw[val_snoc,List.append_assoc]at this;exact Nat.le_trans (by omega) this
theorem pre_le(s:ByteArray)(at_ k:Nat)(hk:k≤s.size):val (pre s at_ k)≤val (s.data.toList.drop at_):=by
  unfold pre;by_cases h:at_≤k
  · have:s.data.toList.drop at_=(s.data.toList.take k).drop at_++s.data.toList.drop k:=by
      rw[←List.drop_append_of_le_length (by rw[List.length_take,size_toList];omega),List.take_append_drop]
    rw[this];exact val_mono _ _
  · rw[List.drop_eq_nil_of_le (by rw[List.length_take];omega)]
    simp[val]
theorem val_ge(c:UInt8)(l:List UInt8)(hc:1≤c.toNat - 48)(_h:l.all isD=true):10 ^ l.length≤val (c :: l):=by
  have key:∀(l:List UInt8) (v k:Nat),10 ^ k≤v→10 ^ (k+l.length)≤l.foldl (fun v c=>10*v+(c.toNat - 48)) v:=by
    intro l
    induction l with
    |nil=>intro v k hv;simpa using hv
    | cons d l ih =>
      intro v k hv;rw[List.foldl_cons,List.length_cons,show k+(l.length+1)=(k+1)+l.length from by omega];refine ih _ _ ?_;rw[Nat.pow_succ];omega
  have:=key l (10*0+(c.toNat - 48)) 0 (by simpa using hc);rw[Nat.zero_add]at this;exact this
end Fx
theorem b2(p q:Bool)(h:p=q):Ending.returned (.bool p)= .returned (.bool q):=by rw[h]
theorem Form_plain(s:ByteArray)(w:World)(hs:s.size≤9223372036854775807)(h0:0<s.size)(hm:((s[0].toNat:Int)==45)=false)(hz:((s[0].toNat:Int)==48)=false):
    Calls Tryz.prog 178 #[.string s] w fun e w'=>e= .returned (.bool (Fx.allFrom s 0))∧w=w':=by
  have hne':0<(s.size:Int):=by omega
  have hne0:((s.size:Int)==0)=false:=beq_eq_false_iff_ne.2 (by omega);go_enter Tryz.func178,Tryz.ntmps178;go_wp2
  go_loop [4] (fun i=>∃k:Nat,0≤k∧k≤s.size∧i= .int .i64 k∧Hid (∀j (h:j<s.size),0≤j→j<k→Fx.isD s[j]=true)) (fun i=>s.size - (intOf i).toNat)
  case atStart=>exact⟨0,Nat.le_refl _,by omega,rfl,fun j _ h1 h2=>absurd h2 (by omega)⟩
  case round=>
    obtain⟨k,hak,hk,rfl,HA⟩:=hrel;by_cases hlt:k<s.size
    · cases hD:Fx.isD s[k]
      · have e1:Hid (Fx.allFrom s 0=false):=by
          show Fx.allFrom s _=false;rw[Bool.eq_false_iff];intro h;have:=(Fx.get_drop s 0).1 h k hlt hak;rw[hD]at this;cases this
        have hc:s[k].toNat<48∨57<s[k].toNat:=by simp[Fx.isD]at hD;omega
        clear hD;rcases hc with hc|hc
        · have hc':((s[k].toNat:Nat):Int)<48:=by omega
          clear hc;go_wp2;go_ret;exact⟨b2 _ _ e1.out.symm,rfl⟩
        · have hc':57<((s[k].toNat:Nat):Int):=by omega
          clear hc;go_wp2;go_ret;exact⟨b2 _ _ e1.out.symm,rfl⟩
      · have hc:48≤s[k].toNat∧s[k].toNat≤57:=by simpa[Fx.isD]using hD
        have hc1:48≤((s[k].toNat:Nat):Int):=by omega
        have hc2:((s[k].toNat:Nat):Int)≤57:=by omega
        have HA2:Hid (∀j (h:j<s.size),0≤j→j<k+1→Fx.isD s[j]=true):=fun j h h1 hj=>by
          by_cases hjk:j=k
          · subst hjk;exact hD
          · exact HA.out j h h1 (by omega)
        clear hD hc;go_wp2
        go_round
        case rel=>exact⟨k+1,by omega,by omega,by go_num,HA2⟩
        case measure=>simp[intOf];omega
    · have e1:Hid (Fx.allFrom s 0=true):=(Fx.get_drop s 0).2 (fun j h h1=>HA.out j h h1 (by omega))
      go_wp2;go_ret;exact⟨b2 _ _ e1.out.symm,rfl⟩
theorem Form_zero(s:ByteArray)(w:World)(hs:s.size≤9223372036854775807)(h0:s.size=1)(h00:0<s.size)(hz:((s[0].toNat:Int)==48)=true):
    Calls Tryz.prog 178 #[.string s] w fun e w'=>e= .returned (.bool (Fx.allFrom s 0))∧w=w':=by
  have hm:((s[0].toNat:Int)==45)=false:=by
    have:(s[0].toNat:Int)=48:=by simpa using hz
    rw[this];decide
  have h0a:s.size≤1:=by omega
  have h0b:(s.size:Int)≤1:=by omega
  clear h0;have hne':0<(s.size:Int):=by omega
  have hne0:((s.size:Int)==0)=false:=beq_eq_false_iff_ne.2 (by omega);go_enter Tryz.func178,Tryz.ntmps178;go_wp2
  go_loop [4] (fun i=>∃k:Nat,0≤k∧k≤s.size∧i= .int .i64 k∧Hid (∀j (h:j<s.size),0≤j→j<k→Fx.isD s[j]=true)) (fun i=>s.size - (intOf i).toNat)
  case atStart=>exact⟨0,Nat.le_refl _,by omega,rfl,fun j _ h1 h2=>absurd h2 (by omega)⟩
  case round=>
    obtain⟨k,hak,hk,rfl,HA⟩:=hrel;by_cases hlt:k<s.size
    · cases hD:Fx.isD s[k]
      · have e1:Hid (Fx.allFrom s 0=false):=by
          show Fx.allFrom s _=false;rw[Bool.eq_false_iff];intro h;have:=(Fx.get_drop s 0).1 h k hlt hak;rw[hD]at this;cases this
        have hc:s[k].toNat<48∨57<s[k].toNat:=by simp[Fx.isD]at hD;omega
        clear hD;rcases hc with hc|hc
        · have hc':((s[k].toNat:Nat):Int)<48:=by omega
          clear hc;go_wp2;go_ret;exact⟨b2 _ _ e1.out.symm,rfl⟩
        · have hc':57<((s[k].toNat:Nat):Int):=by omega
          clear hc;go_wp2;go_ret;exact⟨b2 _ _ e1.out.symm,rfl⟩
      · have hc:48≤s[k].toNat∧s[k].toNat≤57:=by simpa[Fx.isD]using hD
        have hc1:48≤((s[k].toNat:Nat):Int):=by omega
        have hc2:((s[k].toNat:Nat):Int)≤57:=by omega
        have HA2:Hid (∀j (h:j<s.size),0≤j→j<k+1→Fx.isD s[j]=true):=fun j h h1 hj=>by
          by_cases hjk:j=k
          · subst hjk;exact hD
          · exact HA.out j h h1 (by omega)
        clear hD hc;go_wp2
        go_round
        case rel=>exact⟨k+1,by omega,by omega,by go_num,HA2⟩
        case measure=>simp[intOf];omega
    · have e1:Hid (Fx.allFrom s 0=true):=(Fx.get_drop s 0).2 (fun j h h1=>HA.out j h h1 (by omega))
      go_wp2;go_ret;exact⟨b2 _ _ e1.out.symm,rfl⟩
theorem Form_minus(s:ByteArray)(w:World)(hs:s.size≤9223372036854775807)(h0:1<s.size)(hm:((s[0].toNat:Int)==45)=true)(hz:((s[1].toNat:Int)==48)=false):
    Calls Tryz.prog 178 #[.string s] w fun e w'=>e= .returned (.bool (Fx.allFrom s 1))∧w=w':=by
  have hne':0<(s.size:Int):=by omega
  have hne0:((s.size:Int)==1)=false:=beq_eq_false_iff_ne.2 (by omega);have hne1:1<(s.size:Int):=by omega
  go_enter Tryz.func178,Tryz.ntmps178;go_wp2
  go_loop [4] (fun i=>∃k:Nat,1≤k∧k≤s.size∧i= .int .i64 k∧Hid (∀j (h:j<s.size),1≤j→j<k→Fx.isD s[j]=true)) (fun i=>s.size - (intOf i).toNat)
  case atStart=>exact⟨1,Nat.le_refl _,by omega,rfl,fun j _ h1 h2=>absurd h2 (by omega)⟩
  case round=>
    obtain⟨k,hak,hk,rfl,HA⟩:=hrel;by_cases hlt:k<s.size
    · cases hD:Fx.isD s[k]
      · have e1:Hid (Fx.allFrom s 1=false):=by
          show Fx.allFrom s _=false;rw[Bool.eq_false_iff];intro h;have:=(Fx.get_drop s 1).1 h k hlt hak;rw[hD]at this;cases this
        have hc:s[k].toNat<48∨57<s[k].toNat:=by simp[Fx.isD]at hD;omega
        clear hD;rcases hc with hc|hc
        · have hc':((s[k].toNat:Nat):Int)<48:=by omega
          clear hc;go_wp2;go_ret;exact⟨b2 _ _ e1.out.symm,rfl⟩
        · have hc':57<((s[k].toNat:Nat):Int):=by omega
          clear hc;go_wp2;go_ret;exact⟨b2 _ _ e1.out.symm,rfl⟩
      · have hc:48≤s[k].toNat∧s[k].toNat≤57:=by simpa[Fx.isD]using hD
        have hc1:48≤((s[k].toNat:Nat):Int):=by omega
        have hc2:((s[k].toNat:Nat):Int)≤57:=by omega
        have HA2:Hid (∀j (h:j<s.size),1≤j→j<k+1→Fx.isD s[j]=true):=fun j h h1 hj=>by
          by_cases hjk:j=k
          · subst hjk;exact hD
          · exact HA.out j h h1 (by omega)
        clear hD hc;go_wp2
        go_round
        case rel=>exact⟨k+1,by omega,by omega,by go_num,HA2⟩
        case measure=>simp[intOf];omega
    · have e1:Hid (Fx.allFrom s 1=true):=(Fx.get_drop s 1).2 (fun j h h1=>HA.out j h h1 (by omega))
      go_wp2;go_ret;exact⟨b2 _ _ e1.out.symm,rfl⟩
theorem Form_empty(s:ByteArray)(w:World)(hs:s.size≤9223372036854775807)(h0:s=⟨#[]⟩):
    Calls Tryz.prog 178 #[.string s] w fun e w'=>e= .returned (.bool false)∧w=w':=by
  subst h0;go_enter Tryz.func178,Tryz.ntmps178;go_wp2;go_ret;exact⟨rfl,rfl⟩
theorem Form_lead(s:ByteArray)(w:World)(hs:s.size≤9223372036854775807)(h0:1<s.size)(h00:0<s.size)(hz:((s[0].toNat:Int)==48)=true):
    Calls Tryz.prog 178 #[.string s] w fun e w'=>e= .returned (.bool false)∧w=w':=by
  have hm:((s[0].toNat:Int)==45)=false:=by
    have:(s[0].toNat:Int)=48:=by simpa using hz
    rw[this];decide
  have hne':0<(s.size:Int):=by omega
  have hne0:((s.size:Int)==0)=false:=beq_eq_false_iff_ne.2 (by omega);have hne1:1<(s.size:Int):=by omega
  go_enter Tryz.func178,Tryz.ntmps178;go_wp2;go_ret;exact⟨rfl,rfl⟩
theorem Form_sign(s:ByteArray)(w:World)(_hs:s.size≤9223372036854775807)(h0:0<s.size)(hm:((s[0].toNat:Int)==45)=true)(h1:s.size=1):
    Calls Tryz.prog 178 #[.string s] w fun e w'=>e= .returned (.bool false)∧w=w':=by
  have hne:((s.size:Int)==1)=true:=beq_iff_eq.2 (by omega);have hne':0<(s.size:Int):=by omega
  clear h1;go_enter Tryz.func178,Tryz.ntmps178;go_wp2;go_ret;exact⟨rfl,rfl⟩
theorem Form_slead(s:ByteArray)(w:World)(hs:s.size≤9223372036854775807)(h0:1<s.size)(hm:((s[0].toNat:Int)==45)=true)(hz:((s[1].toNat:Int)==48)=true):
    Calls Tryz.prog 178 #[.string s] w fun e w'=>e= .returned (.bool false)∧w=w':=by
  have hne':0<(s.size:Int):=by omega
  have hne0:((s.size:Int)==1)=false:=beq_eq_false_iff_ne.2 (by omega);have hne1:1<(s.size:Int):=by omega
  go_enter Tryz.func178,Tryz.ntmps178;go_wp2;go_ret;exact⟨rfl,rfl⟩
theorem Fx.at_eq(s:ByteArray)(h0:0<s.size)(k:Nat)(hk:k<256):((s[0].toNat:Int)==(k:Int))=(s.data.toList.head?==some (UInt8.ofNat k)):=by
  rw[Fx.at0 s h0];by_cases h:s[0].toNat=k
  · have e:s[0]=UInt8.ofNat k:=UInt8.toNat_inj.1 (by rw[h];simp;omega)
    rw[beq_iff_eq.2 (show(s[0].toNat:Int)=k by omega),e];simp
  · have e:s[0]≠UInt8.ofNat k:=fun e=>h (by rw[e];simp;omega)
    rw[beq_eq_false_iff_ne.2 (show(s[0].toNat:Int)≠k by omega)];exact(beq_eq_false_iff_ne.2 (fun h=>e (by injection h))).symm
theorem Fx.cases(s:ByteArray)(P:Prop)
    (empty:s=⟨#[]⟩→P)
    (sign:∀h0:0<s.size,s.size=1→((s[0].toNat:Int)==45)=true→Fx.form s.data.toList=false→P)
    (slead:∀h1:1<s.size,((s[0].toNat:Int)==45)=true→((s[1].toNat:Int)==48)=true→Fx.form s.data.toList=false→P)
    (minus:∀h1:1<s.size,((s[0].toNat:Int)==45)=true→((s[1].toNat:Int)==48)=false→Fx.form s.data.toList=Fx.allFrom s 1→Fx.dig s.data.toList=s.data.toList.drop 1→Fx.neg s.data.toList=true→P)
    (lead:∀h0:0<s.size,1<s.size→((s[0].toNat:Int)==48)=true→Fx.form s.data.toList=false→P)
    (zero:∀h0:0<s.size,s.size=1→((s[0].toNat:Int)==48)=true→Fx.form s.data.toList=Fx.allFrom s 0→Fx.dig s.data.toList=s.data.toList.drop 0→Fx.neg s.data.toList=false→P)
    (plain:∀h0:0<s.size,((s[0].toNat:Int)==45)=false→((s[0].toNat:Int)==48)=false→Fx.form s.data.toList=Fx.allFrom s 0→Fx.dig s.data.toList=s.data.toList.drop 0→Fx.neg s.data.toList=false→P):P:=by
  by_cases h0:s.size=0
  · refine empty ?_
    obtain⟨⟨l⟩⟩:=s
    cases l with
    |nil=>rfl
    |cons c l=>simp[ByteArray.size]at h0
  have hp:0<s.size:=by omega
  have hl:=Fx.size_toList s;have q45:=Fx.at_eq s hp 45 (by omega);have q48:=Fx.at_eq s hp 48 (by omega);cases hm:(((s[0]'hp).toNat:Int)==45)
  · have q45':(s.data.toList.head?==some 45)=false:=q45.symm.trans hm
    have hdig:Fx.dig s.data.toList=s.data.toList:=by unfold Fx.dig;rw[if_neg (by simpa using q45')]
    have hneg:Fx.neg s.data.toList=false:=q45';have hne:s.data.toList.isEmpty=false:=by rw[List.isEmpty_eq_false_iff];intro h;rw[h]at hl;simp at hl;omega
    cases hz:(((s[0]'hp).toNat:Int)==48)
    · have q48':(s.data.toList.head?==some 48)=false:=q48.symm.trans hz
      exact plain hp hm hz (by unfold Fx.form Fx.allFrom;rw[hdig,q48',hne];simp) hdig hneg
    · have q48':(s.data.toList.head?==some 48)=true:=q48.symm.trans hz
      by_cases h1:s.size=1
      · exact zero hp h1 hz (by unfold Fx.form Fx.allFrom;rw[hdig,q48',hne,hl,h1];simp) hdig hneg
      · exact lead hp (by omega) hz (by unfold Fx.form;rw[hdig,q48',hl];simp;omega)
  · have q45':(s.data.toList.head?==some 45)=true:=q45.symm.trans hm
    have hdig:Fx.dig s.data.toList=s.data.toList.tail:=by unfold Fx.dig;rw[if_pos (by simpa using q45')]
    have hneg:Fx.neg s.data.toList=true:=q45';by_cases h1:s.size=1
    · refine sign hp h1 hm ?_
      have:s.data.toList.tail=[]:=List.eq_nil_of_length_eq_zero (by rw[List.length_tail];omega);unfold Fx.form;rw[hdig,this];rfl
    have h1':1<s.size:=by omega
    have hh:s.data.toList.tail.head?=some s[1]:=by
      rw[List.head?_eq_getElem?,List.getElem?_tail,List.getElem?_eq_getElem (by rw[hl];exact h1')]
      rfl
    have hne:s.data.toList.tail.isEmpty=false:=by rw[List.isEmpty_eq_false_iff];intro h;rw[h]at hh;cases hh
    cases hz:((s[1].toNat:Int)==48)
    · have:(some s[1]==some (48:UInt8))=false:=by
        rw[beq_eq_false_iff_ne];intro h;injection h with h;rw[h]at hz;revert hz;decide
      refine minus h1' hm hz ?_ (by rw[hdig,List.drop_one]) hneg;unfold Fx.form Fx.allFrom;rw[hdig,hh,this,hne,List.drop_one];simp
    · have h48 : s[1] = 48 := UInt8.toNat_inj.1 (by have : (s[1].toNat : Int) = 48 := by simpa using hz
                                                    have:s[1].toNat=48:=by omega
                                                    rw[this];rfl)
      refine slead h1' hm hz ?_;unfold Fx.form;rw[hdig,hh,h48,hl];simp;omega
theorem Form_any(s:ByteArray)(w:World)(hs:s.size≤9223372036854775807):
    Calls Tryz.prog 178 #[.string s] w fun e w'=>e= .returned (.bool (Fx.form s.data.toList))∧w=w':=by
  refine Fx.cases s _ (fun h=> ?_) (fun h0 h1 hm hf=> ?_) (fun h1 hm hz hf=> ?_) (fun h1 hm hz hf _ _=> ?_) (fun h0 h1 hz hf=> ?_) (fun h0 h1 hz hf _ _=> ?_) (fun h0 hm hz hf _ _=> ?_)
  · subst h;exact Form_empty _ w (by simp[ByteArray.size]) rfl
  · rw[hf];exact Form_sign s w hs h0 hm h1
  · rw[hf];exact Form_slead s w hs h1 hm hz
  · rw[hf];exact Form_minus s w hs h1 hm hz
  · rw[hf];exact Form_lead s w hs h1 h0 hz
  · rw[hf];exact Form_zero s w hs h1 h0 hz
  · rw[hf];exact Form_plain s w hs h0 hm hz
end Go.Proofs.YtfjmlfbohenmfaaGreat
