/-
 Plain: a gap's end, a word's rest.
-/
import Derived.Test.YtfjmlfbohenmfaaGreatLexWordq
namespace Go.Proofs.YtfjmlfbohenmfaaGreat
open Go.RowKit Go.Sort
namespace Lx
theorem gap_len:∀(f:Nat) (t:List UInt8),(gap f t).1.length≤t.length:=by
 intro f
 induction f with
 |zero=>intro t;simp[gap]
 |succ f ih=>
  intro t
  cases t with
  |nil=>simp[gap]
  |cons c r=>
   unfold gap;split
   ·have:=ih r;simp;omega
   ·split
    ·have h1:=ih (r.dropWhile (· !=10));have h2:(r.dropWhile (· !=10)).length≤r.length:=(List.dropWhile_sublist _).length_le;simp only[List.length_cons];omega
    ·split
     ·split
      ·exact Nat.le_refl _
      ·rename_i r' hr;have h1:=ih r';have h2:=com_len _ _ _ _ (Nat.le_refl _) hr;simp only[List.length_cons]at h2 ⊢;omega
     ·exact Nat.le_refl _
theorem gap_end:∀(f:Nat) (t:List UInt8),t.length≤f→(gap f t).2=true→(gap f t).1=[]∨(white (pk (gap f t).1 0)=false∧(pk (gap f t).1 0==59)=false):=by
 intro f
 induction f with
 |zero=>
  intro t ht _;left;have:t=[]:=List.eq_nil_of_length_eq_zero (by omega);subst this
  rfl
 |succ f ih=>
  intro t ht h
  cases t with
  |nil=>left;rfl
  |cons c r=>
   simp only[List.length_cons]at ht;unfold gap at h ⊢;split at h
   ·rename_i hw;rw[if_pos hw];exact ih r (by omega) h
   ·rename_i hw;rw[if_neg hw];split at h
    ·rename_i h59;rw[if_pos h59];have h2:(r.dropWhile (· !=10)).length≤r.length:=(List.dropWhile_sublist _).length_le;exact ih _ (by omega) h
    ·rename_i h59;rw[if_neg h59];split at h
     ·rename_i h35;rw[if_pos h35];split at h
      ·exact absurd h (by simp)
      ·rename_i r' hr;have h2:=com_len _ _ _ _ (Nat.le_refl _) hr;simp only[List.length_cons]at h2;exact ih r' (by omega) h
     ·rename_i h35;rw[if_neg h35];right;exact⟨by simpa[pk]using hw,by simpa[pk]using h59⟩
theorem strEnd_len:∀(m:Nat) (l b r:List UInt8),l.length≤m→strEnd l=some (b,r)→r.length<l.length:=by
 intro m
 induction m with
 |zero=>
  intro l b r hm h;have:l=[]:=List.eq_nil_of_length_eq_zero (by omega);subst this;rw[strEnd]at h;simp at h
 |succ m ih=>
  intro l b r hm h
  match l with
  |[]=>rw[strEnd]at h;simp at h
  |[c]=>
   rw[strEnd]at h;split at h
   ·simp at h;rw[←h.2];simp
   ·simp at h
  |c :: d :: t=>
   simp only[List.length_cons]at hm ⊢;rw[strEnd]at h;split at h
   ·simp at h;rw[←h.2];simp
   ·split at h
    ·cases he:strEnd t with
     |none=>rw[he]at h;simp at h
     |some q=>
      rw[he]at h;simp at h;have:=ih t q.1 q.2 (by omega) he;rw[←h.2];omega
    ·cases he:strEnd (d :: t)with
     |none=>rw[he]at h;simp at h
     |some q=>
      rw[he]at h;simp at h;have:=ih (d :: t) q.1 q.2 (by simp only[List.length_cons];omega) he;simp only[List.length_cons]at this;rw[←h.2];omega
theorem str_len(t:List UInt8)(k:Tok)(r:List UInt8)(h:str t= .tok k r):r.length<t.length:=by
 unfold str at h;split at h
 ·simp at h
 ·rename_i b r' he;have h1:=strEnd_len _ _ _ _ (Nat.le_refl _) he;have h2:t.tail.length≤t.length:=by simp
  split at h
  ·split at h
   ·simp at h;rw[←h.2];omega
   ·simp at h
  ·simp at h
theorem char_len(t:List UInt8)(k:Tok)(r:List UInt8)(h:char t= .tok k r):r.length<t.length:=by
 unfold char at h;split at h
 ·simp at h
 ·rename_i hne;split at h
  ·simp at h
  ·simp at h;rw[←h.2];have:t.drop 2≠[]:=hne;have:0<(t.drop 2).length:=List.length_pos_iff.2 this;simp only[List.length_drop]at this ⊢;omega
theorem run_rest(t:List UInt8)(k:Tok)(r:List UInt8)(h:run t= .tok k r):r=t.dropWhile fun c=> !ends c:=by
 rw[run_eq]at h;unfold runW at h
 repeat' split at h
 all_goals first
  |(simp at h;done)
  |(simp at h;exact h.2.symm)
theorem dw_len(f:UInt8→Bool)(t:List UInt8)(h0:t≠[])(h:f (pk t 0)=true):(t.dropWhile f).length<t.length:=by
 cases t with
 |nil=>exact absurd rfl h0
 |cons c r=>
  rw[List.dropWhile_cons_of_pos (by simpa[pk]using h)];have h2:(r.dropWhile f).length≤r.length:=(List.dropWhile_sublist _).length_le;simp only[List.length_cons];omega
theorem word_len(t:List UInt8)(h0:t≠[])(hw0:white (pk t 0)=false)(h59:(pk t 0==59)=false)(h00:(pk t 0==0)=false)(k:Tok)(r:List UInt8)(h:word t= .tok k r):r.length<t.length:=by
 have hpos:0<t.length:=List.length_pos_iff.2 h0;unfold word at h;split at h
 ·rename_i hs;simp at h;rw[←h.2,List.length_drop];have:0<(sign t).2:=by
   revert hs
   unfold sign
   repeat' split
   all_goals simp
  omega
 ·rename_i hs;split at h
  ·exact str_len t k r h
  ·rename_i h34;split at h
   ·exact char_len t k r h
   ·rw[run_rest t k r h]
    apply dw_len _ _ h0
    have hg:(sign t).1=0:=by simpa using hs
    have hn34:(pk t 0==34)=false:=by simpa using h34
    unfold ends;rw[h00,hw0,hn34,h59];unfold sign at hg;cases g40:(pk t 0==40)
    ·cases g41:(pk t 0==41)
     ·rfl
     ·rw[g40,g41]at hg;simp at hg
    ·rw[g40]at hg;simp at hg
theorem word_err(t:List UInt8)(c:Int)(h:word t= .err c):c≠0:=by
 unfold word at h;split at h
 ·simp at h
 ·split at h
  ·unfold str at h
   repeat' split at h
   all_goals (simp at h;try omega)
  ·split at h
   ·unfold char at h
    repeat' split at h
    all_goals (simp at h;try omega)
   ·rw[run_eq]at h;unfold runW at h
    repeat' split at h
    all_goals (simp at h;try omega)
end Lx
end Go.Proofs.YtfjmlfbohenmfaaGreat
