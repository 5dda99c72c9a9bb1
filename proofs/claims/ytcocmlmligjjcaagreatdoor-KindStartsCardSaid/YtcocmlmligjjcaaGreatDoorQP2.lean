-- SQUEEZED
/- Layer 1 and 2, plain: what a name is, what a type is. -/
import Derived.Test.YtcocmlmligjjcaaGreatDoorQ1
import Derived.Test.YtcocmlmligjjcaaGreatDoorQ3
import Derived.Test.YtcocmlmligjjcaaGreatDoorQP0
set_option linter.unusedVariables false
set_option linter.unusedSimpArgs false
namespace Go.Proofs.PL
open Go.RowKit Go.Proofs.YtcocmlmligjjcaaGreatDoorW.PrintWords Go.Proofs.YtcocmlmligjjcaaGreatDoor.Q
def letter(c:Nat):Bool:=(decide (97≤c)&&decide (c≤122))||(decide (65≤c)&&decide (c≤90))||decide (c=95)
def digit(c:Nat):Bool:=decide (48≤c)&&decide (c≤57)
def okc(c:UInt8):Bool:=letter c.toNat||digit c.toNat
def nameB(l:List UInt8):Bool:=decide (1≤l.length)&&decide (l.length≤24)&&!digit (ch l 0)&&l.all okc
theorem letter_eq(c:Nat):bin_letter.f (c:Int)=some (letter c):=by
 unfold bin_letter.f letter
 repeat' split
 all_goals (congr 1;rw[eq_comm,Bool.eq_iff_iff];simp;omega)
theorem digit_eq(c:Nat):bin_digit.f (c:Int)=some (digit c):=by
 unfold bin_digit.f digit
 repeat' split
 all_goals (congr 1;rw[eq_comm,Bool.eq_iff_iff];simp;omega)
theorem ch_drop{l:List UInt8}{n:Nat}(h:n<l.length):l.drop n=l[n]::l.drop (n+1)∧ch l n=(l[n]).toNat:=by
 refine⟨List.drop_eq_getElem_cons h,?_⟩;simp[ch,List.getD_eq_getElem?_getD,List.getElem?_eq_getElem h]
theorem binName_l0(l:List UInt8)(hl:l.length≤9223372036854775806): ∀d n,l.length-n=d→n≤l.length→Ev (fun k=>bin_Name.l0 k (mk l) (l.length:Int) (n:Int)) ((l.drop n).all okc):=by
 intro d
 induction d with
 |zero=>
  intro n hd hn
  obtain rfl:n=l.length:=by omega
  refine Ev.step (fun k=>by rw[bin_Name.l0,if_neg (by omega)]) ?_
  refine Ev.pure ?_
  simp
 |succ d ih=>
  intro n hd hn
  have hlt:n<l.length:=by omega
  obtain⟨h1,h2⟩:=ch_drop hlt
  have hw:wrap64 ((n:Int)+1)=((n+1:Nat):Int):=by rw[wrap_in _ (by omega) (by omega)];rfl
  have ih':=ih (n+1) (by omega) (by omega)
  refine Ev.step (fun k=>by rw[bin_Name.l0,if_pos (by omega),if_pos (by omega),if_pos (by simp;omega),bt_mk l n _ rfl hlt,letter_eq,Option.bind_some,digit_eq,Option.bind_some,hw]) ?_
  rw[h1,List.all_cons];rw[show okc l[n]=(letter (ch l n)||digit (ch l n))from by rw[h2];rfl];refine Ev.ite (fun hc=>?_) (fun hc=>Ev.ite (fun hd=>?_) (fun hd=>?_))
  ·simpa [hc]using ih'
  ·simpa [hd]using ih'
  ·exact Ev.pure (by simp[hc,hd])
theorem binName(l:List UInt8)(hl:l.length≤9223372036854775806):Ev (fun k=>bin_Name.f k (mk l)) (nameB l):=by
 unfold bin_Name.f
 have hj: ∀b,Ev (fun k=>bin_Name.j0 k (mk l) b) (!b&&l.all okc):=by
  intro b
  have h0:=binName_l0 l hl l.length 0 (by omega) (by omega)
  refine Ev.step (fun k=>by rw[bin_Name.j0,size_mk]) ?_
  cases b with
  |true=>exact Ev.pure (by simp)
  |false=>simpa using h0
 refine Ev.ite (fun hc=>?_) (fun hc=>Ev.ite (fun hd=>?_) (fun hd=>Ev.ite (fun he=>?_) (fun he=>?_)))
 ·have:l= []:=by simpa using hc
  subst this
  simpa [nameB]using hj true
 ·have h24: ¬l.length≤24:=by simp at hd;omega
  simpa [nameB,h24]using hj true
 ·have hp:0<l.length:=by simpa using he
  have h24:l.length≤24:=by simp at hd;omega
  rw[show bt (mk l) 0=(ch l 0:Int)from bt_mk l 0 _ rfl hp]
  refine Ev.then (digit_eq _) ?_
  have:nameB l=(!digit (ch l 0)&&l.all okc):=by simp[nameB,h24,show 1≤l.length by omega]
  rw[this];exact hj _
 ·exfalso
  have:l≠ []:=by simpa using hc
  have:=List.length_pos_iff.2 this;rw[size_mk]at he;omega
def okAt(l:List UInt8)(n:Nat):Bool:=letter (ch l n)||(digit (ch l n)&&decide (n≠0))
theorem refName_step(l:List UInt8)(n:Nat)(hlt:n<l.length)(hl:l.length≤9223372036854775806)(k:Nat):
  hornbookref01_Name.l0 (k+1) (mk l) (n:Int)=if okAt l n=true then hornbookref01_Name.l0 k (mk l) ((n+1:Nat):Int)else some false:=by
 have hw:wrap64 ((n:Int)+1)=((n+1:Nat):Int):=by rw[wrap_in _ (by omega) (by omega)];rfl
 rw[hornbookref01_Name.l0,if_pos (by simp;omega),if_pos (by omega),bt_mk l n _ rfl hlt,hw];generalize hornbookref01_Name.l0 k (mk l) ((n+1:Nat):Int)=A
 have hn:((n:Int)=0)↔n=0:=by omega
 by_cases hP:okAt l n=true
 ·rw[if_pos hP]
  have hP':=hP;simp only[okAt,letter,digit,Bool.or_eq_true,Bool.and_eq_true,decide_eq_true_eq]at hP';generalize ch l n=c at hP'
  repeat' split
  all_goals first|rfl|(exfalso;omega)
 ·rw[if_neg hP]
  have hP':=hP;simp only[okAt,letter,digit,Bool.or_eq_true,Bool.and_eq_true,decide_eq_true_eq]at hP';generalize ch l n=c at hP'
  repeat' split
  all_goals first|rfl|(exfalso;omega)
theorem refName_l0(l:List UInt8)(hl:l.length≤9223372036854775806): ∀d n,l.length-n=d→1≤n→n≤l.length→Ev (fun k=>hornbookref01_Name.l0 k (mk l) (n:Int)) ((l.drop n).all okc):=by
 intro d
 induction d with
 |zero=>
  intro n hd h1 hn
  obtain rfl:n=l.length:=by omega
  refine Ev.step (fun k=>by rw[hornbookref01_Name.l0,if_neg (by simp)]) ?_
  refine Ev.pure ?_
  simp
 |succ d ih=>
  intro n hd hn1 hn
  have hlt:n<l.length:=by omega
  obtain⟨h1,h2⟩:=ch_drop hlt;have ih':=ih (n+1) (by omega) (by omega) (by omega)
  refine Ev.step (fun k=>refName_step l n hlt hl k) ?_
  have ho:okAt l n=okc l[n]:=by unfold okAt okc;rw[h2];simp[show n≠0 by omega]
  rw[h1,List.all_cons,←ho];refine Ev.ite (fun hc=>?_) (fun hc=>?_)
  ·simpa [hc]using ih'
  ·exact Ev.pure (by simp[hc])
theorem refName(l:List UInt8)(hl:l.length≤9223372036854775806):Ev (fun k=>hornbookref01_Name.f k (mk l)) (nameB l):=by
 unfold hornbookref01_Name.f;refine Ev.ite (fun hc=>?_) (fun hc=>?_)
 ·refine Ev.step (fun k=>by rw[hornbookref01_Name.j0,if_pos rfl]) (Ev.pure ?_)
  rw[size_mk]at hc;simp[nameB,show¬1≤l.length by omega]
 ·rw[size_mk]at hc
  rw[size_mk]
  have hp:0<l.length:=by omega
  refine Ev.step (fun k=>by rw[hornbookref01_Name.j0]) (Ev.ite (fun hd=>Ev.pure ?_) (fun hd=>?_))
  ·have: ¬l.length≤24:=by simp at hd;omega
   simp[nameB,this]
  ·have h24:l.length≤24:=by simp at hd;omega
   obtain⟨h1,h2⟩:=ch_drop hp
   have ih:=refName_l0 l hl (l.length-1) 1 rfl (by omega) (by omega)
   refine Ev.step (fun k=>refName_step l 0 hp hl k) ?_
   have hall:l.all okc=(okc l[0]&&(l.drop (0+1)).all okc):=by
    have e:l.all okc=(l.drop 0).all okc:=by rw[List.drop_zero]
    rw[e,h1,List.all_cons]
   have hx:nameB l=(okAt l 0&&(l.drop (0+1)).all okc):=by
    unfold nameB okAt;rw[hall,h2,show okc l[0]=(letter l[0].toNat||digit l[0].toNat)from rfl]
    have hdl:digit l[0].toNat=true→letter l[0].toNat=false:=by
     unfold digit letter;simp;omega
    rw[decide_eq_true (show 1≤l.length by omega),decide_eq_true h24,show decide ((0:Nat)≠0)=false from rfl];revert hdl;generalize letter l[0].toNat=A;generalize digit l[0].toNat=B;generalize (l.drop (0+1)).all okc=R
    cases A<;>cases B<;>cases R<;>decide
   rw[hx];refine Ev.ite (fun hc=>?_) (fun hc=>Ev.pure (by simp[hc]))
   simpa [hc]using ih
def hasP(l p:List UInt8):Bool:=decide (p.length≤l.length)&&(l.take p.length==p)
def hasS(l p:List UInt8):Bool:=decide (p.length≤l.length)&&(l.drop (l.length-p.length)==p)
theorem hasPrefix_eq(l p:List UInt8):stringslite_HasPrefix.f (mk l) (mk p)=some (hasP l p):=by
 unfold stringslite_HasPrefix.f hasP;rw[size_mk,size_mk]
 by_cases h:p.length≤l.length
 ·rw[if_pos (by omega),if_pos (by omega),if_pos (by omega),extract_mk,toList_mk,toList_mk]
  simp[h]
 ·rw[if_neg (by omega)]
  simp[h]
theorem cutPrefix_eq(l p:List UInt8):strings_CutPrefix.f (mk l) (mk p)=some (if hasP l p then(mk (l.drop p.length),true)else(mk l,false)):=by
 unfold strings_CutPrefix.f stringslite_CutPrefix.f;rw[hasPrefix_eq]
 by_cases h:hasP l p=true
 ·have hle:p.length≤l.length:=by unfold hasP at h;simp at h;exact h.1
  simp only[Option.bind_some,h,if_true];rw[if_pos (by omega),if_pos (by simp;omega)];simp[extract_mk]
 ·simp[h]
theorem hasSuffix_eq(l p:List UInt8)(hl:l.length≤9223372036854775806):stringslite_HasSuffix.f (mk l) (mk p)=some (hasS l p):=by
 unfold stringslite_HasSuffix.f hasS;rw[size_mk,size_mk]
 by_cases h:p.length≤l.length
 ·rw[if_pos (by omega),wrap_in _ (by omega) (by omega),if_pos (by omega),if_pos (by omega),extract_mk,toList_mk,toList_mk]
  have e:((l.length:Int)-(p.length:Int)).toNat=l.length-p.length:=by omega
  simp[h,e]
 ·rw[if_neg (by omega)]
  simp[h]
theorem cutSuffix_eq(l p:List UInt8)(hl:l.length≤9223372036854775806):strings_CutSuffix.f (mk l) (mk p)=some (if hasS l p then(mk (l.take (l.length-p.length)),true)else(mk l,false)):=by
 unfold strings_CutSuffix.f stringslite_CutSuffix.f;rw[hasSuffix_eq l p hl]
 by_cases h:hasS l p=true
 ·have hle:p.length≤l.length:=by unfold hasS at h;simp at h;exact h.1
  have e:((l.length:Int)-(p.length:Int)).toNat=l.length-p.length:=by omega
  simp only[Option.bind_some,h,if_true];rw[size_mk,size_mk,wrap_in _ (by omega) (by omega),if_pos (by omega),if_pos (by omega)];simp[extract_mk,e]
 ·simp[h]
def base(l:List UInt8):List UInt8:=l.dropWhile (· ==91)
def rank(l:List UInt8):Nat:=(l.takeWhile (· ==91)).length
theorem rank_base(l:List UInt8):rank l+(base l).length=l.length:=by
 unfold rank base;rw[←List.length_append,List.takeWhile_append_dropWhile]
theorem drop_rank(l:List UInt8):l.drop (rank l)=base l:=by
 have h:l.takeWhile (· ==91)++l.dropWhile (· ==91)=l:=List.takeWhile_append_dropWhile;have h2:(l.takeWhile (· ==91)++l.dropWhile (· ==91)).drop (l.takeWhile (· ==91)).length=l.dropWhile (· ==91):=List.drop_left;rw[h]at h2;exact h2
theorem bare_eq(l:List UInt8)(hl:l.length≤9223372036854775806):desc_bare.f (mk l)=some (mk (base l),(rank l:Int)):=by
 unfold desc_bare.f strings_TrimLeft.f
 have hb:=rank_base l
 rw[if_pos rfl,data_mk];simp only[Option.bind_some,size_mk];have e:(⟨(Lib.trimLeftB l 91).toArray⟩:ByteArray)=mk (base l):=rfl;rw[e,size_mk,wrap_in _ (by omega) (by omega)]
 congr 2
 omega
def plainB(l:List UInt8):Bool:=l== [73]||l== [66]||l== [83]
theorem plain_eq(l:List UInt8):desc_plain.f (mk l)=some (plainB l):=by
 unfold desc_plain.f plainB;rw[toList_mk]
 by_cases h1:l= [73]
 ·simp[h1]
 ·by_cases h2:l= [66]
  ·simp[h2]
  ·simp[h1,h2]
def cutL(l:List UInt8):List UInt8:=if hasP l [76]then l.drop 1 else l
def nmText(l:List UInt8):List UInt8:=if hasS (cutL l) [59]then(cutL l).take ((cutL l).length-1)else cutL l
def nmOk(l:List UInt8):Bool:=hasP l [76]&&hasS (cutL l) [59]&&nameB (nmText l)
theorem cutL_le(l:List UInt8):(cutL l).length≤l.length:=by unfold cutL;split<;>simp
theorem nmText_le(l:List UInt8):(nmText l).length≤l.length:=by
 have:=cutL_le l
 unfold nmText;split<;>simp<;>omega
theorem name_ev(l:List UInt8)(hl:l.length≤9223372036854775806):Ev (fun k=>desc_name.f k (mk l)) (mk (nmText l),nmOk l):=by
 unfold desc_name.f
 refine Ev.then (cutPrefix_eq l [76]) ?_
 have e1:(if hasP l [76]=true then(mk (l.drop ([76]:List UInt8).length),true)else(mk l,false))=(mk (cutL l),hasP l [76]):=by
  unfold cutL;cases hasP l [76]<;>simp
 rw[e1]
 refine Ev.then (cutSuffix_eq (cutL l) [59] (by have:=cutL_le l;omega)) ?_
 have e2:(if hasS (cutL l) [59]=true then(mk ((cutL l).take ((cutL l).length-([59]:List UInt8).length)),true)else(mk (cutL l),false))=(mk (nmText l),hasS (cutL l) [59]):=by
  unfold nmText;cases hasS (cutL l) [59]<;>simp
 rw[e2];have hN:=binName (nmText l) (by have:=nmText_le l;omega);refine Ev.ite (fun h1=>Ev.ite (fun h2=>?_) (fun h2=>?_)) (fun h1=>?_)
 ·refine Ev.bind hN (Ev.pure ?_)
  simp at h1 h2;simp[nmOk,h1,h2]
 ·refine Ev.pure ?_
  simp at h1 h2;simp[nmOk,h2]
 ·refine Ev.pure ?_
  simp at h1;simp[nmOk,h1]
def rightB(l:List UInt8):Bool:=decide (rank l≤4)&&(nmOk (base l)||plainB (base l))
theorem base_le(l:List UInt8):(base l).length≤l.length:=by have:=rank_base l;omega
theorem right_ev(l:List UInt8)(hl:l.length≤9223372036854775806):Ev (fun k=>desc_Right.f k (mk l)) (rightB l):=by
 unfold desc_Right.f
 refine Ev.then (bare_eq l hl) ?_
 refine Ev.bind (name_ev (base l) (by have:=base_le l;omega)) ?_
 refine Ev.ite (fun h1=>Ev.ite (fun h2=>?_) (fun h2=>?_)) (fun h1=>?_)
 ·refine Ev.pure ?_
  simp at h1 h2;simp[rightB,show rank l≤4 by omega,h2]
 ·refine Ev.pure ?_
  simp at h1 h2;simp[rightB,show rank l≤4 by omega,h2,plain_eq]
 ·refine Ev.pure ?_
  simp at h1;simp[rightB,show¬rank l≤4 by omega]
end Go.Proofs.PL
