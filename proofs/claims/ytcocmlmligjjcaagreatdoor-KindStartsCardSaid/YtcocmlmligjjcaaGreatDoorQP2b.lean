-- SQUEEZED
/- Layer 2, plain: the reference's Right is the program's. -/
import Derived.Test.YtcocmlmligjjcaaGreatDoorQ1
import Derived.Test.YtcocmlmligjjcaaGreatDoorQ3
import Derived.Test.YtcocmlmligjjcaaGreatDoorQP2
set_option linter.unusedVariables false
set_option linter.unusedSimpArgs false
namespace Go.Proofs.PL
open Go.RowKit Go.Proofs.YtcocmlmligjjcaaGreatDoorW.PrintWords Go.Proofs.YtcocmlmligjjcaaGreatDoor.Q
theorem beq_toNat(a c:UInt8):(a==c)=decide (a.toNat=c.toNat):=by
 by_cases h:a=c
 ·subst h;simp
 ·rw[decide_eq_false (fun e=>h (UInt8.toNat_inj.1 e))];simpa using h
theorem hasP_one(l:List UInt8)(c:UInt8):hasP l [c]=(decide (0<l.length)&&decide (ch l 0=c.toNat)):=by
 cases l with
 |nil=>simp [hasP]
 |cons a l=>simp [hasP,ch,beq_toNat]
theorem hasS_one(l:List UInt8)(c:UInt8):hasS l [c]=(decide (0<l.length)&&decide (ch l (l.length-1)=c.toNat)):=by
 by_cases h:0<l.length
 ·have h1:l.length-1<l.length:=by omega
  obtain⟨e1,e2⟩:=ch_drop h1;have e3:l.drop (l.length-1+1)= []:=List.drop_eq_nil_of_le (by omega);unfold hasS;rw[List.length_singleton,e1,e3,e2];simp[h,show 1≤l.length by omega,beq_toNat]
 ·have:l= []:=List.eq_nil_of_length_eq_zero (by omega)
  subst this;simp[hasS]
def refOk(l:List UInt8):Bool:=decide (2<l.length)&&decide (ch l 0=76)&&decide (ch l (l.length-1)=59)&&nameB ((l.take (l.length-1)).drop 1)
theorem refOk_eq(l:List UInt8):refOk l=nmOk l∧(refOk l=true→nmText l=(l.take (l.length-1)).drop 1):=by
 have hA:hasP l [76]=(decide (0<l.length)&&decide (ch l 0=76)):=hasP_one l 76
 have hnil:nameB []=false:=by decide
 by_cases h0:0<l.length∧ch l 0=76
 ·have hP:hasP l [76]=true:=by rw[hA];simp[h0]
  have hc:cutL l=l.drop 1:=by unfold cutL;rw[if_pos hP]
  have hB:hasS (l.drop 1) [59]=(decide (0<l.length-1)&&decide (ch (l.drop 1) (l.length-1-1)=59)):=by
   have:=hasS_one (l.drop 1) 59
   simpa using this
  have hch:1<l.length→ch (l.drop 1) (l.length-1-1)=ch l (l.length-1):=by
   intro h1;unfold ch;rw[List.getD_eq_getElem?_getD,List.getD_eq_getElem?_getD,List.getElem?_drop]
   congr 3
   omega
  have htx:hasS (l.drop 1) [59]=true→nmText l=(l.take (l.length-1)).drop 1:=by
   intro h;unfold nmText;rw[hc,if_pos h,List.drop_take];simp
  by_cases h1:1<l.length∧ch l (l.length-1)=59
  ·have hS:hasS (l.drop 1) [59]=true:=by rw[hB,hch h1.1];simp[h1];omega
   refine⟨?_,fun _=>htx hS⟩;unfold refOk nmOk;rw[hP,hc,hS,htx hS]
   by_cases h2:2<l.length
   ·simp[h0,h1,h2]
   ·have:(l.take (l.length-1)).drop 1= []:=List.drop_eq_nil_of_le (by simp;omega)
    rw[this,hnil];simp
  ·have hS:hasS (l.drop 1) [59]=false:=by
    rw[hB]
    by_cases h2:1<l.length
    ·rw[hch h2];simp;intro _;intro h3;exact h1 ⟨h2,h3⟩
    ·simp;omega
   have e:refOk l=false:=by
    unfold refOk
    by_cases h2:2<l.length
    ·simp;intro _ _ h3;exact absurd ⟨by omega,h3⟩ h1
    ·simp[h2]
   refine⟨?_,fun h=>by rw[e]at h;cases h⟩;rw[e];unfold nmOk;rw[hc,hS];simp
 ·have hP:hasP l [76]=false:=by
   rw[hA];simp;intro h1 h2;exact h0 ⟨h1,h2⟩
  have e:refOk l=false:=by
   unfold refOk;simp;intro h1 h2;exact absurd ⟨by omega,h2⟩ h0
  refine⟨?_,fun h=>by rw[e]at h;cases h⟩;rw[e];unfold nmOk;rw[hP];simp
theorem rank_at(l:List UInt8)(n:Nat)(h:n<rank l):n<l.length∧ch l n=91:=by
 have hb:=rank_base l
 have hlt:n<l.length:=by omega
 refine⟨hlt,?_⟩
 have h1:(l.takeWhile (· ==91))[n]?=l[n]?:=by
  have hp:l.takeWhile (· ==91)<+:l:=List.takeWhile_prefix _;obtain⟨t,ht⟩:=hp
  conv=>rhs;rw[←ht]
  rw[List.getElem?_append_left h]
 have h2:(l.takeWhile (· ==91))[n]'h∈l.takeWhile (· ==91):=List.getElem_mem h;have h3:=List.all_eq_true.1 (List.all_takeWhile (p:=(· ==(91:UInt8))) (l:=l)) _ h2;rw[List.getElem?_eq_getElem h,List.getElem?_eq_getElem hlt]at h1
 injection h1 with h1
 rw[(ch_drop hlt).2,←h1]
 have h4:(l.takeWhile (· ==91))[n]'h=91:=by simpa using h3
 rw[h4];rfl
theorem rank_end(l:List UInt8)(h:rank l<l.length):ch l (rank l)≠91:=by
 obtain⟨e1,e2⟩:=ch_drop h;rw[drop_rank]at e1;intro h2;rw[e2]at h2;have h3:l[rank l]=91:=UInt8.toNat_inj.1 h2;have h4:=List.head_dropWhile_not (p:=(· ==(91:UInt8))) (l:=l) (by intro e;unfold base at e1;rw[e]at e1;cases e1);unfold base at e1;simp only[e1,List.head_cons]at h4;rw[h3]at h4;simp at h4
theorem refRight_j1(l:List UInt8)(hl:l.length≤9223372036854775806):Ev (fun k=>hornbookref02_Right.j1 k (mk l) (rank l:Int)) (rightB l):=by
 have hb:=rank_base l
 refine Ev.step (fun k=>by rw[hornbookref02_Right.j1]) ?_
 have ed:(mk l).extract ((rank l:Nat):Int).toNat (mk l).size=mk (base l):=by
  rw[Int.toNat_natCast,extract_to_end,drop_rank]
 simp only[ed,toList_mk];simp only[size_mk];refine Ev.ite (fun h=>Ev.pure ?_) (fun h=>?_)
 ·simp[rightB,show¬rank l≤4 by omega]
 have hr:decide (rank l≤4)=true:=by simp;omega
 refine Ev.pos (by omega) (Ev.pos (by omega) ?_)
 have hx:rightB l=(nmOk (base l)||plainB (base l)):=by unfold rightB;rw[hr,Bool.true_and]
 rw[hx];obtain⟨he,ht⟩:=refOk_eq (base l);refine Ev.ite (fun h1=>Ev.pure (by simp[plainB,h1])) (fun h1=>Ev.ite (fun h2=>Ev.pure (by simp[plainB,h2])) (fun h2=>Ev.ite (fun h3=>Ev.pure (by simp[plainB,h3])) (fun h3=>?_)))
 have hp:plainB (base l)=false:=by simp[plainB,h1,h2,h3]
 rw[hp,Bool.or_false,←he];refine Ev.ite (fun h4=>?_) (fun h4=>Ev.pure (by simp[refOk];intro h;omega))
 have hw:wrap64 (((base l).length:Int)-1)=(((base l).length-1:Nat):Int):=by rw[wrap_in _ (by omega) (by omega)];omega
 simp only[hw,bt_mk (base l) 0 0 rfl (show 0<(base l).length by omega)]
 refine Ev.pos (by omega) ?_
 refine Ev.ite (fun h5=>?_) (fun h5=>Ev.pure (by simp[refOk];intro _ h;omega));simp only[bt_mk (base l) ((base l).length-1) _ rfl (show(base l).length-1<(base l).length by omega)];refine Ev.pos (by omega) (Ev.pos (by omega) ?_);refine Ev.ite (fun h6=>?_) (fun h6=>Ev.pure (by simp[refOk];intro _ _ h;omega));refine Ev.pos (by omega) (Ev.pos (by omega) ?_);simp only[Int.toNat_natCast,extract_mk]
 have hN:=refName (((base l).take ((base l).length-1)).drop 1) (by simp;omega)
 refine Ev.bind hN (Ev.pure ?_);simp[refOk,show 2<(base l).length by omega,show ch (base l) 0=76 by omega,show ch (base l) ((base l).length-1)=59 by omega]
theorem refRight_l0(l:List UInt8)(hl:l.length≤9223372036854775806): ∀d n,rank l-n=d→n≤rank l→Ev (fun k=>hornbookref02_Right.l0 k (mk l) (n:Int)) (rightB l):=by
 intro d
 have hb:=rank_base l
 induction d with
 |zero=>
  intro n hd hn
  obtain rfl:n=rank l:=by omega
  have hj:=refRight_j1 l hl
  by_cases hlt:rank l<l.length
  ·refine Ev.step (fun k=>by rw[hornbookref02_Right.l0,if_pos (by rw[size_mk];omega),if_pos (by omega),bt_mk l (rank l) _ rfl hlt,if_neg (by have:=rank_end l hlt;omega)]) hj
  ·refine Ev.step (fun k=>by rw[hornbookref02_Right.l0,if_neg (by rw[size_mk];omega)]) hj
 |succ d ih=>
  intro n hd hn;obtain⟨hlt,hc⟩:=rank_at l n (by omega)
  have hw:wrap64 ((n:Int)+1)=((n+1:Nat):Int):=by rw[wrap_in _ (by omega) (by omega)];rfl
  exact Ev.step (fun k=>by rw[hornbookref02_Right.l0,if_pos (by rw[size_mk];omega),if_pos (by omega),bt_mk l n _ rfl hlt,if_pos (by omega),hw]) (ih (n+1) (by omega) (by omega))
theorem refRight(l:List UInt8)(hl:l.length≤9223372036854775806):Ev (fun k=>hornbookref02_Right.f k (mk l)) (rightB l):=
 refRight_l0 l hl (rank l) 0 (by omega) (by omega)
end Go.Proofs.PL
