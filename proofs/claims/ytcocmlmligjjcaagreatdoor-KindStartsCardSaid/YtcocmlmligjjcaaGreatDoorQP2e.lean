-- SQUEEZED
/- Layer 2, plain: Split; what is taken apart was put together. -/
import Derived.Test.YtcocmlmligjjcaaGreatDoorQ7
import Derived.Test.YtcocmlmligjjcaaGreatDoorQ8
import Derived.Test.YtcocmlmligjjcaaGreatDoorQP2d
set_option linter.unusedVariables false
set_option linter.unusedSimpArgs false
namespace Go.Proofs.PL
open Go.RowKit Go.Proofs.YtcocmlmligjjcaaGreatDoorW.PrintWords Go.Proofs.YtcocmlmligjjcaaGreatDoor.Q
def Parse(ts:List (List UInt8))(s:List UInt8):Prop:= ∃(us:List (List UInt8)) (g:List UInt8),us.all rightB=true∧gOk g=true∧ts.length+us.length≤6∧s=us.flatten++41::g
theorem hasP_41(s:List UInt8):strings_HasPrefix.f (mk s) (⟨#[41]⟩:ByteArray)=some (hasP s [41]):=by
 unfold strings_HasPrefix.f;rw[show(⟨#[41]⟩:ByteArray)=mk [41]from rfl,hasPrefix_eq];rfl
theorem cutP_41(s:List UInt8):strings_CutPrefix.f (mk s) (⟨#[41]⟩:ByteArray)=some (if hasP s [41]then(mk (s.drop 1),true)else(mk s,false)):=by
 rw[show(⟨#[41]⟩:ByteArray)=mk [41]from rfl,cutPrefix_eq];rfl
theorem right_not41{t:List UInt8}(h:rightB t=true):ch t 0≠41:=by
 intro e
 rcases rightB_ch h with⟨h9,_⟩|⟨_,_,⟨h7,_⟩|hp⟩
 ·omega
 ·omega
 ·rcases plainB_ch hp with h|h|h<;>(rw[h]at e;simp[ch]at e)
theorem ch_append{t:List UInt8}(h:0<t.length)(r:List UInt8):ch (t++r) 0=ch t 0:=by
 cases t with
 |nil=>simp at h
 |cons a t=>rfl
theorem parse_first{ts us:List (List UInt8)}{g s:List UInt8}{t:List UInt8}(ht:rightB t=true)(hs:s=(t::us).flatten++41::g):
  okF s=true∧s.take (fl s)=t∧s.drop (fl s)=us.flatten++41::g:=by
 have e:s=t++(us.flatten++41::g):=by rw[hs];simp
 obtain⟨h1,h2⟩:=okF_of t (us.flatten++41::g) ht;rw[←e]at h1 h2;refine⟨h1,?_,?_⟩
 ·rw[h2,e];simp
 ·rw[h2,e];simp
theorem split_err_j1(s:List UInt8)(ts:List (List UInt8))(h:hasP s [41]=false):Ev (fun k=>desc_Split.j1 k (mk s) true (mks ts) false) ((⟨#[]⟩:ByteArray),([]:List ByteArray),(5:Int)):=by
 refine Ev.step (fun k=>by rw[desc_Split.j1,if_neg (by decide),cutP_41,h]) ?_
 refine Ev.then rfl (Ev.pos rfl ?_);exact Ev.step (f:=fun _=>some ((⟨#[]⟩:ByteArray),([]:List ByteArray),(5:Int))) (fun k=>by rw[desc_Split.j2];rfl) (Ev.pure rfl)
theorem split_err_l0(s:List UInt8)(ts:List (List UInt8)):Ev (fun k=>desc_Split.l0 k (mk s) false (mks ts)) ((⟨#[]⟩:ByteArray),([]:List ByteArray),(5:Int)):=by
 refine Ev.step (fun k=>by rw[desc_Split.l0,if_neg (by decide)]) ?_
 refine Ev.step (fun k=>by rw[desc_Split.j1,if_neg (by decide),cutP_41]) ?_
 refine Ev.then rfl (Ev.neg (by decide) ?_);exact Ev.step (f:=fun _=>some ((⟨#[]⟩:ByteArray),([]:List ByteArray),(5:Int))) (fun k=>by rw[desc_Split.j2];rfl) (Ev.pure rfl)
theorem ref_err_j3(x s:List UInt8)(ts:List (List UInt8)):Ev (fun k=>hornbookref02_Split.j3 k (mk x) (mks ts) (mk s) true) ((⟨#[]⟩:ByteArray),([]:List ByteArray),(5:Int)):=
 Ev.step (f:=fun _=>some ((⟨#[]⟩:ByteArray),([]:List ByteArray),(5:Int))) (fun k=>by rw[hornbookref02_Split.j3];rfl) (Ev.pure rfl)
theorem ref_err_j2(x s:List UInt8)(ts:List (List UInt8))(h:ch s 0≠41):Ev (fun k=>hornbookref02_Split.j2 k (mk x) (mks ts) (mk s) false) ((⟨#[]⟩:ByteArray),([]:List ByteArray),(5:Int)):=by
 refine Ev.step (fun k=>by rw[hornbookref02_Split.j2,if_neg (by decide),size_mk]) ?_
 refine Ev.ite (fun _=>ref_err_j3 x s ts) (fun h0=>Ev.pos (by omega) ?_);simp only[bt_mk s 0 0 rfl (show 0<s.length by omega)]
 have e:((ch s 0:Int) !=41)=true:=by simp;omega
 rw[e];exact ref_err_j3 x s ts
structure Both (ts:List (List UInt8)) (s:List UInt8) (P R:Nat→Option (ByteArray×List ByteArray×Int)):Prop where
 mk::(out: ∃(us:List (List UInt8)) (g:List UInt8) (e:Int),Ev P (PL.mk g,mks us,e)∧Ev R (PL.mk g,mks us,e)∧
  ((e=0∧sigB g us=(40::(ts.flatten++s),0))∨(e=5∧g= []∧us= []∧ ¬Parse ts s)))
theorem Both.err{ts:List (List UInt8)}{s:List UInt8}{P R:Nat→Option (ByteArray×List ByteArray×Int)}(hp:Ev P ((⟨#[]⟩:ByteArray),([]:List ByteArray),(5:Int)))(hr:Ev R ((⟨#[]⟩:ByteArray),([]:List ByteArray),(5:Int)))(h: ¬Parse ts s):Both ts s P R:=
 ⟨[],[],5,hp,hr, .inr ⟨rfl,rfl,rfl,h⟩⟩
theorem split_run: ∀(m:Nat) (s:List UInt8) (ts:List (List UInt8)),s.length≤m→ts.length≤7→ts.all rightB=true→(40::(ts.flatten++s)).length≤9223372036854775806→
  Both ts s (fun k=>desc_Split.l0 k (mk s) true (mks ts)) (fun k=>hornbookref02_Split.l0 k (mk (40::(ts.flatten++s))) (mks ts) (mk s)):=by
 intro m
 induction m with
 |zero=>
  intro s ts hm h7 hall hl;obtain rfl:s= []:=List.eq_nil_of_length_eq_zero (by omega)
  have hp0:hasP [] [41]=false:=by decide
  refine Both.err ?_ ?_ ?_
  ·refine Ev.step (fun k=>by rw[desc_Split.l0,if_pos rfl,hasP_41,hp0]) ?_
   refine Ev.then rfl (Ev.neg (by decide) ?_)
   by_cases h6:(ts.length:Int)≤6
   ·have e:decide (((mks ts).length:Int)≤6)=true:=by simp;omega
    rw[e];obtain⟨d,r,hf,hok⟩:=first_ev [] (by simp)
    have hF:okF []=false:=by decide
    rw[hF]at hf
    refine Ev.step (fun k=>by rw[desc_Split.j1,if_pos rfl]) ?_
    refine Ev.bind hf (Ev.neg (by simp) ?_);exact split_err_l0 r ts
   ·have e:decide (((mks ts).length:Int)≤6)=false:=by simp;omega
    rw[e];exact split_err_j1 [] ts hp0
  ·refine Ev.step (fun k=>by rw[hornbookref02_Split.l0,if_neg (by simp)]) ?_
   exact ref_err_j2 _ [] ts (by decide)
  ·rintro⟨us,g,_,_,_,e⟩
   have:=congrArg List.length e;simp at this
 |succ m ih=>
  intro s ts hm h7 hall hl
  have hlen:s.length≤9223372036854775806:=by simp only[List.length_cons,List.length_append]at hl;omega
  have hP:=hasP_one s 41
  by_cases hs0:s.length=0
  ·exact ih s ts (by omega) h7 hall hl
  by_cases h41:ch s 0=41
  ·have hp:hasP s [41]=true:=by rw[hP];simp;exact⟨by omega,h41⟩
   have hsf:s=41::s.drop 1:=by
    cases s with
    |nil=>simp at hs0
    |cons a s=>rw [ch_cons]at h41;rw[UInt8.toNat_inj.1 (show a.toNat=(41:UInt8).toNat from h41)];simp
   have hts: ∀t∈ts,t.length≤9223372036854775806:=fun t ht=>by
    have:=(rightB_len (List.all_eq_true.1 hall t ht)).2;omega
   have hsig:=sig_ev (s.drop 1) ts (by simp;omega) hts
   have hrsig:=refSig_ev (s.drop 1) ts (by simp;omega) hts
   have hp1:Ev (fun k=>desc_Split.l0 k (mk s) true (mks ts)) (if(sigB (s.drop 1) ts).2=0 then(mk (s.drop 1),mks ts,0)else((⟨#[]⟩:ByteArray),([]:List ByteArray),(5:Int))):=by
    refine Ev.step (fun k=>by rw[desc_Split.l0,if_pos rfl,hasP_41,hp]) ?_
    refine Ev.then rfl (Ev.pos rfl ?_)
    refine Ev.step (fun k=>by rw[desc_Split.j1,if_neg (by decide),cutP_41,hp]) ?_
    refine Ev.then rfl (Ev.pos rfl ?_)
    refine Ev.step (fun k=>by rw[desc_Split.j2,if_neg (by simp)]) ?_
    refine Ev.bind hsig ?_
    refine Ev.ite (fun h=>Ev.pure ?_) (fun h=>Ev.pure ?_)
    ·have h':(sigB (s.drop 1) ts).2=0:=h
     rw[if_pos h'];rfl
    ·have h': ¬(sigB (s.drop 1) ts).2=0:=h
     rw[if_neg h']
   have hr1:Ev (fun k=>hornbookref02_Split.l0 k (mk (40::(ts.flatten++s))) (mks ts) (mk s)) (if(sigB (s.drop 1) ts).2=0 then(mk (s.drop 1),mks ts,0)else((⟨#[]⟩:ByteArray),([]:List ByteArray),(5:Int))):=by
    refine Ev.step (fun k=>by rw[hornbookref02_Split.l0,size_mk,if_pos (by omega),if_pos (by omega),bt_mk s 0 0 rfl (by omega),if_pos (by omega)]) ?_
    refine Ev.step (fun k=>by rw[hornbookref02_Split.j2,if_neg (by decide),size_mk,if_neg (by omega),if_pos (by omega),bt_mk s 0 0 rfl (by omega)]) ?_
    have e:((ch s 0:Int) !=41)=false:=by rw[h41];rfl
    rw[e];have e1:(mk s).extract 1 (mk s).size=mk (s.drop 1):=extract_to_end s 1
    refine Ev.step (fun k=>by rw[hornbookref02_Split.j3,if_neg (by decide),if_pos (by rw[size_mk];omega),e1]) ?_
    refine Ev.bind hrsig ?_
    by_cases h:(sigB (s.drop 1) ts).2=0
    ·have hok:sigB (s.drop 1) ts=(sigTx (s.drop 1) ts,0):=by
      unfold sigB at h ⊢
      split at h
      ·simp at h
      ·split at h
       ·rename_i h1 h2;rw[if_neg h1,if_pos h2]
       ·simp at h
     rw[hok]
     have e2:sigTx (s.drop 1) ts=40::(ts.flatten++s):=by unfold sigTx;rw[←hsf]
     refine Ev.pos rfl (Ev.pos (by simp only[toList_mk];rw[e2]) (Ev.pure ?_));simp
    ·refine Ev.neg h (Ev.pure ?_)
     rw[if_neg h]
   by_cases h:(sigB (s.drop 1) ts).2=0
   ·rw[if_pos h]at hp1 hr1
    have hok:sigB (s.drop 1) ts=(sigTx (s.drop 1) ts,0):=by
     unfold sigB at h ⊢
     split at h
     ·simp at h
     ·split at h
      ·rename_i h1 h2;rw[if_neg h1,if_pos h2]
      ·simp at h
    refine⟨ts,s.drop 1,0,hp1,hr1, .inl ⟨rfl,?_⟩⟩;rw[hok];unfold sigTx;rw[←hsf]
   ·rw[if_neg h]at hp1 hr1
    refine Both.err hp1 hr1 ?_
    rintro⟨us,g,hu,hg,h6,e⟩
    cases us with
    |nil=>
     have eg:g=s.drop 1:=by rw[e];simp
     subst eg;simp only[List.length_nil,Nat.add_zero]at h6;apply h;unfold sigB;rw[if_neg (by omega),hall,hg];rfl
    |cons t us=>
     simp only[List.all_cons,Bool.and_eq_true]at hu
     have e3:s=t++(us.flatten++41::g):=by rw[e];simp
     have:=ch_append (rightB_len hu.1).1 (us.flatten++41::g);rw[←e3,h41]at this;exact right_not41 hu.1 this.symm
  ·have hp:hasP s [41]=false:=by rw[hP];simp;intro _;exact h41
   have h41': ¬(ch s 0:Int)=41:=by omega
   by_cases h6:ts.length≤6
   ·have e6:decide (((mks ts).length:Int)≤6)=true:=by simp;omega
    obtain⟨d,r,hf,hok⟩:=first_ev s hlen
    have hend:=refEnd_ev s hlen
    by_cases hF:okF s=true
    ·obtain⟨hd,hr⟩:=hok hF
     obtain⟨f1,f2,f3⟩:=okF_form hF
     have fp:=fl_pos s
     rw[hF]at hf hend;subst hd hr
     have hall':(ts++ [s.take (fl s)]).all rightB=true:=by rw[List.all_append,hall];simpa using f2
     have hflat:40::((ts++ [s.take (fl s)]).flatten++s.drop (fl s))=40::(ts.flatten++s):=by
      simp
     obtain⟨us,g,e,i1,i2,i3⟩:=(ih (s.drop (fl s)) (ts++ [s.take (fl s)]) (by simp;omega) (by simp;omega) hall' (by rw[hflat];exact hl)).out;rw[hflat]at i2 i3;refine⟨us,g,e,?_,?_,?_⟩
     ·refine Ev.step (fun k=>by rw[desc_Split.l0,if_pos rfl,hasP_41,hp]) ?_
      refine Ev.then rfl (Ev.neg (by decide) ?_);rw[e6]
      refine Ev.step (fun k=>by rw[desc_Split.j1,if_pos rfl]) ?_
      refine Ev.bind hf (Ev.pos rfl (Ev.pos (by simp;omega) ?_));simp only[snoc_mks];exact i1
     ·refine Ev.step (fun k=>by rw[hornbookref02_Split.l0,size_mk,if_pos (by omega),if_pos (by omega),bt_mk s 0 0 rfl (by omega),if_neg h41',e6]) ?_
      refine Ev.step (fun k=>by rw[hornbookref02_Split.j2,if_pos rfl]) ?_
      refine Ev.bind hend ?_
      simp only[if_true];refine Ev.neg (by omega) (Ev.pos (by omega) (Ev.pos (by rw[size_mk];omega) (Ev.pos (by simp;omega) ?_)))
      have e1:(mk s).extract 0 ((fl s:Nat):Int).toNat=mk (s.take (fl s)):=by rw[extract_mk];simp
      have e2:(mk s).extract ((fl s:Nat):Int).toNat (mk s).size=mk (s.drop (fl s)):=by rw[extract_to_end];simp
      simp only[e1,e2,snoc_mks];exact i2
     ·rcases i3 with⟨j1,j2⟩|⟨j1,j2,j3,j4⟩
      ·exact .inl ⟨j1,j2⟩
      ·refine .inr ⟨j1,j2,j3,?_⟩
       rintro⟨us',g',hu,hg,hl6,e'⟩
       cases us' with
       |nil=>
        simp only[List.flatten_nil,List.nil_append]at e';rw[e']at h41;exact h41 rfl
       |cons t us'=>
        simp only[List.all_cons,Bool.and_eq_true]at hu;obtain⟨_,k2,k3⟩:=parse_first (ts:=ts) hu.1 e';exact j4 ⟨us',g',hu.2,hg,by simp at hl6 ⊢;omega,k3⟩
    ·have hF':okF s=false:=by simpa using hF
     rw[hF']at hf hend
     refine Both.err ?_ ?_ ?_
     ·refine Ev.step (fun k=>by rw[desc_Split.l0,if_pos rfl,hasP_41,hp]) ?_
      refine Ev.then rfl (Ev.neg (by decide) ?_);rw[e6]
      refine Ev.step (fun k=>by rw[desc_Split.j1,if_pos rfl]) ?_
      refine Ev.bind hf (Ev.neg (by simp) ?_);exact split_err_l0 r ts
     ·refine Ev.step (fun k=>by rw[hornbookref02_Split.l0,size_mk,if_pos (by omega),if_pos (by omega),bt_mk s 0 0 rfl (by omega),if_neg h41',e6]) ?_
      refine Ev.step (fun k=>by rw[hornbookref02_Split.j2,if_pos rfl]) ?_
      refine Ev.bind hend ?_
      exact Ev.pos rfl (Ev.pure rfl)
     ·rintro⟨us',g',hu,hg,hl6,e'⟩
      cases us' with
      |nil=>
       simp only[List.flatten_nil,List.nil_append]at e';rw[e']at h41;exact h41 rfl
      |cons t us'=>
       simp only[List.all_cons,Bool.and_eq_true]at hu;obtain⟨k1,_,_⟩:=parse_first (ts:=ts) hu.1 e';exact hF k1
   ·have e6:decide (((mks ts).length:Int)≤6)=false:=by simp;omega
    refine Both.err ?_ ?_ ?_
    ·refine Ev.step (fun k=>by rw[desc_Split.l0,if_pos rfl,hasP_41,hp]) ?_
     refine Ev.then rfl (Ev.neg (by decide) ?_);rw[e6];exact split_err_j1 s ts hp
    ·refine Ev.step (fun k=>by rw[hornbookref02_Split.l0,size_mk,if_pos (by omega),if_pos (by omega),bt_mk s 0 0 rfl (by omega),if_neg h41',e6]) ?_
     exact ref_err_j2 _ s ts h41
    ·rintro⟨us',g',hu,hg,hl6,e'⟩
     omega
theorem split_both(l:List UInt8)(hl:l.length≤9223372036854775806):
  ∃(us:List (List UInt8)) (g:List UInt8) (e:Int),Ev (fun k=>desc_Split.f k (mk l)) (mk g,mks us,e)∧Ev (fun k=>hornbookref02_Split.f k (mk l)) (mk g,mks us,e)∧
   ((e=0∧sigB g us=(l,0))∨(e=5∧g= []∧us= []∧ ∀us' g',sigB g' us'≠(l,0))):=by
 have hP:=hasP_one l 40
 have hcut:strings_CutPrefix.f (mk l) (⟨#[40]⟩:ByteArray)=some (if hasP l [40]then(mk (l.drop 1),true)else(mk l,false)):=by
  rw[show(⟨#[40]⟩:ByteArray)=mk [40]from rfl,cutPrefix_eq];rfl
 have hsg: ∀us' g',sigB g' us'=(l,0)→l=40::(us'.flatten++41::g')∧us'.all rightB=true∧gOk g'=true∧us'.length≤6:=by
  intro us' g' h;unfold sigB at h;split at h
  ·simp at h
  ·split at h
   ·rename_i h1 h2
    simp only[Prod.mk.injEq,and_true]at h;simp only[Bool.and_eq_true]at h2;exact⟨h.symm,h2.1,h2.2,by omega⟩
   ·simp at h
 by_cases h0:0<l.length∧ch l 0=40
 ·have hp:hasP l [40]=true:=by rw[hP];simp;exact h0
  have hlf:l=40::l.drop 1:=by
   cases l with
   |nil=>simp at h0
   |cons a s=>rw [ch_cons]at h0;rw[UInt8.toNat_inj.1 (show a.toNat=(40:UInt8).toNat from h0.2)];simp
  obtain⟨us,g,e,i1,i2,i3⟩:=(split_run (l.drop 1).length (l.drop 1) [] (Nat.le_refl _) (by simp) rfl (by simpa [←hlf]using hl)).out;simp only[List.flatten_nil,List.nil_append]at i2 i3;rw[←hlf]at i2 i3;refine⟨us,g,e,?_,?_,?_⟩
  ·unfold desc_Split.f
   refine Ev.then hcut ?_
   rw[if_pos hp];exact i1
  ·unfold hornbookref02_Split.f
   simp only[size_mk];refine Ev.neg (by omega) (Ev.pos (by omega) ?_);simp only[bt_mk l 0 0 rfl h0.1]
   have e4:((ch l 0:Int) !=40)=false:=by rw[h0.2];rfl
   rw[e4]
   refine Ev.step (fun k=>by rw[hornbookref02_Split.j0,if_neg (by decide),size_mk,if_pos (by omega)]) ?_
   have e1:(mk l).extract 1 l.length=mk (l.drop 1):=by rw[extract_mk,List.take_length]
   rw[e1];exact i2
  ·rcases i3 with⟨j1,j2⟩|⟨j1,j2,j3,j4⟩
   ·exact .inl ⟨j1,j2⟩
   ·refine .inr ⟨j1,j2,j3,fun us' g' h=>?_⟩
    obtain⟨k1,k2,k3,k4⟩:=hsg us' g' h;exact j4 ⟨us',g',k2,k3,by simpa using k4,by rw[k1];simp⟩
 ·have hp:hasP l [40]=false:=by
   rw[hP];simp;intro h1 h2;exact h0 ⟨h1,h2⟩
  refine⟨[],[],5,?_,?_, .inr ⟨rfl,rfl,rfl,fun us' g' h=>?_⟩⟩
  ·unfold desc_Split.f
   refine Ev.then hcut ?_
   rw[if_neg (by rw[hp];decide)];exact split_err_l0 l []
  ·unfold hornbookref02_Split.f
   have hj:Ev (fun k=>hornbookref02_Split.j0 k (mk l) ([]:List ByteArray) true) ((⟨#[]⟩:ByteArray),([]:List ByteArray),(5:Int)):=
    Ev.step (f:=fun _=>some ((⟨#[]⟩:ByteArray),([]:List ByteArray),(5:Int))) (fun k=>by rw[hornbookref02_Split.j0];rfl) (Ev.pure rfl)
   simp only[size_mk];refine Ev.ite (fun _=>hj) (fun h1=>Ev.pos (by omega) ?_);simp only[bt_mk l 0 0 rfl (show 0<l.length by omega)]
   have e4:((ch l 0:Int) !=40)=true:=by simp;omega
   rw[e4];exact hj
  ·obtain⟨k1,_⟩:=hsg us' g' h
   rw[k1]at h0;exact h0 ⟨by simp,rfl⟩
end Go.Proofs.PL
