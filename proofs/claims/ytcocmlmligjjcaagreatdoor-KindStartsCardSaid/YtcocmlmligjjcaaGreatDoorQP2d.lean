-- SQUEEZED
/- Layer 2, plain: what a method gives and takes, put together and taken apart: program and reference. -/
import Derived.Test.YtcocmlmligjjcaaGreatDoorQ5
import Derived.Test.YtcocmlmligjjcaaGreatDoorQ6
import Derived.Test.YtcocmlmligjjcaaGreatDoorQ7
import Derived.Test.YtcocmlmligjjcaaGreatDoorQ8
import Derived.Test.YtcocmlmligjjcaaGreatDoorQP2c
set_option linter.unusedVariables false
set_option linter.unusedSimpArgs false
namespace Go.Proofs.PL
open Go.RowKit Go.Proofs.YtcocmlmligjjcaaGreatDoorW.PrintWords Go.Proofs.YtcocmlmligjjcaaGreatDoor.Q
def mks(ls:List (List UInt8)):List ByteArray:=ls.map mk
@[simp] theorem length_mks (ls : List (List UInt8)) : (mks ls).length = ls.length := by simp [mks]
theorem ex_mks: ∀l:List ByteArray,∃ls,l=mks ls
 | []=>⟨[],rfl⟩
 |s::l=>by
  obtain⟨a,rfl⟩:=ex_mk s;obtain⟨ls,rfl⟩:=ex_mks l;exact⟨a::ls,rfl⟩
theorem rd_mks(ls:List (List UInt8))(n:Nat)(i:Int)(hi:i=n)(h:n<ls.length):rdOf ByteArray.empty (mks ls) i=mk ls[n]:=by
 subst hi;unfold rdOf mks;simp[List.getD_eq_getElem?_getD,List.getElem?_eq_getElem h]
theorem snoc_mks(ls:List (List UInt8))(t:List UInt8):mks ls++ [mk t]=mks (ls++ [t]):=by simp[mks]
theorem join_none: ∀xs:List (List UInt8),Lib.join xs []=xs.flatten
 | []=>rfl
 | [x]=>by rw[Lib.join_one];simp
 |x::y::xs=>by
  have ih:=join_none (y::xs)
  unfold Lib.join at ih ⊢
  simp only[List.intercalate]at ih ⊢
  rw[List.intersperse_cons_cons]
  simp only[List.flatten_cons,List.nil_append]at ih ⊢
  rw[ih]
def gOk(g:List UInt8):Bool:=g== [86]||rightB g
def sigTx(g:List UInt8)(ts:List (List UInt8)):List UInt8:=40::(ts.flatten++41::g)
def sigB(g:List UInt8)(ts:List (List UInt8)):List UInt8×Int:=if ts.length>6 then([],2)else if ts.all rightB&&gOk g then(sigTx g ts,0)else([],10)
theorem flat_len: ∀ts:List (List UInt8),ts.all rightB=true→ts.flatten.length≤30*ts.length
 | [],_=>by simp
 |t::ts,h=>by
  simp only[List.all_cons,Bool.and_eq_true]at h;have:=flat_len ts h.2;have:=(rightB_len h.1).2;simp only[List.flatten_cons,List.length_append,List.length_cons];omega
theorem join_eq(ts:List (List UInt8))(h:ts.flatten.length≤140737488355328)(h2:ts.length≤140737488355328):strings_Join.f (mks ts) (⟨#[]⟩:ByteArray)=some (mk ts.flatten):=by
 unfold strings_Join.f
 have e:(mks ts).map (fun x=>x.data.toList)=ts:=by
  unfold mks;rw[List.map_map]
  conv=>rhs;rw[←List.map_id ts]
  exact List.map_congr_left fun a _=>by simp
 have e2:(⟨#[]⟩:ByteArray).data.toList= []:=rfl;rw[e,e2,join_none,if_pos ⟨by simpa using h2,h⟩];rfl
theorem sig_l0(g:List UInt8)(ts:List (List UInt8))(hg:g.length≤9223372036854775806)(hts: ∀t∈ts,t.length≤9223372036854775806)(h6:ts.length≤6):
  ∀d n,ts.length-n=d→n≤ts.length→(ts.take n).all rightB=true→Ev (fun k=>desc_Sig.l0 k (mk g) (mks ts) (mks ts) (ts.length:Int) (n:Int)) (mk (sigB g ts).1,(sigB g ts).2):=by
 intro d
 induction d with
 |zero=>
  intro n hd hn hall
  obtain rfl:n=ts.length:=by omega
  rw[List.take_length]at hall
  have hf:=flat_len ts hall
  have hj:=join_eq ts (by omega) (by omega)
  have e1:(⟨#[40]⟩:ByteArray)=mk [40]:=rfl;have e2:(⟨#[41]⟩:ByteArray)=mk [41]:=rfl
  refine Ev.step (fun k=>by rw[desc_Sig.l0,if_neg (by omega)]) ?_
  simp only[toList_mk,e1,e2]
  have hs:gOk g=true→(mk (sigB g ts).1,(sigB g ts).2)=(mk ([40]++ts.flatten++ [41]++g),(0:Int)):=by
   intro h;simp[sigB,sigTx,h,hall,show¬6<ts.length by omega]
  refine Ev.ite (fun h=>?_) (fun h=>Ev.bind (right_ev g hg) (Ev.ite (fun h1=>?_) (fun h1=>?_)))
  ·rw[hs (by simp[gOk,h])]
   refine Ev.then hj ?_
   simp only[append_mk,size_mk];refine Ev.pos (by omega) (Ev.pos (by simp only[List.length_append,List.length_cons,List.length_nil];omega) (Ev.pos (by subst h;simp only[List.length_append,List.length_cons,List.length_nil];omega) (Ev.pure rfl)))
  ·have h2:rightB g=true:=h1
   have:=(rightB_len h2).2;rw[hs (by simp[gOk,h2])]
   refine Ev.then hj ?_
   simp only[append_mk,size_mk];refine Ev.pos (by omega) (Ev.pos (by simp only[List.length_append,List.length_cons,List.length_nil];omega) (Ev.pos (by simp only[List.length_append,List.length_cons,List.length_nil];omega) (Ev.pure rfl)))
  ·have h2:gOk g=false:=by simp[gOk,h];simpa using h1
   refine Ev.pure ?_
   simp[sigB,h2,show¬6<ts.length by omega,lit0]
 |succ d ih=>
  intro n hd hn hall
  have hlt:n<ts.length:=by omega
  have hw:wrap64 ((n:Int)+1)=((n+1:Nat):Int):=by rw[wrap_in _ (by omega) (by omega)];rfl
  refine Ev.step (fun k=>by rw[desc_Sig.l0,if_pos (by omega),if_pos (by omega),if_pos (by simp;omega),rd_mks ts n _ rfl hlt,hw]) ?_
  refine Ev.bind (right_ev ts[n] (hts _ (List.getElem_mem hlt))) (Ev.ite (fun h=>?_) (fun h=>Ev.pure ?_))
  ·refine ih (n+1) (by omega) (by omega) ?_
   rw[List.take_succ_eq_append_getElem hlt,List.all_append,hall]
   simpa using h
  ·have:ts.all rightB=false:=by
    rw[List.all_eq_false];exact⟨ts[n],List.getElem_mem hlt,by simpa using h⟩
   simp[sigB,this,show¬6<ts.length by omega,lit0]
theorem sig_ev(g:List UInt8)(ts:List (List UInt8))(hg:g.length≤9223372036854775806)(hts: ∀t∈ts,t.length≤9223372036854775806):
  Ev (fun k=>desc_Sig.f k (mk g) (mks ts)) (mk (sigB g ts).1,(sigB g ts).2):=by
 unfold desc_Sig.f;simp only[length_mks];refine Ev.ite (fun h=>Ev.pure ?_) (fun h=>sig_l0 g ts hg hts (by omega) ts.length 0 (by omega) (by omega) (by simp))
 have:ts.length>6:=by omega
 simp[sigB,this,lit0]
theorem refSig_l0(g:List UInt8)(ts:List (List UInt8))(hg:g.length≤9223372036854775806)(hts: ∀t∈ts,t.length≤9223372036854775806)(h6:ts.length≤6):
  ∀d n,ts.length-n=d→n≤ts.length→(ts.take n).all rightB=true→Ev (fun k=>hornbookref02_Sig.l0 k (mk g) (mks ts) (mk (40::(ts.take n).flatten)) (n:Int)) (mk (sigB g ts).1,(sigB g ts).2):=by
 intro d
 induction d with
 |zero=>
  intro n hd hn hall
  obtain rfl:n=ts.length:=by omega
  rw[List.take_length]at hall ⊢
  have hf:=flat_len ts hall
  have e2:(⟨#[41]⟩:ByteArray)=mk [41]:=rfl
  refine Ev.step (fun k=>by rw[hornbookref02_Sig.l0,if_neg (by simp)]) ?_
  simp only[toList_mk,e2,append_mk,size_mk]
  have hs:gOk g=true→(mk (sigB g ts).1,(sigB g ts).2)=(mk (40::ts.flatten++ [41]++g),(0:Int)):=by
   intro h;simp[sigB,sigTx,h,hall,show¬6<ts.length by omega]
  refine Ev.ite (fun h=>?_) (fun h=>Ev.bind (refRight g hg) (Ev.ite (fun h1=>?_) (fun h1=>?_)))
  ·rw[hs (by simp[gOk,h])]
   refine Ev.pos (by simp only[List.length_append,List.length_cons,List.length_nil];omega) (Ev.pos (by subst h;simp only[List.length_append,List.length_cons,List.length_nil];omega) (Ev.pure rfl))
  ·have h2:rightB g=true:=h1
   have:=(rightB_len h2).2;rw[hs (by simp[gOk,h2])];refine Ev.pos (by simp only[List.length_append,List.length_cons,List.length_nil];omega) (Ev.pos (by simp only[List.length_append,List.length_cons,List.length_nil];omega) (Ev.pure rfl))
  ·have h2:gOk g=false:=by simp[gOk,h];simpa using h1
   refine Ev.pure ?_
   simp[sigB,h2,show¬6<ts.length by omega,lit0]
 |succ d ih=>
  intro n hd hn hall
  have hlt:n<ts.length:=by omega
  have hw:wrap64 ((n:Int)+1)=((n+1:Nat):Int):=by rw[wrap_in _ (by omega) (by omega)];rfl
  refine Ev.step (fun k=>by rw[hornbookref02_Sig.l0,if_pos (by simp;omega),if_pos (by omega),rd_mks ts n _ rfl hlt,hw]) ?_
  refine Ev.bind (refRight ts[n] (hts _ (List.getElem_mem hlt))) (Ev.ite (fun h=>?_) (fun h=>Ev.pure ?_))
  ·have h1:rightB ts[n]=true:=h
   have hl1:=(rightB_len h1).2
   have hf:=flat_len (ts.take n) hall
   have e:mk (40::(ts.take n).flatten)++mk ts[n]=mk (40::(ts.take (n+1)).flatten):=by
    have ef:(ts.take (n+1)).flatten=(ts.take n).flatten++ts[n]:=by rw[List.take_succ_eq_append_getElem hlt,List.flatten_append];simp
    rw[append_mk,ef];rfl
   refine Ev.pos ?_ ?_
   ·simp only[size_mk,List.length_cons]
    simp only[List.length_take]at hf;omega
   ·rw[e]
    refine ih (n+1) (by omega) (by omega) ?_
    rw[List.take_succ_eq_append_getElem hlt,List.all_append,hall]
    simpa using h
  ·have:ts.all rightB=false:=by
    rw[List.all_eq_false];exact⟨ts[n],List.getElem_mem hlt,by simpa using h⟩
   simp[sigB,this,show¬6<ts.length by omega,lit0]
theorem refSig_ev(g:List UInt8)(ts:List (List UInt8))(hg:g.length≤9223372036854775806)(hts: ∀t∈ts,t.length≤9223372036854775806):
  Ev (fun k=>hornbookref02_Sig.f k (mk g) (mks ts)) (mk (sigB g ts).1,(sigB g ts).2):=by
 unfold hornbookref02_Sig.f;simp only[length_mks];refine Ev.ite (fun h=>Ev.pure ?_) (fun h=>?_)
 ·have:ts.length>6:=by omega
  simp[sigB,this,lit0]
 ·have:=refSig_l0 g ts hg hts (by omega) ts.length 0 (by omega) (by omega) (by simp)
  show Ev (fun k=>hornbookref02_Sig.l0 k (mk g) (mks ts) (mk [40]) 0) _
  simpa using this
def idx(b:List UInt8):Nat:=(b.takeWhile (· !=59)).length
def fl(l:List UInt8):Nat:=rank l+(if ch (base l) 0=76 then idx (base l)+1 else 1)
def okF(l:List UInt8):Bool:=decide (fl l≤l.length)&&rightB (l.take (fl l))
theorem rank_append(p r:List UInt8)(h:base p≠ []):rank (p++r)=rank p∧base (p++r)=base p++r:=by
 induction p with
 |nil=>exact absurd rfl h
 |cons a p ih=>
  by_cases ha:a=91
  ·subst ha
   have e1:=rank_cons p
   have e2:=rank_cons (p++r)
   rw[e1.2]at h;have:=ih h;rw[List.cons_append,e1.1,e1.2,e2.1,e2.2,this.1,this.2];exact⟨rfl,rfl⟩
  ·have hb:(a==(91:UInt8))=false:=by simpa using ha
   unfold rank base;simp[List.takeWhile_cons,List.dropWhile_cons,hb]
theorem okc_59{n:List UInt8}(h:nameB n=true): ∀c∈n,c≠59:=by
 intro c hc e;subst e;unfold nameB at h;simp only[Bool.and_eq_true,List.all_eq_true]at h;have:=h.2 59 hc;revert this;decide
theorem idx_name{n:List UInt8}(h:nameB n=true)(r:List UInt8):idx (76::n++ [59]++r)=n.length+1:=by
 have hall: ∀c∈(76::n),(c !=(59:UInt8))=true:=by
  intro c hc
  rcases List.mem_cons.1 hc with rfl|hc
  ·decide
  ·simpa using okc_59 h c hc
 unfold idx
 have e:(76::n++ [59]++r)=(76::n)++(59::r):=by simp
 rw[e,List.takeWhile_append_of_pos hall];simp
theorem take_unique(p r:List UInt8)(h:rightB p=true):fl (p++r)=p.length:=by
 have hl:=rightB_len h
 obtain⟨hr,hb⟩:=rightB_base h
 have hpb:=rank_base p
 have hne:base p≠ []:=by
  intro e;rw[e]at hb
  rcases hb with hb|hb<;>revert hb<;>decide
 obtain⟨e1,e2⟩:=rank_append p r hne;unfold fl;rw[e1,e2]
 rcases hb with hb|hb
 ·obtain⟨e3,hn⟩:=nmOk_form hb
  have hlen:=(nmOk_ch hb).2
  have e4:ch (base p++r) 0=76:=by rw[e3];rfl
  rw[if_pos e4]
  have:idx (base p++r)=(nmText (base p)).length+1:=by have h9:=idx_name hn r;rw[←e3]at h9;exact h9
  omega
 ·rcases plainB_ch hb with e|e|e
  all_goals
   rw[e]at hpb ⊢
   rw[if_neg (by simp[ch])];simp at hpb;omega
theorem okF_of(p r:List UInt8)(h:rightB p=true):okF (p++r)=true∧fl (p++r)=p.length:=by
 have:=take_unique p r h;refine⟨?_,this⟩;unfold okF;rw[this];simp[h]
theorem fl_pos(l:List UInt8):1≤fl l:=by unfold fl;split<;>omega
theorem okF_form{l:List UInt8}(h:okF l=true):fl l≤l.length∧rightB (l.take (fl l))=true∧fl l≤30:=by
 unfold okF at h;simp only[Bool.and_eq_true,decide_eq_true_eq]at h;have:=(rightB_len h.2).2;rw[List.length_take]at this;exact⟨h.1,h.2,by omega⟩
theorem right_take{l:List UInt8}{n:Nat}(hn:n≤l.length)(h:rightB (l.take n)=true):okF l=true∧fl l=n:=by
 have:=okF_of (l.take n) (l.drop n) h;rw[List.take_append_drop,List.length_take]at this;exact⟨this.1,by rw[this.2];omega⟩
theorem indexByte_eq(c:UInt8): ∀l:List UInt8,(c∈l→Lib.indexByte l c=((l.takeWhile (· !=c)).length:Int)∧(l.takeWhile (· !=c)).length<l.length)∧(c∉l→Lib.indexByte l c= -1∧(l.takeWhile (· !=c)).length=l.length)
 | []=>by simp[Lib.indexByte]
 |b::l=>by
  obtain⟨i1,i2⟩:=indexByte_eq c l
  by_cases hb:b=c
  ·subst hb
   refine⟨fun _=>⟨by simp[Lib.indexByte],by simp⟩,fun h=>absurd List.mem_cons_self h⟩
  ·have e1:(b==c)=false:=by simpa using hb
   have e2:(b !=c)=true:=by simpa using hb
   refine⟨fun h=>?_,fun h=>?_⟩
   ·have hm:c∈l:=by rcases List.mem_cons.1 h with h|h;exact absurd h.symm hb;exact h
    obtain⟨j1,j2⟩:=i1 hm;unfold Lib.indexByte;rw[e1,List.takeWhile_cons,e2];simp only[if_true,Bool.false_eq_true,if_false,List.length_cons];refine⟨?_,by omega⟩;rw[j1,if_neg (by first|(simp;done)|(simp;omega))];rfl
   ·have hm:c∉l:=fun e=>h (List.mem_cons_of_mem _ e)
    obtain⟨j1,j2⟩:=i2 hm;unfold Lib.indexByte;rw[e1,List.takeWhile_cons,e2];simp only[if_true,Bool.false_eq_true,if_false,List.length_cons];exact⟨by rw[j1,if_pos (by decide)],by omega⟩
theorem first_ev(l:List UInt8)(hl:l.length≤9223372036854775806):
  ∃d r,Ev (fun k=>desc_first.f k (mk l)) (mk d,mk r,okF l)∧(okF l=true→d=l.take (fl l)∧r=l.drop (fl l)):=by
 have hb:=rank_base l
 have hP:=hasP_one (base l) 76
 have tail: ∀n:Nat,fl l=n→n≤l.length→
   Ev (fun k=>(desc_Right.f k ((mk l).extract 0 n)).bind fun t=>some ((mk l).extract 0 n,(mk l).extract n (mk l).size,t)) (mk (l.take (fl l)),mk (l.drop (fl l)),okF l):=by
  intro n hn hle
  have e1:(mk l).extract 0 n=mk (l.take (fl l)):=by rw[extract_mk,hn];simp
  rw[e1,extract_to_end,hn];refine Ev.bind (right_ev _ (by simp;omega)) (Ev.pure ?_);simp[okF,hn,hle]
 by_cases hc:ch (base l) 0=76
 ·have hpos:0<(base l).length:=by
   cases h:base l with
   |nil=>rw [h]at hc;simp[ch]at hc
   |cons _ _=>simp
  have hp:hasP (base l) [76]=true:=by rw[hP];simp[hpos];exact hc
  have hfl:fl l=rank l+(idx (base l)+1):=by unfold fl;rw[if_pos hc]
  obtain⟨i1,i2⟩:=indexByte_eq 59 (base l)
  by_cases hm:(59:UInt8)∈base l
  ·obtain⟨j1,j2⟩:=i1 hm
   refine⟨_,_,?_,fun _=>⟨rfl,rfl⟩⟩;unfold desc_first.f
   refine Ev.then (bare_eq l hl) ?_
   refine Ev.then (a:=true) (by unfold strings_HasPrefix.f;rw[show(⟨#[76]⟩:ByteArray)=mk [76]from rfl,hasPrefix_eq,hp];rfl) (Ev.pos rfl ?_)
   refine Ev.then (a:=(idx (base l):Int)) (by unfold strings_IndexByte.f;rw[data_mk];exact congrArg some j1) ?_
   have hi:idx (base l)<(base l).length:=j2
   have w1:wrap64 ((idx (base l):Int)+1)=((idx (base l)+1:Nat):Int):=by rw[wrap_in _ (by omega) (by omega)];rfl
   simp only[w1]
   have w2:wrap64 ((rank l:Int)+((idx (base l)+1:Nat):Int))=((fl l:Nat):Int):=by rw[wrap_in _ (by omega) (by omega)];omega
   simp only[w2,Int.toNat_natCast];refine Ev.neg (by omega) (Ev.neg (by rw[size_mk];omega) (Ev.pos (by omega) (Ev.pos (by rw[size_mk];omega) (tail _ rfl (by omega)))))
  ·obtain⟨j1,j2⟩:=i2 hm
   have hfF:okF l=false:=by
    have: ¬fl l≤l.length:=by rw[hfl];unfold idx;omega
    simp[okF,this]
   refine⟨[],[],?_,fun h=>by rw[hfF]at h;cases h⟩;unfold desc_first.f
   refine Ev.then (bare_eq l hl) ?_
   refine Ev.then (a:=true) (by unfold strings_HasPrefix.f;rw[show(⟨#[76]⟩:ByteArray)=mk [76]from rfl,hasPrefix_eq,hp];rfl) (Ev.pos rfl ?_)
   refine Ev.then (a:= -1) (by unfold strings_IndexByte.f;rw[data_mk];exact congrArg some j1) ?_
   refine Ev.pos (by rw[wrap_in _ (by omega) (by omega)];rfl) (Ev.pure ?_);rw[hfF];rfl
 ·have hp:hasP (base l) [76]=false:=by rw[hP];simp;intro _;exact hc
  have hfl:fl l=rank l+1:=by unfold fl;rw[if_neg hc]
  by_cases hpos:0<(base l).length
  ·refine⟨_,_,?_,fun _=>⟨rfl,rfl⟩⟩
   unfold desc_first.f
   refine Ev.then (bare_eq l hl) ?_
   refine Ev.then (a:=false) (by unfold strings_HasPrefix.f;rw[show(⟨#[76]⟩:ByteArray)=mk [76]from rfl,hasPrefix_eq,hp];rfl) (Ev.neg (by simp) ?_)
   have w2:wrap64 ((rank l:Int)+1)=((fl l:Nat):Int):=by rw[wrap_in _ (by omega) (by omega)];omega
   simp only[w2,Int.toNat_natCast];refine Ev.neg (by omega) (Ev.neg (by rw[size_mk];omega) (Ev.pos (by omega) (Ev.pos (by rw[size_mk];omega) (tail _ rfl (by omega)))))
  ·have hfF:okF l=false:=by
    have: ¬fl l≤l.length:=by rw[hfl];omega
    simp[okF,this]
   refine⟨[],[],?_,fun h=>by rw[hfF]at h;cases h⟩;unfold desc_first.f
   refine Ev.then (bare_eq l hl) ?_
   refine Ev.then (a:=false) (by unfold strings_HasPrefix.f;rw[show(⟨#[76]⟩:ByteArray)=mk [76]from rfl,hasPrefix_eq,hp];rfl) (Ev.neg (by simp) ?_);refine Ev.neg (by omega) (Ev.pos (by rw[size_mk];omega) (Ev.pure ?_));rw[hfF];rfl
theorem refEnd_l0(l:List UInt8)(hl:l.length≤9223372036854775806): ∀d n,31-n=d→1≤n→n≤31→(okF l=true→n≤fl l)→Ev (fun k=>hornbookref02_end.l0 k (mk l) (n:Int)) (if okF l then(fl l:Int)else 0):=by
 intro d
 induction d with
 |zero=>
  intro n hd h1 h31 hf
  obtain rfl:n=31:=by omega
  have hF:okF l=false:=by
   cases h:okF l with
   |false=>rfl
   |true=>have:=hf h;have:=(okF_form h).2.2;omega
  rw[hF]
  refine Ev.step (fun k=>by rw[hornbookref02_end.l0]) ?_
  refine Ev.ite (fun _=>?_) (fun _=>?_)
  ·exact Ev.step (f:=fun _=>some (0:Int)) (fun k=>by rw[hornbookref02_end.j1,if_neg (by decide)]) (Ev.pure rfl)
  ·exact Ev.step (f:=fun _=>some (0:Int)) (fun k=>by rw[hornbookref02_end.j1,if_neg (by decide)]) (Ev.pure rfl)
 |succ d ih=>
  intro n hd h1 h31 hf
  refine Ev.step (fun k=>by rw[hornbookref02_end.l0]) ?_
  rw[size_mk];refine Ev.ite (fun hle=>?_) (fun hle=>?_)
  ·have hw:wrap64 ((n:Int)+1)=((n+1:Nat):Int):=by rw[wrap_in _ (by omega) (by omega)];rfl
   refine Ev.step (fun k=>by rw[hornbookref02_end.j1,if_pos (by simp;omega),if_pos (by omega),if_pos (by rw[size_mk];omega),Int.toNat_natCast,extract_mk,List.drop_zero,hw]) ?_
   refine Ev.bind (refRight (l.take n) (by simp;omega)) (Ev.ite (fun h=>Ev.pure ?_) (fun h=>?_))
   ·obtain⟨e1,e2⟩:=right_take (by omega) h
    rw[e1,e2];rfl
   ·refine ih (n+1) (by omega) (by omega) (by omega) (fun hF=>?_)
    have:=hf hF
    rcases Nat.lt_or_ge n (fl l)with h2|h2
    ·omega
    ·have e:fl l=n:=by omega
     exact absurd ((okF_form hF).2.1) (by rw[e];exact h)
  ·have hF:okF l=false:=by
    cases h:okF l with
    |false=>rfl
    |true=>have:=hf h;have:=(okF_form h).1;omega
   rw[hF];exact Ev.step (f:=fun _=>some (0:Int)) (fun k=>by rw[hornbookref02_end.j1,if_neg (by decide)]) (Ev.pure rfl)
theorem refEnd_ev(l:List UInt8)(hl:l.length≤9223372036854775806):Ev (fun k=>hornbookref02_end.f k (mk l)) (if okF l then(fl l:Int)else 0):=
 refEnd_l0 l hl 30 1 rfl (by omega) (by omega) (fun _=>fl_pos l)
end Go.Proofs.PL
