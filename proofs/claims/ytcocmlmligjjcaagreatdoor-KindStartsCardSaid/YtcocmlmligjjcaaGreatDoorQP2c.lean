-- SQUEEZED
/- Layer 2, plain: whose class a type is, how it is shown, arrays and elements: program and reference. -/
import Derived.Test.YtcocmlmligjjcaaGreatDoorQP2b
set_option linter.unusedVariables false
set_option linter.unusedSimpArgs false
namespace Go.Proofs.PL
open Go.RowKit Go.Proofs.YtcocmlmligjjcaaGreatDoorW.PrintWords Go.Proofs.YtcocmlmligjjcaaGreatDoor.Q
theorem lit0:(⟨#[]⟩:ByteArray)=mk []:=rfl
theorem ch_cons(a:UInt8)(l:List UInt8):ch (a::l) 0=a.toNat:=by simp[ch]
theorem rank_zero{l:List UInt8}(h:ch l 0≠91):rank l=0∧base l=l:=by
 cases l with
 |nil=>exact⟨rfl,rfl⟩
 |cons a l=>
  rw[ch_cons]at h
  have ha:(a==(91:UInt8))=false:=by rw[beq_toNat];simpa using h
  unfold rank base;simp[List.takeWhile_cons,List.dropWhile_cons,ha]
theorem rank_cons(l:List UInt8):rank (91::l)=rank l+1∧base (91::l)=base l:=by
 unfold rank base;simp
theorem ch_91{l:List UInt8}(h:ch l 0=91): ∃t,l=91::t:=by
 cases l with
 |nil=>simp [ch]at h
 |cons a t=>
  rw[ch_cons]at h;exact⟨t,by rw[UInt8.toNat_inj.1 (show a.toNat=(91:UInt8).toNat from h)]⟩
theorem nmOk_form{l:List UInt8}(h:nmOk l=true):l=76::nmText l++ [59]∧nameB (nmText l)=true:=by
 obtain⟨he,ht⟩:=refOk_eq l
 have hr:refOk l=true:=by rw[he];exact h
 have ht':=ht hr
 have hn:nameB (nmText l)=true:=by unfold nmOk at h;simp at h;exact h.2
 refine⟨?_,hn⟩;unfold refOk at hr;simp only[Bool.and_eq_true,decide_eq_true_eq]at hr;obtain⟨⟨⟨h2,h0⟩,h9⟩,_⟩:=hr;rw[ht'];have e1:=(ch_drop (l:=l) (n:=0) (by omega)).1;have e2:=ch_drop (l:=l) (n:=l.length-1) (by omega);have a0:l[0]'(by omega)=76:=UInt8.toNat_inj.1 (by have:=(ch_drop (l:=l) (n:=0) (by omega)).2;rw[←this];exact h0);have a9:l[l.length-1]'(by omega)=59:=UInt8.toNat_inj.1 (by rw[←e2.2];exact h9);have e3:l.drop (l.length-1+1)= []:=List.drop_eq_nil_of_le (by omega);rw[e3,a9]at e2
 have hs:l=l.take (l.length-1)++ [59]:=by
  conv=>lhs;rw[←List.take_append_drop (l.length-1) l,e2.1]
 have ht2:l.take (l.length-1)=76::(l.take (l.length-1)).drop 1:=by
  have e4:=(ch_drop (l:=l.take (l.length-1)) (n:=0) (by simp;omega)).1;rw[List.drop_zero]at e4
  conv=>lhs;rw[e4]
  simp[a0]
 conv=>lhs;rw[hs,ht2]
theorem nameB_le{l:List UInt8}(h:nameB l=true):1≤l.length∧l.length≤24:=by
 unfold nameB at h;simp at h;omega
theorem nmOk_ch{l:List UInt8}(h:nmOk l=true):ch l 0=76∧l.length=(nmText l).length+2:=by
 obtain⟨e,hn⟩:=nmOk_form h;constructor
 ·rw[e];rfl
 ·conv=>lhs;rw[e]
  simp
theorem plainB_ch{l:List UInt8}(h:plainB l=true):l= [73]∨l= [66]∨l= [83]:=by
 unfold plainB at h;simp at h;rcases h with(h|h)|h<;>simp [h]
theorem rightB_len{l:List UInt8}(h:rightB l=true):0<l.length∧l.length≤30:=by
 have hb:=rank_base l
 unfold rightB at h;simp only[Bool.and_eq_true,Bool.or_eq_true,decide_eq_true_eq]at h;obtain⟨h4,h|h⟩:=h
 ·have:=nmOk_ch h
  have:=nameB_le (nmOk_form h).2;omega
 ·rcases plainB_ch h with h|h|h<;>(rw[h]at hb;simp at hb;omega)
theorem rightB_ch{l:List UInt8}(h:rightB l=true):(ch l 0=91∧0<rank l)∨(rank l=0∧base l=l∧((ch l 0=76∧nmOk l=true)∨plainB l=true)):=by
 by_cases h9:ch l 0=91
 ·obtain⟨t,rfl⟩:=ch_91 h9
  exact .inl ⟨h9,by rw[(rank_cons t).1];omega⟩
 ·obtain⟨h1,h2⟩:=rank_zero h9
  refine .inr ⟨h1,h2,?_⟩;unfold rightB at h;rw[h2]at h;simp only[Bool.and_eq_true,Bool.or_eq_true]at h
  rcases h.2 with h|h
  ·exact .inl ⟨(nmOk_ch h).1,h⟩
  ·exact .inr h
theorem rightB_base{l:List UInt8}(h:rightB l=true):rank l≤4∧(nmOk (base l)=true∨plainB (base l)=true):=by
 unfold rightB at h;simpa using h
end Go.Proofs.PL
