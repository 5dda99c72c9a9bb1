-- SQUEEZED
/- Layer 3: which constants can be, said by both. -/
import Derived.Test.YtaooangghieljaaGreatDoorQ10
import Derived.Test.YtaooangghieljaaGreatDoorQ11
import Derived.Test.YtaooangghieljaaGreatDoorQP2b
import Derived.Test.YtaooangghieljaaGreatDoorQP2e
set_option linter.unusedVariables false
set_option linter.unusedSimpArgs false
namespace Go.Proofs.PL
open Go.RowKit Go.Proofs.YtaooangghieljaaGreatDoorW.PrintWords Go.Proofs.YtaooangghieljaaGreatDoor.Q
theorem right_both(kind n:Int)(s t u:List UInt8)(hs:s.length≤9223372036854775806)(ht:t.length≤9223372036854775806)(hu:u.length≤9223372036854775806):
  ∃b:Bool,Ev (fun k=>pool_Right.f k kind n (mk s) (mk t) (mk u)) b∧Ev (fun k=>hornbookref03_Right.f k kind n (mk s) (mk t) (mk u)) b:=by
 unfold pool_Right.f hornbookref03_Right.f;simp only[toList_mk,size_mk]
 by_cases h1:kind=1
 ·refine⟨_,Ev.pos h1 (Ev.pure rfl),Ev.pos h1 ?_⟩
  cases s with
  |nil=>
   refine Ev.pos rfl ?_
   cases t with
   |nil=>exact Ev.pos rfl (Ev.pure (by cases u<;>rfl))
   |cons a t=>exact Ev.neg (by simp) (Ev.pure rfl)
  |cons a s=>exact Ev.neg (by simp) (Ev.pure rfl)
 by_cases h2:kind=2
 ·by_cases he:n=0∧t= []∧u= []
  ·obtain⟨rfl,rfl,rfl⟩:=he
   exact⟨decide (s.length≤64),Ev.neg h1 (Ev.pos (.inl h2) (Ev.pos rfl (Ev.pos h2 (Ev.pure rfl)))),Ev.neg h1 (Ev.pos h2 (Ev.pos rfl (Ev.pos rfl (Ev.pos rfl (Ev.pure (congrArg some (decide_eq_decide.2 (by omega))))))))⟩
  ·refine⟨false,Ev.neg h1 (Ev.pos (.inl h2) (Ev.neg (by simpa using he) (Ev.pure rfl))),Ev.neg h1 (Ev.pos h2 ?_)⟩
   exact Ev.ite (fun hn=>Ev.ite (fun ht'=>Ev.ite (fun hu'=>absurd ⟨hn,ht',hu'⟩ he) (fun _=>Ev.pure rfl)) (fun _=>Ev.pure rfl)) (fun _=>Ev.pure rfl)
 by_cases h3:kind=3
 ·by_cases he:n=0∧t= []∧u= []
  ·obtain⟨rfl,rfl,rfl⟩:=he
   exact⟨rightB s,Ev.neg h1 (Ev.pos (.inr h3) (Ev.pos rfl (Ev.neg h2 (right_ev s hs)))),Ev.neg h1 (Ev.neg h2 (Ev.pos h3 (Ev.pos rfl (Ev.pos rfl (Ev.pos rfl (Ev.bind (refRight s hs) (Ev.pure rfl)))))))⟩
  ·refine⟨false,Ev.neg h1 (Ev.pos (.inr h3) (Ev.neg (by simpa using he) (Ev.pure rfl))),Ev.neg h1 (Ev.neg h2 (Ev.pos h3 ?_))⟩
   exact Ev.ite (fun hn=>Ev.ite (fun ht'=>Ev.ite (fun hu'=>absurd ⟨hn,ht',hu'⟩ he) (fun _=>Ev.pure rfl)) (fun _=>Ev.pure rfl)) (fun _=>Ev.pure rfl)
 have h23: ¬(kind=2∨kind=3):=fun h=>h.elim h2 h3
 obtain⟨us,g,e,i1,i2,_⟩:=split_both u hu
 have hp: ∀ok:Bool,Ev (fun k=>if ok=true then(if n=0 then(bin_Name.f k (mk s)).bind fun n=>if n=true then bin_Name.f k (mk t)else some false else some false)else some false) (ok&&(decide (n=0)&&(nameB s&&nameB t))):=by
  intro ok
  cases ok with
  |false=>exact Ev.neg (by decide) (Ev.pure rfl)
  |true=>
   refine Ev.pos rfl ?_
   by_cases hn:n=0
   ·refine Ev.pos hn ?_
    simp only[hn,decide_true,Bool.true_and]
    refine Ev.bind (binName s hs) ?_
    cases nameB s with
    |false=>exact Ev.neg (by decide) (Ev.pure rfl)
    |true=>exact Ev.pos rfl (binName t ht)
   ·refine Ev.neg hn (Ev.pure ?_)
    simp only[hn,decide_false,Bool.false_and,Bool.and_false]
 by_cases h4:kind=4
 ·refine⟨rightB u&&(decide (n=0)&&(nameB s&&nameB t)),Ev.neg h1 (Ev.neg h23 (Ev.pos (.inl h4) (Ev.bind i1 (Ev.bind (Ev.pos h4 (right_ev u hu)) (hp _))))),Ev.neg h1 (Ev.neg h2 (Ev.neg h3 (Ev.pos h4 ?_)))⟩
  by_cases hn:n=0
  ·refine Ev.pos hn (Ev.bind (refName s hs) ?_)
   simp only[hn,decide_true,Bool.true_and]
   cases nameB s with
   |false=>exact Ev.neg (by decide) (Ev.pure (by simp))
   |true=>
    refine Ev.pos rfl (Ev.bind (refName t ht) ?_)
    cases nameB t with
    |false=>exact Ev.neg (by decide) (Ev.pure (by simp))
    |true=>exact Ev.pos rfl (Ev.bind (refRight u hu) (Ev.pure (by simp)))
  ·exact Ev.neg hn (Ev.pure (by simp[hn]))
 by_cases h5:kind=5
 ·refine⟨decide (e=0)&&(decide (n=0)&&(nameB s&&nameB t)),Ev.neg h1 (Ev.neg h23 (Ev.pos (.inr h5) (Ev.bind i1 (Ev.bind (Ev.neg h4 (Ev.pure rfl)) (hp _))))),Ev.neg h1 (Ev.neg h2 (Ev.neg h3 (Ev.neg h4 (Ev.pos h5 (Ev.bind i2 ?_)))))⟩
  by_cases hn:n=0
  ·refine Ev.pos hn (Ev.bind (refName s hs) ?_)
   simp only[hn,decide_true,Bool.true_and]
   cases nameB s with
   |false=>exact Ev.neg (by decide) (Ev.pure (by simp))
   |true=>
    refine Ev.pos rfl (Ev.bind (refName t ht) ?_)
    cases nameB t with
    |false=>exact Ev.neg (by decide) (Ev.pure (by simp))
    |true=>exact Ev.pos rfl (Ev.pure (by simp;rfl))
  ·exact Ev.neg hn (Ev.pure (by simp[hn]))
 ·exact⟨false,Ev.neg h1 (Ev.neg h23 (Ev.neg (fun h=>h.elim h4 h5) (Ev.pure rfl))),Ev.neg h1 (Ev.neg h2 (Ev.neg h3 (Ev.neg h4 (Ev.neg h5 (Ev.pure rfl)))))⟩
end Go.Proofs.PL
