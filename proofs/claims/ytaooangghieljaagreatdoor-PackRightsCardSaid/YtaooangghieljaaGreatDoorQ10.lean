-- SQUEEZED
-- Written by the program wip/tools/mp.py of this work, which drives the print of the kit; hand texts of this session among it.
import Derived.Test.YtaooangghieljaaGreatDoorQ0
import Derived.Test.YtaooangghieljaaGreatDoorQ1
import Derived.Test.YtaooangghieljaaGreatDoorQ2
import Derived.Test.YtaooangghieljaaGreatDoorQ4
import Derived.Test.YtaooangghieljaaGreatDoorQ8
namespace Go.Proofs.YtaooangghieljaaGreatDoor.Q
open Go.RowKit Go.Proofs.HW Go.Proofs.YtaooangghieljaaGreatDoorW.PrintWords Go.Proofs.YtaooangghieljaaGreatDoorW.PrintLast
set_option linter.unusedVariables false
set_option linter.unusedSimpArgs false
-- HANDTEXT
-- NEEDS hornbook/desc.Right
-- NEEDS hornbook/desc.Split
-- NEEDS hornbook/bin.Name
-- NEEDS slices.Index[[]hornbook/api.Const,hornbook/api.Const]
-- NEEDS slices.Equal[[]hornbook/api.Const,hornbook/api.Const]
attribute [local go_sem high] eqA57
def pool_Right.f(k:Nat)(a0_0:Int)(a0_1:Int)(a0_2:ByteArray)(a0_3:ByteArray)(a0_4:ByteArray):Option (Bool):=
 if a0_0=1 then some (a0_2.toList.isEmpty&&(a0_3.toList.isEmpty&&a0_4.toList.isEmpty))
 else if a0_0=2∨a0_0=3 then
  if(a0_1==0&&(a0_3.toList.isEmpty&&a0_4.toList.isEmpty))=true then(if a0_0=2 then some (decide (a0_2.size≤64))else desc_Right.f k a0_2)else some false
 else if a0_0=4∨a0_0=5 then
  (desc_Split.f k a0_4).bind fun sp=>(if a0_0=4 then desc_Right.f k a0_4 else some (decide (sp.2.2=0))).bind fun ok=>
   if ok=true then(if a0_1=0 then(bin_Name.f k a0_2).bind fun n=>if n=true then bin_Name.f k a0_3 else some false else some false)else some false
 else some false
set_option maxHeartbeats 8000000 in
set_option maxRecDepth 100000 in
theorem pool_Right.calls(k:Nat)(a0_0:Int)(a0_1:Int)(a0_2:ByteArray)(a0_3:ByteArray)(a0_4:ByteArray)(r:Bool)(w:World)(h:pool_Right.f k a0_0 a0_1 a0_2 a0_3 a0_4=some r):
  Calls Tryz.prog 55 #[.agg #[.int .i64 a0_0, .int .i64 a0_1, .string a0_2, .string a0_3, .string a0_4]] w fun e w'=>e= .returned (.bool r)∧Below w.heap.size w w':=by
 have hu40:=Tryz.underlying57
 unfold pool_Right.f at h
 by_cases h1:a0_0=1
 ·rw[if_pos h1]at h
  have H:=Aside0.mk (Option.some.inj h)
  clear h;subst h1
  go_enter Tryz.func55,Tryz.ntmps55
  go_wp2_with fail
  go_ret;exact⟨by rw[←H.out];rfl,below_alloc (below_alloc (Below.refl _ _) _) _⟩
 rw[if_neg h1]at h
 by_cases h2:a0_0=2
 ·rw[if_pos (.inl h2)]at h
  have H:=Aside0.mk h
  clear h;subst h2
  by_cases he:(a0_1==0&&(a0_3.toList.isEmpty&&a0_4.toList.isEmpty))=true
  ·have h3:=H.out
   rw[if_pos he,if_pos rfl]at h3
   have H3:=Aside0.mk (Option.some.inj h3)
   clear h3 H
   by_cases hs:a0_2.size≤64
   ·have hr:=H3.out
    rw[decide_eq_true hs]at hr;subst hr;clear H3
    go_enter Tryz.func55,Tryz.ntmps55
    go_wp2_with fail
    go_ret;exact⟨rfl,below_alloc (below_alloc (Below.refl _ _) _) _⟩
   ·have hr:=H3.out
    rw[decide_eq_false hs]at hr;subst hr;clear H3
    go_enter Tryz.func55,Tryz.ntmps55
    go_wp2_with fail
    go_ret;exact⟨by show Ending.returned (Value.bool (decide ((a0_2.size:Int)≤64)))=_;rw[decide_eq_false (by omega)],below_alloc (below_alloc (Below.refl _ _) _) _⟩
  ·have h3:=H.out
   rw[if_neg he]at h3;obtain rfl:=Option.some.inj h3;clear h3 H
   go_enter Tryz.func55,Tryz.ntmps55
   go_wp2_with fail
   go_ret;exact⟨rfl,below_alloc (below_alloc (Below.refl _ _) _) _⟩
 by_cases h3:a0_0=3
 ·rw[if_pos (.inr h3)]at h
  have H:=Aside0.mk h
  clear h;subst h3
  by_cases he:(a0_1==0&&(a0_3.toList.isEmpty&&a0_4.toList.isEmpty))=true
  ·have h3:=H.out
   rw[if_pos he,if_neg (by decide)]at h3
   have H3:=Aside0.mk h3
   clear h3 H
   go_enter Tryz.func55,Tryz.ntmps55
   go_wp2_with fail
   refine(desc_Right.calls k a0_2 r _ H3.out).mono ?_
   rintro e w1 ⟨rfl,⟨n1,rfl⟩⟩
   go_wp2_with fail
   go_ret;exact⟨rfl,pw_below_drewN (below_alloc (below_alloc (Below.refl _ _) _) _) _⟩
  ·have h3:=H.out
   rw[if_neg he]at h3;obtain rfl:=Option.some.inj h3;clear h3 H
   go_enter Tryz.func55,Tryz.ntmps55
   go_wp2_with fail
   go_ret;exact⟨rfl,below_alloc (below_alloc (Below.refl _ _) _) _⟩
 rw[if_neg (by omega)]at h
 by_cases h4:a0_0=4∨a0_0=5
 case neg=>
  rw[if_neg h4]at h;obtain rfl:=Option.some.inj h
  have h5: ¬a0_0=4:=fun e=>h4 (.inl e)
  have h6: ¬a0_0=5:=fun e=>h4 (.inr e)
  clear h h4
  go_enter Tryz.func55,Tryz.ntmps55
  go_wp2_with fail
  go_ret;exact⟨rfl,below_alloc (below_alloc (Below.refl _ _) _) _⟩
 rw[if_pos h4]at h;obtain⟨⟨r1,r2,r3⟩,hsp,h⟩:=Option.bind_eq_some_iff.1 h
 have H:=Aside0.mk h
 have HS:=Aside0.mk hsp
 clear h hsp h1 h2 h3
 rcases h4 with h4|h4
 ·have hh:=H.out
  rw[if_pos h4]at hh;obtain⟨ok,hok,hh⟩:=Option.bind_eq_some_iff.1 hh
  have HOK:=Aside0.mk hok
  have HH:=Aside0.mk hh
  clear hok hh H;subst h4
  go_enter Tryz.func55,Tryz.ntmps55
  go_wp2_with fail
  refine(desc_Split.calls k a0_4 r1 r2 r3 _ HS.out).mono ?_
  rintro e w1 ⟨v1,rfl,hR,hb⟩
  have hbk:=(hb.block w.heap.size (by simp;omega)).trans ((Below.heap_alloc _ _ _ (by simp)).trans (heap_alloc_last w _))
  have HB:=Aside0.mk (below_step (below_alloc (below_alloc (Below.refl _ _) _) _) hb)
  have hcl0:=(blk_cell hbk 0).trans rfl
  have hcl1:=(blk_cell hbk 1).trans rfl
  have hcl2:=(blk_cell hbk 2).trans rfl
  have hcl3:=(blk_cell hbk 3).trans rfl
  have hcl4:=(blk_cell hbk 4).trans rfl
  clear hb hR hbk
  go_wp2_with fail
  refine(desc_Right.calls k a0_4 ok _ HOK.out).mono ?_
  rintro e w2 ⟨rfl,⟨n1,rfl⟩⟩
  cases ok with
  |false=>
   have hh:=HH.out
   rw[if_neg (by decide)]at hh;obtain rfl:=Option.some.inj hh;clear hh HH HOK HS
   go_wp2_with fail
   go_ret;exact⟨rfl,pw_below_drewN HB.out _⟩
  |true=>
   have hh:=HH.out
   rw[if_pos rfl]at hh
   have HH2:=Aside0.mk hh
   clear HH hh HOK HS
   by_cases hz:a0_1=0
   ·have hh:=HH2.out
    rw[if_pos hz]at hh;obtain⟨n,hn,hh⟩:=Option.bind_eq_some_iff.1 hh
    have HN:=Aside0.mk hn
    have HH3:=Aside0.mk hh
    clear hn hh HH2;subst hz
    go_wp2_with fail
    refine(bin_Name.calls k a0_2 n _ HN.out).mono ?_
    rintro e w3 ⟨rfl,⟨n2,rfl⟩⟩
    cases n with
    |false=>
     have hh:=HH3.out
     rw[if_neg (by decide)]at hh;obtain rfl:=Option.some.inj hh;clear hh HH3
     go_wp2_with fail
     go_ret;exact⟨rfl,by first|exact HB.out|exact pw_below_drewN HB.out _⟩
    |true=>
     have hh:=HH3.out
     rw[if_pos rfl]at hh
     have HH4:=Aside0.mk hh
     clear hh HH3
     go_wp2_with fail
     refine(bin_Name.calls k a0_3 r _ HH4.out).mono ?_
     rintro e w4 ⟨rfl,⟨n3,rfl⟩⟩
     go_wp2_with fail
     go_ret;exact⟨rfl,by first|exact HB.out|exact pw_below_drewN HB.out _⟩
   ·have hh:=HH2.out
    rw[if_neg hz]at hh;obtain rfl:=Option.some.inj hh;clear hh HH2
    go_wp2_with fail
    go_ret;exact⟨rfl,by first|exact HB.out|exact pw_below_drewN HB.out _⟩
 ·have hh:=H.out
  rw[if_neg (by omega)]at hh
  have HH:=Aside0.mk hh
  clear hh H;subst h4
  go_enter Tryz.func55,Tryz.ntmps55
  go_wp2_with fail
  refine(desc_Split.calls k a0_4 r1 r2 r3 _ HS.out).mono ?_
  rintro e w1 ⟨v1,rfl,hR,hb⟩
  have hbk:=(hb.block w.heap.size (by simp;omega)).trans ((Below.heap_alloc _ _ _ (by simp)).trans (heap_alloc_last w _))
  have HB:=Aside0.mk (below_step (below_alloc (below_alloc (Below.refl _ _) _) _) hb)
  have hcl0:=(blk_cell hbk 0).trans rfl
  have hcl1:=(blk_cell hbk 1).trans rfl
  have hcl2:=(blk_cell hbk 2).trans rfl
  have hcl3:=(blk_cell hbk 3).trans rfl
  have hcl4:=(blk_cell hbk 4).trans rfl
  clear hb hR hbk
  by_cases hr:r3=0
  ·have hh:=HH.out
   simp only[Option.bind_some]at hh;rw[decide_eq_true hr,if_pos rfl]at hh
   have HH2:=Aside0.mk hh
   clear HH hh HS;subst hr
   by_cases hz:a0_1=0
   ·have hh:=HH2.out
    rw[if_pos hz]at hh;obtain⟨n,hn,hh⟩:=Option.bind_eq_some_iff.1 hh
    have HN:=Aside0.mk hn
    have HH3:=Aside0.mk hh
    clear hn hh HH2;subst hz
    go_wp2_with fail
    refine(bin_Name.calls k a0_2 n _ HN.out).mono ?_
    rintro e w3 ⟨rfl,⟨n2,rfl⟩⟩
    cases n with
    |false=>
     have hh:=HH3.out
     rw[if_neg (by decide)]at hh;obtain rfl:=Option.some.inj hh;clear hh HH3
     go_wp2_with fail
     go_ret;exact⟨rfl,by first|exact HB.out|exact pw_below_drewN HB.out _⟩
    |true=>
     have hh:=HH3.out
     rw[if_pos rfl]at hh
     have HH4:=Aside0.mk hh
     clear hh HH3
     go_wp2_with fail
     refine(bin_Name.calls k a0_3 r _ HH4.out).mono ?_
     rintro e w4 ⟨rfl,⟨n3,rfl⟩⟩
     go_wp2_with fail
     go_ret;exact⟨rfl,by first|exact HB.out|exact pw_below_drewN HB.out _⟩
   ·have hh:=HH2.out
    rw[if_neg hz]at hh;obtain rfl:=Option.some.inj hh;clear hh HH2
    go_wp2_with fail
    go_ret;exact⟨rfl,by first|exact HB.out|exact pw_below_drewN HB.out _⟩
  ·have hh:=HH.out
   simp only[Option.bind_some]at hh;rw[decide_eq_false hr,if_neg (by decide)]at hh;obtain rfl:=Option.some.inj hh;clear HH hh HS
   go_wp2_with fail
   go_ret;exact⟨rfl,HB.out⟩
end Go.Proofs.YtaooangghieljaaGreatDoor.Q
