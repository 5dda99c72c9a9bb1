/- Texts of this claim, put together. -/
import Derived.Test.YthnajefdiljneaaDoorM2
import Derived.Test.YthnajefdiljneaaDoorM1
import Derived.Lib.Strings
import Derived.PlainAid
import Derived.Laws.BitsLemmas
import Derived.Test.YthnajefdiljneaaDoorProg
import Derived.Below
import Derived.Deep.Draws
import Derived.Deep.AppendLies
import Derived.Maps.AppendAt
import Derived.OwnWalk
import Derived.Laws.BytesArg
import Derived.Laws.MakeOwn
import Derived.Laws.OwnMore
import Derived.Deep.OwnRows
import Derived.Tactics
import Derived.Lib.ConvBytes
import Derived.Laws.Slices
import Derived.WalkKit
import Derived.KernelRfl
import Derived.RowKit3
import Derived.Deep.LoopGhost
import Derived.Deep.QuietTactic
import Derived.BigQuiet
import Derived.WideLaws
import Derived.Deep.DeepCutAuto
import Derived.Deep.CutBlock
import Derived.Deep.RegionHeld3
import Derived.Laws.Rows
import Derived.Lib.AppendStr
import Derived.ArgAppend
import Derived.Laws.IdiomCopy
import Derived.OrdersHeld
import Derived.RowKit
import Derived.WalkSpells
import Derived.WalkLawsBesides
import Derived.Laws.StructEq
import Derived.Test.YthnajefdiljneaaDoorM0
section
-- SQUEEZED
-- Written by the program wip/tools/mp.py of this work, which drives the print of the kit; hand texts of this session among it.
namespace Go.Proofs.YthnajefdiljneaaDoor.Q
open Go.RowKit Go.Proofs.HW Go.Proofs.YthnajefdiljneaaDoorW.PrintWords Go.Proofs.YthnajefdiljneaaDoorW.PrintLast
set_option linter.unusedVariables false
set_option linter.unusedSimpArgs false
def hornbookref03_Right.f(k:Nat)(a0_0:Int)(a0_1:Int)(a0_2:ByteArray)(a0_3:ByteArray)(a0_4:ByteArray):Option (Bool):=if a0_0=1 then(if a0_2.toList=([]:List UInt8)then(if a0_3.toList=([]:List UInt8)then(some (a0_4.toList==([]:List UInt8)))else(some false))else(some false))else(if a0_0=2 then(if a0_1=0 then(if a0_3.toList=([]:List UInt8)then(if a0_4.toList=([]:List UInt8)then(some (decide ((a0_2.size:Int)≤64)))else(some false))else(some false))else(some false))else(if a0_0=3 then(if a0_1=0 then(if a0_3.toList=([]:List UInt8)then(if a0_4.toList=([]:List UInt8)then((hornbookref02_Right.f k a0_2).bind fun t161=>(some t161))else(some false))else(some false))else(some false))else(if a0_0=4 then(if a0_1=0 then((hornbookref01_Name.f k a0_2).bind fun t162=>(if t162=true then((hornbookref01_Name.f k a0_3).bind fun t163=>(if t163=true then((hornbookref02_Right.f k a0_4).bind fun t164=>(some t164))else(some false)))else(some false)))else(some false))else(if a0_0=5 then((hornbookref02_Split.f k a0_4).bind fun bt165=>(if a0_1=0 then((hornbookref01_Name.f k a0_2).bind fun t170=>(if t170=true then((hornbookref01_Name.f k a0_3).bind fun t171=>(if t171=true then(some (bt165.2.2==0))else(some false)))else(some false)))else(some false)))else(some false)))))
set_option maxHeartbeats 8000000 in
set_option maxRecDepth 100000 in
theorem hornbookref03_Right.calls(k:Nat)(a0_0:Int)(a0_1:Int)(a0_2:ByteArray)(a0_3:ByteArray)(a0_4:ByteArray)(r:Bool)(w:World)(h:hornbookref03_Right.f k a0_0 a0_1 a0_2 a0_3 a0_4=some r):
  Calls Tryd.prog 9 #[.agg #[.int .i64 a0_0, .int .i64 a0_1, .string a0_2, .string a0_3, .string a0_4]] w fun e w'=>e= .returned (.bool r)∧Below w.heap.size w w':=by
 have hu24:=Tryd.underlying24
 have HB:=Aside0.mk (Below.refl w.heap.size w)
 have H:(if a0_0=1 then(if a0_2.toList=([]:List UInt8)then(if a0_3.toList=([]:List UInt8)then(some (a0_4.toList==([]:List UInt8)))else(some false))else(some false))else(if a0_0=2 then(if a0_1=0 then(if a0_3.toList=([]:List UInt8)then(if a0_4.toList=([]:List UInt8)then(some (decide ((a0_2.size:Int)≤64)))else(some false))else(some false))else(some false))else(if a0_0=3 then(if a0_1=0 then(if a0_3.toList=([]:List UInt8)then(if a0_4.toList=([]:List UInt8)then((hornbookref02_Right.f k a0_2).bind fun t161=>(some t161))else(some false))else(some false))else(some false))else(if a0_0=4 then(if a0_1=0 then((hornbookref01_Name.f k a0_2).bind fun t162=>(if t162=true then((hornbookref01_Name.f k a0_3).bind fun t163=>(if t163=true then((hornbookref02_Right.f k a0_4).bind fun t164=>(some t164))else(some false)))else(some false)))else(some false))else(if a0_0=5 then((hornbookref02_Split.f k a0_4).bind fun bt165=>(if a0_1=0 then((hornbookref01_Name.f k a0_2).bind fun t170=>(if t170=true then((hornbookref01_Name.f k a0_3).bind fun t171=>(if t171=true then(some (bt165.2.2==0))else(some false)))else(some false)))else(some false)))else(some false))))))=some r:=h
 clear h
 by_cases c2:a0_0=1
 ·rw[if_pos c2]at H
  have c2b0:(a0_0==1)=true:=beq_iff_eq.mpr c2;have c2b1:(a0_0 !=1)=false:=bne_eq_false_iff_eq.mpr c2;clear c2
  by_cases c3:a0_2.toList=([]:List UInt8)
  ·rw[if_pos c3]at H
   have c3b0:(a0_2.toList==([]:List UInt8))=true:=beq_iff_eq.mpr c3;have c3b1:(a0_2.toList !=([]:List UInt8))=false:=bne_eq_false_iff_eq.mpr c3;clear c3
   by_cases c4:a0_3.toList=([]:List UInt8)
   ·rw[if_pos c4]at H
    have c4b0:(a0_3.toList==([]:List UInt8))=true:=beq_iff_eq.mpr c4;have c4b1:(a0_3.toList !=([]:List UInt8))=false:=bne_eq_false_iff_eq.mpr c4;clear c4;obtain rfl:=Option.some.inj H
    go_enter Tryd.func9,Tryd.ntmps9
    go_wp2_with (first|((with_reducible refine gate_dst (N:=1) rfl ?_);(try (refine gate_guard (by rfl) ?_;dsimp only));refine box_event ?hg (N:=1) ?hd (cs:= #[.int .i64 a0_0, .int .i64 a0_1, .string a0_2, .string a0_3, .string a0_4]) (t:=24) ?hr ?_;(case hd=>rfl);(case hg=>rfl);(case hr=>first|(go_simp;done)|(go_simp;rfl));intro gb160 hg w5 hbox hb;have n0_:=Aside0.mk (below_step (by repeat (first|(with_reducible first|exact HB.out|apply below_alloc|apply pw_below_drewN|apply below_drew1)|exact HB.out)) hb);have n1_:=Aside0.mk (hbox);have n2_:=Aside0.mk ((by rw[hg];exact(below_size (by repeat (first|(with_reducible first|exact HB.out|apply below_alloc|apply pw_below_drewN|apply below_drew1)|exact HB.out))):w.heap.size≤gb160));have n3_:=Aside0.mk ((by rw[hg];exact(below_size (by repeat (first|(with_reducible first|exact HB.out|apply below_alloc|apply pw_below_drewN|apply below_drew1)|exact HB.out))):w.heap.size≤gb160));clear HB;have HB:=n0_;have BK160:=n1_;have GW160:=n2_;have GE160:=n3_;clear n0_ n1_ n2_ n3_;clear hb hbox hg;have hcz6_0:w5.cell? ⟨gb160,0,none⟩=some (.int .i64 a0_0):=(blk_cell BK160.out 0).trans rfl;have hcz6_1:w5.cell? ⟨gb160,1,none⟩=some (.int .i64 a0_1):=(blk_cell BK160.out 1).trans rfl;have hcz6_2:w5.cell? ⟨gb160,2,none⟩=some (.string a0_2):=(blk_cell BK160.out 2).trans rfl;have hcz6_3:w5.cell? ⟨gb160,3,none⟩=some (.string a0_3):=(blk_cell BK160.out 3).trans rfl;have hcz6_4:w5.cell? ⟨gb160,4,none⟩=some (.string a0_4):=(blk_cell BK160.out 4).trans rfl;have hfz6_0:=blk_frozen BK160.out 0;have hfz6_1:=blk_frozen BK160.out 1;have hfz6_2:=blk_frozen BK160.out 2;have hfz6_3:=blk_frozen BK160.out 3;have hfz6_4:=blk_frozen BK160.out 4))
    all_goals go_ret
    all_goals exact⟨by first|rfl|(simp[errW_none,errW_some]<;>rfl)|(simp[*,errW_none,errW_some]<;>rfl),by repeat (first|(with_reducible first|exact HB.out|apply below_alloc|apply pw_below_drewN|apply below_drew1|refine below_set ?_ GE160.out)|exact HB.out)⟩
   ·rw[if_neg c4]at H
    have c4b0:(a0_3.toList==([]:List UInt8))=false:=beq_eq_false_iff_ne.mpr c4;have c4b1:(a0_3.toList !=([]:List UInt8))=true:=bne_iff_ne.mpr c4;obtain rfl:=Option.some.inj H
    go_enter Tryd.func9,Tryd.ntmps9
    go_wp2_with (first|((with_reducible refine gate_dst (N:=1) rfl ?_);(try (refine gate_guard (by rfl) ?_;dsimp only));refine box_event ?hg (N:=1) ?hd (cs:= #[.int .i64 a0_0, .int .i64 a0_1, .string a0_2, .string a0_3, .string a0_4]) (t:=24) ?hr ?_;(case hd=>rfl);(case hg=>rfl);(case hr=>first|(go_simp;done)|(go_simp;rfl));intro gb160 hg w7 hbox hb;have n0_:=Aside0.mk (below_step (by repeat (first|(with_reducible first|exact HB.out|apply below_alloc|apply pw_below_drewN|apply below_drew1)|exact HB.out)) hb);have n1_:=Aside0.mk (hbox);have n2_:=Aside0.mk ((by rw[hg];exact(below_size (by repeat (first|(with_reducible first|exact HB.out|apply below_alloc|apply pw_below_drewN|apply below_drew1)|exact HB.out))):w.heap.size≤gb160));have n3_:=Aside0.mk ((by rw[hg];exact(below_size (by repeat (first|(with_reducible first|exact HB.out|apply below_alloc|apply pw_below_drewN|apply below_drew1)|exact HB.out))):w.heap.size≤gb160));clear HB;have HB:=n0_;have BK160:=n1_;have GW160:=n2_;have GE160:=n3_;clear n0_ n1_ n2_ n3_;clear hb hbox hg;have hcz8_0:w7.cell? ⟨gb160,0,none⟩=some (.int .i64 a0_0):=(blk_cell BK160.out 0).trans rfl;have hcz8_1:w7.cell? ⟨gb160,1,none⟩=some (.int .i64 a0_1):=(blk_cell BK160.out 1).trans rfl;have hcz8_2:w7.cell? ⟨gb160,2,none⟩=some (.string a0_2):=(blk_cell BK160.out 2).trans rfl;have hcz8_3:w7.cell? ⟨gb160,3,none⟩=some (.string a0_3):=(blk_cell BK160.out 3).trans rfl;have hcz8_4:w7.cell? ⟨gb160,4,none⟩=some (.string a0_4):=(blk_cell BK160.out 4).trans rfl;have hfz8_0:=blk_frozen BK160.out 0;have hfz8_1:=blk_frozen BK160.out 1;have hfz8_2:=blk_frozen BK160.out 2;have hfz8_3:=blk_frozen BK160.out 3;have hfz8_4:=blk_frozen BK160.out 4))
    all_goals go_ret
    all_goals exact⟨by first|rfl|(simp[errW_none,errW_some]<;>rfl)|(simp[*,errW_none,errW_some]<;>rfl),by repeat (first|(with_reducible first|exact HB.out|apply below_alloc|apply pw_below_drewN|apply below_drew1|refine below_set ?_ GE160.out)|exact HB.out)⟩
  ·rw[if_neg c3]at H
   have c3b0:(a0_2.toList==([]:List UInt8))=false:=beq_eq_false_iff_ne.mpr c3;have c3b1:(a0_2.toList !=([]:List UInt8))=true:=bne_iff_ne.mpr c3;obtain rfl:=Option.some.inj H
   go_enter Tryd.func9,Tryd.ntmps9
   go_wp2_with (first|((with_reducible refine gate_dst (N:=1) rfl ?_);(try (refine gate_guard (by rfl) ?_;dsimp only));refine box_event ?hg (N:=1) ?hd (cs:= #[.int .i64 a0_0, .int .i64 a0_1, .string a0_2, .string a0_3, .string a0_4]) (t:=24) ?hr ?_;(case hd=>rfl);(case hg=>rfl);(case hr=>first|(go_simp;done)|(go_simp;rfl));intro gb160 hg w9 hbox hb;have n0_:=Aside0.mk (below_step (by repeat (first|(with_reducible first|exact HB.out|apply below_alloc|apply pw_below_drewN|apply below_drew1)|exact HB.out)) hb);have n1_:=Aside0.mk (hbox);have n2_:=Aside0.mk ((by rw[hg];exact(below_size (by repeat (first|(with_reducible first|exact HB.out|apply below_alloc|apply pw_below_drewN|apply below_drew1)|exact HB.out))):w.heap.size≤gb160));have n3_:=Aside0.mk ((by rw[hg];exact(below_size (by repeat (first|(with_reducible first|exact HB.out|apply below_alloc|apply pw_below_drewN|apply below_drew1)|exact HB.out))):w.heap.size≤gb160));clear HB;have HB:=n0_;have BK160:=n1_;have GW160:=n2_;have GE160:=n3_;clear n0_ n1_ n2_ n3_;clear hb hbox hg;have hcz10_0:w9.cell? ⟨gb160,0,none⟩=some (.int .i64 a0_0):=(blk_cell BK160.out 0).trans rfl;have hcz10_1:w9.cell? ⟨gb160,1,none⟩=some (.int .i64 a0_1):=(blk_cell BK160.out 1).trans rfl;have hcz10_2:w9.cell? ⟨gb160,2,none⟩=some (.string a0_2):=(blk_cell BK160.out 2).trans rfl;have hcz10_3:w9.cell? ⟨gb160,3,none⟩=some (.string a0_3):=(blk_cell BK160.out 3).trans rfl;have hcz10_4:w9.cell? ⟨gb160,4,none⟩=some (.string a0_4):=(blk_cell BK160.out 4).trans rfl;have hfz10_0:=blk_frozen BK160.out 0;have hfz10_1:=blk_frozen BK160.out 1;have hfz10_2:=blk_frozen BK160.out 2;have hfz10_3:=blk_frozen BK160.out 3;have hfz10_4:=blk_frozen BK160.out 4))
   all_goals go_ret
   all_goals exact⟨by first|rfl|(simp[errW_none,errW_some]<;>rfl)|(simp[*,errW_none,errW_some]<;>rfl),by repeat (first|(with_reducible first|exact HB.out|apply below_alloc|apply pw_below_drewN|apply below_drew1|refine below_set ?_ GE160.out)|exact HB.out)⟩
 ·rw[if_neg c2]at H
  have c2b0:(a0_0==1)=false:=beq_eq_false_iff_ne.mpr c2;have c2b1:(a0_0 !=1)=true:=bne_iff_ne.mpr c2
  by_cases c11:a0_0=2
  ·rw[if_pos c11]at H
   have c11b0:(a0_0==2)=true:=beq_iff_eq.mpr c11;have c11b1:(a0_0 !=2)=false:=bne_eq_false_iff_eq.mpr c11;clear c11
   by_cases c12:a0_1=0
   ·rw[if_pos c12]at H
    have c12b0:(a0_1==0)=true:=beq_iff_eq.mpr c12;have c12b1:(a0_1 !=0)=false:=bne_eq_false_iff_eq.mpr c12;clear c12
    by_cases c13:a0_3.toList=([]:List UInt8)
    ·rw[if_pos c13]at H
     have c13b0:(a0_3.toList==([]:List UInt8))=true:=beq_iff_eq.mpr c13;have c13b1:(a0_3.toList !=([]:List UInt8))=false:=bne_eq_false_iff_eq.mpr c13;clear c13
     by_cases c14:a0_4.toList=([]:List UInt8)
     ·rw[if_pos c14]at H
      have c14b0:(a0_4.toList==([]:List UInt8))=true:=beq_iff_eq.mpr c14;have c14b1:(a0_4.toList !=([]:List UInt8))=false:=bne_eq_false_iff_eq.mpr c14;clear c14;obtain rfl:=Option.some.inj H
      go_enter Tryd.func9,Tryd.ntmps9
      go_wp2_with (first|((with_reducible refine gate_dst (N:=1) rfl ?_);(try (refine gate_guard (by rfl) ?_;dsimp only));refine box_event ?hg (N:=1) ?hd (cs:= #[.int .i64 a0_0, .int .i64 a0_1, .string a0_2, .string a0_3, .string a0_4]) (t:=24) ?hr ?_;(case hd=>rfl);(case hg=>rfl);(case hr=>first|(go_simp;done)|(go_simp;rfl));intro gb160 hg w15 hbox hb;have n0_:=Aside0.mk (below_step (by repeat (first|(with_reducible first|exact HB.out|apply below_alloc|apply pw_below_drewN|apply below_drew1)|exact HB.out)) hb);have n1_:=Aside0.mk (hbox);have n2_:=Aside0.mk ((by rw[hg];exact(below_size (by repeat (first|(with_reducible first|exact HB.out|apply below_alloc|apply pw_below_drewN|apply below_drew1)|exact HB.out))):w.heap.size≤gb160));have n3_:=Aside0.mk ((by rw[hg];exact(below_size (by repeat (first|(with_reducible first|exact HB.out|apply below_alloc|apply pw_below_drewN|apply below_drew1)|exact HB.out))):w.heap.size≤gb160));clear HB;have HB:=n0_;have BK160:=n1_;have GW160:=n2_;have GE160:=n3_;clear n0_ n1_ n2_ n3_;clear hb hbox hg;have hcz16_0:w15.cell? ⟨gb160,0,none⟩=some (.int .i64 a0_0):=(blk_cell BK160.out 0).trans rfl;have hcz16_1:w15.cell? ⟨gb160,1,none⟩=some (.int .i64 a0_1):=(blk_cell BK160.out 1).trans rfl;have hcz16_2:w15.cell? ⟨gb160,2,none⟩=some (.string a0_2):=(blk_cell BK160.out 2).trans rfl;have hcz16_3:w15.cell? ⟨gb160,3,none⟩=some (.string a0_3):=(blk_cell BK160.out 3).trans rfl;have hcz16_4:w15.cell? ⟨gb160,4,none⟩=some (.string a0_4):=(blk_cell BK160.out 4).trans rfl;have hfz16_0:=blk_frozen BK160.out 0;have hfz16_1:=blk_frozen BK160.out 1;have hfz16_2:=blk_frozen BK160.out 2;have hfz16_3:=blk_frozen BK160.out 3;have hfz16_4:=blk_frozen BK160.out 4))
      all_goals go_ret
      all_goals exact⟨by first|rfl|(simp[errW_none,errW_some]<;>rfl)|(simp[*,errW_none,errW_some]<;>rfl),by repeat (first|(with_reducible first|exact HB.out|apply below_alloc|apply pw_below_drewN|apply below_drew1|refine below_set ?_ GE160.out)|exact HB.out)⟩
     ·rw[if_neg c14]at H
      have c14b0:(a0_4.toList==([]:List UInt8))=false:=beq_eq_false_iff_ne.mpr c14;have c14b1:(a0_4.toList !=([]:List UInt8))=true:=bne_iff_ne.mpr c14;obtain rfl:=Option.some.inj H
      go_enter Tryd.func9,Tryd.ntmps9
      go_wp2_with (first|((with_reducible refine gate_dst (N:=1) rfl ?_);(try (refine gate_guard (by rfl) ?_;dsimp only));refine box_event ?hg (N:=1) ?hd (cs:= #[.int .i64 a0_0, .int .i64 a0_1, .string a0_2, .string a0_3, .string a0_4]) (t:=24) ?hr ?_;(case hd=>rfl);(case hg=>rfl);(case hr=>first|(go_simp;done)|(go_simp;rfl));intro gb160 hg w17 hbox hb;have n0_:=Aside0.mk (below_step (by repeat (first|(with_reducible first|exact HB.out|apply below_alloc|apply pw_below_drewN|apply below_drew1)|exact HB.out)) hb);have n1_:=Aside0.mk (hbox);have n2_:=Aside0.mk ((by rw[hg];exact(below_size (by repeat (first|(with_reducible first|exact HB.out|apply below_alloc|apply pw_below_drewN|apply below_drew1)|exact HB.out))):w.heap.size≤gb160));have n3_:=Aside0.mk ((by rw[hg];exact(below_size (by repeat (first|(with_reducible first|exact HB.out|apply below_alloc|apply pw_below_drewN|apply below_drew1)|exact HB.out))):w.heap.size≤gb160));clear HB;have HB:=n0_;have BK160:=n1_;have GW160:=n2_;have GE160:=n3_;clear n0_ n1_ n2_ n3_;clear hb hbox hg;have hcz18_0:w17.cell? ⟨gb160,0,none⟩=some (.int .i64 a0_0):=(blk_cell BK160.out 0).trans rfl;have hcz18_1:w17.cell? ⟨gb160,1,none⟩=some (.int .i64 a0_1):=(blk_cell BK160.out 1).trans rfl;have hcz18_2:w17.cell? ⟨gb160,2,none⟩=some (.string a0_2):=(blk_cell BK160.out 2).trans rfl;have hcz18_3:w17.cell? ⟨gb160,3,none⟩=some (.string a0_3):=(blk_cell BK160.out 3).trans rfl;have hcz18_4:w17.cell? ⟨gb160,4,none⟩=some (.string a0_4):=(blk_cell BK160.out 4).trans rfl;have hfz18_0:=blk_frozen BK160.out 0;have hfz18_1:=blk_frozen BK160.out 1;have hfz18_2:=blk_frozen BK160.out 2;have hfz18_3:=blk_frozen BK160.out 3;have hfz18_4:=blk_frozen BK160.out 4))
      all_goals go_ret
      all_goals exact⟨by first|rfl|(simp[errW_none,errW_some]<;>rfl)|(simp[*,errW_none,errW_some]<;>rfl),by repeat (first|(with_reducible first|exact HB.out|apply below_alloc|apply pw_below_drewN|apply below_drew1|refine below_set ?_ GE160.out)|exact HB.out)⟩
    ·rw[if_neg c13]at H
     have c13b0:(a0_3.toList==([]:List UInt8))=false:=beq_eq_false_iff_ne.mpr c13;have c13b1:(a0_3.toList !=([]:List UInt8))=true:=bne_iff_ne.mpr c13;obtain rfl:=Option.some.inj H
     go_enter Tryd.func9,Tryd.ntmps9
     go_wp2_with (first|((with_reducible refine gate_dst (N:=1) rfl ?_);(try (refine gate_guard (by rfl) ?_;dsimp only));refine box_event ?hg (N:=1) ?hd (cs:= #[.int .i64 a0_0, .int .i64 a0_1, .string a0_2, .string a0_3, .string a0_4]) (t:=24) ?hr ?_;(case hd=>rfl);(case hg=>rfl);(case hr=>first|(go_simp;done)|(go_simp;rfl));intro gb160 hg w19 hbox hb;have n0_:=Aside0.mk (below_step (by repeat (first|(with_reducible first|exact HB.out|apply below_alloc|apply pw_below_drewN|apply below_drew1)|exact HB.out)) hb);have n1_:=Aside0.mk (hbox);have n2_:=Aside0.mk ((by rw[hg];exact(below_size (by repeat (first|(with_reducible first|exact HB.out|apply below_alloc|apply pw_below_drewN|apply below_drew1)|exact HB.out))):w.heap.size≤gb160));have n3_:=Aside0.mk ((by rw[hg];exact(below_size (by repeat (first|(with_reducible first|exact HB.out|apply below_alloc|apply pw_below_drewN|apply below_drew1)|exact HB.out))):w.heap.size≤gb160));clear HB;have HB:=n0_;have BK160:=n1_;have GW160:=n2_;have GE160:=n3_;clear n0_ n1_ n2_ n3_;clear hb hbox hg;have hcz20_0:w19.cell? ⟨gb160,0,none⟩=some (.int .i64 a0_0):=(blk_cell BK160.out 0).trans rfl;have hcz20_1:w19.cell? ⟨gb160,1,none⟩=some (.int .i64 a0_1):=(blk_cell BK160.out 1).trans rfl;have hcz20_2:w19.cell? ⟨gb160,2,none⟩=some (.string a0_2):=(blk_cell BK160.out 2).trans rfl;have hcz20_3:w19.cell? ⟨gb160,3,none⟩=some (.string a0_3):=(blk_cell BK160.out 3).trans rfl;have hcz20_4:w19.cell? ⟨gb160,4,none⟩=some (.string a0_4):=(blk_cell BK160.out 4).trans rfl;have hfz20_0:=blk_frozen BK160.out 0;have hfz20_1:=blk_frozen BK160.out 1;have hfz20_2:=blk_frozen BK160.out 2;have hfz20_3:=blk_frozen BK160.out 3;have hfz20_4:=blk_frozen BK160.out 4))
     all_goals go_ret
     all_goals exact⟨by first|rfl|(simp[errW_none,errW_some]<;>rfl)|(simp[*,errW_none,errW_some]<;>rfl),by repeat (first|(with_reducible first|exact HB.out|apply below_alloc|apply pw_below_drewN|apply below_drew1|refine below_set ?_ GE160.out)|exact HB.out)⟩
   ·rw[if_neg c12]at H
    have c12b0:(a0_1==0)=false:=beq_eq_false_iff_ne.mpr c12;have c12b1:(a0_1 !=0)=true:=bne_iff_ne.mpr c12;obtain rfl:=Option.some.inj H
    go_enter Tryd.func9,Tryd.ntmps9
    go_wp2_with (first|((with_reducible refine gate_dst (N:=1) rfl ?_);(try (refine gate_guard (by rfl) ?_;dsimp only));refine box_event ?hg (N:=1) ?hd (cs:= #[.int .i64 a0_0, .int .i64 a0_1, .string a0_2, .string a0_3, .string a0_4]) (t:=24) ?hr ?_;(case hd=>rfl);(case hg=>rfl);(case hr=>first|(go_simp;done)|(go_simp;rfl));intro gb160 hg w21 hbox hb;have n0_:=Aside0.mk (below_step (by repeat (first|(with_reducible first|exact HB.out|apply below_alloc|apply pw_below_drewN|apply below_drew1)|exact HB.out)) hb);have n1_:=Aside0.mk (hbox);have n2_:=Aside0.mk ((by rw[hg];exact(below_size (by repeat (first|(with_reducible first|exact HB.out|apply below_alloc|apply pw_below_drewN|apply below_drew1)|exact HB.out))):w.heap.size≤gb160));have n3_:=Aside0.mk ((by rw[hg];exact(below_size (by repeat (first|(with_reducible first|exact HB.out|apply below_alloc|apply pw_below_drewN|apply below_drew1)|exact HB.out))):w.heap.size≤gb160));clear HB;have HB:=n0_;have BK160:=n1_;have GW160:=n2_;have GE160:=n3_;clear n0_ n1_ n2_ n3_;clear hb hbox hg;have hcz22_0:w21.cell? ⟨gb160,0,none⟩=some (.int .i64 a0_0):=(blk_cell BK160.out 0).trans rfl;have hcz22_1:w21.cell? ⟨gb160,1,none⟩=some (.int .i64 a0_1):=(blk_cell BK160.out 1).trans rfl;have hcz22_2:w21.cell? ⟨gb160,2,none⟩=some (.string a0_2):=(blk_cell BK160.out 2).trans rfl;have hcz22_3:w21.cell? ⟨gb160,3,none⟩=some (.string a0_3):=(blk_cell BK160.out 3).trans rfl;have hcz22_4:w21.cell? ⟨gb160,4,none⟩=some (.string a0_4):=(blk_cell BK160.out 4).trans rfl;have hfz22_0:=blk_frozen BK160.out 0;have hfz22_1:=blk_frozen BK160.out 1;have hfz22_2:=blk_frozen BK160.out 2;have hfz22_3:=blk_frozen BK160.out 3;have hfz22_4:=blk_frozen BK160.out 4))
    all_goals go_ret
    all_goals exact⟨by first|rfl|(simp[errW_none,errW_some]<;>rfl)|(simp[*,errW_none,errW_some]<;>rfl),by repeat (first|(with_reducible first|exact HB.out|apply below_alloc|apply pw_below_drewN|apply below_drew1|refine below_set ?_ GE160.out)|exact HB.out)⟩
  ·rw[if_neg c11]at H
   have c11b0:(a0_0==2)=false:=beq_eq_false_iff_ne.mpr c11;have c11b1:(a0_0 !=2)=true:=bne_iff_ne.mpr c11
   by_cases c23:a0_0=3
   ·rw[if_pos c23]at H
    have c23b0:(a0_0==3)=true:=beq_iff_eq.mpr c23;have c23b1:(a0_0 !=3)=false:=bne_eq_false_iff_eq.mpr c23;clear c23
    by_cases c24:a0_1=0
    ·rw[if_pos c24]at H
     have c24b0:(a0_1==0)=true:=beq_iff_eq.mpr c24;have c24b1:(a0_1 !=0)=false:=bne_eq_false_iff_eq.mpr c24;clear c24
     by_cases c25:a0_3.toList=([]:List UInt8)
     ·rw[if_pos c25]at H
      have c25b0:(a0_3.toList==([]:List UInt8))=true:=beq_iff_eq.mpr c25;have c25b1:(a0_3.toList !=([]:List UInt8))=false:=bne_eq_false_iff_eq.mpr c25;clear c25
      by_cases c26:a0_4.toList=([]:List UInt8)
      ·rw[if_pos c26]at H
       have c26b0:(a0_4.toList==([]:List UInt8))=true:=beq_iff_eq.mpr c26;have c26b1:(a0_4.toList !=([]:List UInt8))=false:=bne_eq_false_iff_eq.mpr c26;clear c26;replace H:=Option.bind_eq_some_iff.mp H;obtain⟨t161,A270,H⟩:=H;replace H:(some t161)=some r:=H
       have A27:=Aside0.mk A270
       clear A270;obtain rfl:=Option.some.inj H
       go_enter Tryd.func9,Tryd.ntmps9
       go_wp2_with (first|((with_reducible refine gate_dst (N:=1) rfl ?_);(try (refine gate_guard (by rfl) ?_;dsimp only));refine box_event ?hg (N:=1) ?hd (cs:= #[.int .i64 a0_0, .int .i64 a0_1, .string a0_2, .string a0_3, .string a0_4]) (t:=24) ?hr ?_;(case hd=>rfl);(case hg=>rfl);(case hr=>first|(go_simp;done)|(go_simp;rfl));intro gb160 hg w28 hbox hb;have n0_:=Aside0.mk (below_step (by repeat (first|(with_reducible first|exact HB.out|apply below_alloc|apply pw_below_drewN|apply below_drew1)|exact HB.out)) hb);have n1_:=Aside0.mk (hbox);have n2_:=Aside0.mk ((by rw[hg];exact(below_size (by repeat (first|(with_reducible first|exact HB.out|apply below_alloc|apply pw_below_drewN|apply below_drew1)|exact HB.out))):w.heap.size≤gb160));have n3_:=Aside0.mk ((by rw[hg];exact(below_size (by repeat (first|(with_reducible first|exact HB.out|apply below_alloc|apply pw_below_drewN|apply below_drew1)|exact HB.out))):w.heap.size≤gb160));clear HB;have HB:=n0_;have BK160:=n1_;have GW160:=n2_;have GE160:=n3_;clear n0_ n1_ n2_ n3_;clear hb hbox hg;have hcz29_0:w28.cell? ⟨gb160,0,none⟩=some (.int .i64 a0_0):=(blk_cell BK160.out 0).trans rfl;have hcz29_1:w28.cell? ⟨gb160,1,none⟩=some (.int .i64 a0_1):=(blk_cell BK160.out 1).trans rfl;have hcz29_2:w28.cell? ⟨gb160,2,none⟩=some (.string a0_2):=(blk_cell BK160.out 2).trans rfl;have hcz29_3:w28.cell? ⟨gb160,3,none⟩=some (.string a0_3):=(blk_cell BK160.out 3).trans rfl;have hcz29_4:w28.cell? ⟨gb160,4,none⟩=some (.string a0_4):=(blk_cell BK160.out 4).trans rfl;have hfz29_0:=blk_frozen BK160.out 0;have hfz29_1:=blk_frozen BK160.out 1;have hfz29_2:=blk_frozen BK160.out 2;have hfz29_3:=blk_frozen BK160.out 3;have hfz29_4:=blk_frozen BK160.out 4)|(go_at_call 28;(with_reducible refine(hornbookref02_Right.calls k a0_2 t161 _ A27.out).mono ?_);rintro e w' ⟨rfl,⟨nd,rfl⟩⟩))
       all_goals go_ret
       all_goals exact⟨by first|rfl|(simp[errW_none,errW_some]<;>rfl)|(simp[*,errW_none,errW_some]<;>rfl),by repeat (first|(with_reducible first|exact HB.out|apply below_alloc|apply pw_below_drewN|apply below_drew1|refine below_set ?_ GE160.out)|exact HB.out)⟩
      ·rw[if_neg c26]at H
       have c26b0:(a0_4.toList==([]:List UInt8))=false:=beq_eq_false_iff_ne.mpr c26;have c26b1:(a0_4.toList !=([]:List UInt8))=true:=bne_iff_ne.mpr c26;obtain rfl:=Option.some.inj H
       go_enter Tryd.func9,Tryd.ntmps9
       go_wp2_with (first|((with_reducible refine gate_dst (N:=1) rfl ?_);(try (refine gate_guard (by rfl) ?_;dsimp only));refine box_event ?hg (N:=1) ?hd (cs:= #[.int .i64 a0_0, .int .i64 a0_1, .string a0_2, .string a0_3, .string a0_4]) (t:=24) ?hr ?_;(case hd=>rfl);(case hg=>rfl);(case hr=>first|(go_simp;done)|(go_simp;rfl));intro gb160 hg w30 hbox hb;have n0_:=Aside0.mk (below_step (by repeat (first|(with_reducible first|exact HB.out|apply below_alloc|apply pw_below_drewN|apply below_drew1)|exact HB.out)) hb);have n1_:=Aside0.mk (hbox);have n2_:=Aside0.mk ((by rw[hg];exact(below_size (by repeat (first|(with_reducible first|exact HB.out|apply below_alloc|apply pw_below_drewN|apply below_drew1)|exact HB.out))):w.heap.size≤gb160));have n3_:=Aside0.mk ((by rw[hg];exact(below_size (by repeat (first|(with_reducible first|exact HB.out|apply below_alloc|apply pw_below_drewN|apply below_drew1)|exact HB.out))):w.heap.size≤gb160));clear HB;have HB:=n0_;have BK160:=n1_;have GW160:=n2_;have GE160:=n3_;clear n0_ n1_ n2_ n3_;clear hb hbox hg;have hcz31_0:w30.cell? ⟨gb160,0,none⟩=some (.int .i64 a0_0):=(blk_cell BK160.out 0).trans rfl;have hcz31_1:w30.cell? ⟨gb160,1,none⟩=some (.int .i64 a0_1):=(blk_cell BK160.out 1).trans rfl;have hcz31_2:w30.cell? ⟨gb160,2,none⟩=some (.string a0_2):=(blk_cell BK160.out 2).trans rfl;have hcz31_3:w30.cell? ⟨gb160,3,none⟩=some (.string a0_3):=(blk_cell BK160.out 3).trans rfl;have hcz31_4:w30.cell? ⟨gb160,4,none⟩=some (.string a0_4):=(blk_cell BK160.out 4).trans rfl;have hfz31_0:=blk_frozen BK160.out 0;have hfz31_1:=blk_frozen BK160.out 1;have hfz31_2:=blk_frozen BK160.out 2;have hfz31_3:=blk_frozen BK160.out 3;have hfz31_4:=blk_frozen BK160.out 4))
       all_goals go_ret
       all_goals exact⟨by first|rfl|(simp[errW_none,errW_some]<;>rfl)|(simp[*,errW_none,errW_some]<;>rfl),by repeat (first|(with_reducible first|exact HB.out|apply below_alloc|apply pw_below_drewN|apply below_drew1|refine below_set ?_ GE160.out)|exact HB.out)⟩
     ·rw[if_neg c25]at H
      have c25b0:(a0_3.toList==([]:List UInt8))=false:=beq_eq_false_iff_ne.mpr c25;have c25b1:(a0_3.toList !=([]:List UInt8))=true:=bne_iff_ne.mpr c25;obtain rfl:=Option.some.inj H
      go_enter Tryd.func9,Tryd.ntmps9
      go_wp2_with (first|((with_reducible refine gate_dst (N:=1) rfl ?_);(try (refine gate_guard (by rfl) ?_;dsimp only));refine box_event ?hg (N:=1) ?hd (cs:= #[.int .i64 a0_0, .int .i64 a0_1, .string a0_2, .string a0_3, .string a0_4]) (t:=24) ?hr ?_;(case hd=>rfl);(case hg=>rfl);(case hr=>first|(go_simp;done)|(go_simp;rfl));intro gb160 hg w32 hbox hb;have n0_:=Aside0.mk (below_step (by repeat (first|(with_reducible first|exact HB.out|apply below_alloc|apply pw_below_drewN|apply below_drew1)|exact HB.out)) hb);have n1_:=Aside0.mk (hbox);have n2_:=Aside0.mk ((by rw[hg];exact(below_size (by repeat (first|(with_reducible first|exact HB.out|apply below_alloc|apply pw_below_drewN|apply below_drew1)|exact HB.out))):w.heap.size≤gb160));have n3_:=Aside0.mk ((by rw[hg];exact(below_size (by repeat (first|(with_reducible first|exact HB.out|apply below_alloc|apply pw_below_drewN|apply below_drew1)|exact HB.out))):w.heap.size≤gb160));clear HB;have HB:=n0_;have BK160:=n1_;have GW160:=n2_;have GE160:=n3_;clear n0_ n1_ n2_ n3_;clear hb hbox hg;have hcz33_0:w32.cell? ⟨gb160,0,none⟩=some (.int .i64 a0_0):=(blk_cell BK160.out 0).trans rfl;have hcz33_1:w32.cell? ⟨gb160,1,none⟩=some (.int .i64 a0_1):=(blk_cell BK160.out 1).trans rfl;have hcz33_2:w32.cell? ⟨gb160,2,none⟩=some (.string a0_2):=(blk_cell BK160.out 2).trans rfl;have hcz33_3:w32.cell? ⟨gb160,3,none⟩=some (.string a0_3):=(blk_cell BK160.out 3).trans rfl;have hcz33_4:w32.cell? ⟨gb160,4,none⟩=some (.string a0_4):=(blk_cell BK160.out 4).trans rfl;have hfz33_0:=blk_frozen BK160.out 0;have hfz33_1:=blk_frozen BK160.out 1;have hfz33_2:=blk_frozen BK160.out 2;have hfz33_3:=blk_frozen BK160.out 3;have hfz33_4:=blk_frozen BK160.out 4))
      all_goals go_ret
      all_goals exact⟨by first|rfl|(simp[errW_none,errW_some]<;>rfl)|(simp[*,errW_none,errW_some]<;>rfl),by repeat (first|(with_reducible first|exact HB.out|apply below_alloc|apply pw_below_drewN|apply below_drew1|refine below_set ?_ GE160.out)|exact HB.out)⟩
    ·rw[if_neg c24]at H
     have c24b0:(a0_1==0)=false:=beq_eq_false_iff_ne.mpr c24;have c24b1:(a0_1 !=0)=true:=bne_iff_ne.mpr c24;obtain rfl:=Option.some.inj H
     go_enter Tryd.func9,Tryd.ntmps9
     go_wp2_with (first|((with_reducible refine gate_dst (N:=1) rfl ?_);(try (refine gate_guard (by rfl) ?_;dsimp only));refine box_event ?hg (N:=1) ?hd (cs:= #[.int .i64 a0_0, .int .i64 a0_1, .string a0_2, .string a0_3, .string a0_4]) (t:=24) ?hr ?_;(case hd=>rfl);(case hg=>rfl);(case hr=>first|(go_simp;done)|(go_simp;rfl));intro gb160 hg w34 hbox hb;have n0_:=Aside0.mk (below_step (by repeat (first|(with_reducible first|exact HB.out|apply below_alloc|apply pw_below_drewN|apply below_drew1)|exact HB.out)) hb);have n1_:=Aside0.mk (hbox);have n2_:=Aside0.mk ((by rw[hg];exact(below_size (by repeat (first|(with_reducible first|exact HB.out|apply below_alloc|apply pw_below_drewN|apply below_drew1)|exact HB.out))):w.heap.size≤gb160));have n3_:=Aside0.mk ((by rw[hg];exact(below_size (by repeat (first|(with_reducible first|exact HB.out|apply below_alloc|apply pw_below_drewN|apply below_drew1)|exact HB.out))):w.heap.size≤gb160));clear HB;have HB:=n0_;have BK160:=n1_;have GW160:=n2_;have GE160:=n3_;clear n0_ n1_ n2_ n3_;clear hb hbox hg;have hcz35_0:w34.cell? ⟨gb160,0,none⟩=some (.int .i64 a0_0):=(blk_cell BK160.out 0).trans rfl;have hcz35_1:w34.cell? ⟨gb160,1,none⟩=some (.int .i64 a0_1):=(blk_cell BK160.out 1).trans rfl;have hcz35_2:w34.cell? ⟨gb160,2,none⟩=some (.string a0_2):=(blk_cell BK160.out 2).trans rfl;have hcz35_3:w34.cell? ⟨gb160,3,none⟩=some (.string a0_3):=(blk_cell BK160.out 3).trans rfl;have hcz35_4:w34.cell? ⟨gb160,4,none⟩=some (.string a0_4):=(blk_cell BK160.out 4).trans rfl;have hfz35_0:=blk_frozen BK160.out 0;have hfz35_1:=blk_frozen BK160.out 1;have hfz35_2:=blk_frozen BK160.out 2;have hfz35_3:=blk_frozen BK160.out 3;have hfz35_4:=blk_frozen BK160.out 4))
     all_goals go_ret
     all_goals exact⟨by first|rfl|(simp[errW_none,errW_some]<;>rfl)|(simp[*,errW_none,errW_some]<;>rfl),by repeat (first|(with_reducible first|exact HB.out|apply below_alloc|apply pw_below_drewN|apply below_drew1|refine below_set ?_ GE160.out)|exact HB.out)⟩
   ·rw[if_neg c23]at H
    have c23b0:(a0_0==3)=false:=beq_eq_false_iff_ne.mpr c23;have c23b1:(a0_0 !=3)=true:=bne_iff_ne.mpr c23
    by_cases c36:a0_0=4
    ·rw[if_pos c36]at H
     have c36b0:(a0_0==4)=true:=beq_iff_eq.mpr c36;have c36b1:(a0_0 !=4)=false:=bne_eq_false_iff_eq.mpr c36;clear c36
     by_cases c37:a0_1=0
     ·rw[if_pos c37]at H
      have c37b0:(a0_1==0)=true:=beq_iff_eq.mpr c37;have c37b1:(a0_1 !=0)=false:=bne_eq_false_iff_eq.mpr c37;clear c37;replace H:=Option.bind_eq_some_iff.mp H;obtain⟨t162,A380,H⟩:=H;replace H:(if t162=true then((hornbookref01_Name.f k a0_3).bind fun t163=>(if t163=true then((hornbookref02_Right.f k a0_4).bind fun t164=>(some t164))else(some false)))else(some false))=some r:=H
      have A38:=Aside0.mk A380
      clear A380
      by_cases c39:t162=true
      ·subst c39
       have H1:((hornbookref01_Name.f k a0_3).bind fun t163=>(if t163=true then((hornbookref02_Right.f k a0_4).bind fun t164=>(some t164))else(some false)))=some r:=by rw[if_pos rfl]at H;exact H
       clear H
       have H:=H1
       clear H1;replace H:=Option.bind_eq_some_iff.mp H;obtain⟨t163,A400,H⟩:=H;replace H:(if t163=true then((hornbookref02_Right.f k a0_4).bind fun t164=>(some t164))else(some false))=some r:=H
       have A40:=Aside0.mk A400
       clear A400
       by_cases c41:t163=true
       ·subst c41
        have H1:((hornbookref02_Right.f k a0_4).bind fun t164=>(some t164))=some r:=by rw[if_pos rfl]at H;exact H
        clear H
        have H:=H1
        clear H1;replace H:=Option.bind_eq_some_iff.mp H;obtain⟨t164,A420,H⟩:=H;replace H:(some t164)=some r:=H
        have A42:=Aside0.mk A420
        clear A420;obtain rfl:=Option.some.inj H
        go_enter Tryd.func9,Tryd.ntmps9
        go_wp2_with (first|((with_reducible refine gate_dst (N:=1) rfl ?_);(try (refine gate_guard (by rfl) ?_;dsimp only));refine box_event ?hg (N:=1) ?hd (cs:= #[.int .i64 a0_0, .int .i64 a0_1, .string a0_2, .string a0_3, .string a0_4]) (t:=24) ?hr ?_;(case hd=>rfl);(case hg=>rfl);(case hr=>first|(go_simp;done)|(go_simp;rfl));intro gb160 hg w43 hbox hb;have n0_:=Aside0.mk (below_step (by repeat (first|(with_reducible first|exact HB.out|apply below_alloc|apply pw_below_drewN|apply below_drew1)|exact HB.out)) hb);have n1_:=Aside0.mk (hbox);have n2_:=Aside0.mk ((by rw[hg];exact(below_size (by repeat (first|(with_reducible first|exact HB.out|apply below_alloc|apply pw_below_drewN|apply below_drew1)|exact HB.out))):w.heap.size≤gb160));have n3_:=Aside0.mk ((by rw[hg];exact(below_size (by repeat (first|(with_reducible first|exact HB.out|apply below_alloc|apply pw_below_drewN|apply below_drew1)|exact HB.out))):w.heap.size≤gb160));clear HB;have HB:=n0_;have BK160:=n1_;have GW160:=n2_;have GE160:=n3_;clear n0_ n1_ n2_ n3_;clear hb hbox hg;have hcz44_0:w43.cell? ⟨gb160,0,none⟩=some (.int .i64 a0_0):=(blk_cell BK160.out 0).trans rfl;have hcz44_1:w43.cell? ⟨gb160,1,none⟩=some (.int .i64 a0_1):=(blk_cell BK160.out 1).trans rfl;have hcz44_2:w43.cell? ⟨gb160,2,none⟩=some (.string a0_2):=(blk_cell BK160.out 2).trans rfl;have hcz44_3:w43.cell? ⟨gb160,3,none⟩=some (.string a0_3):=(blk_cell BK160.out 3).trans rfl;have hcz44_4:w43.cell? ⟨gb160,4,none⟩=some (.string a0_4):=(blk_cell BK160.out 4).trans rfl;have hfz44_0:=blk_frozen BK160.out 0;have hfz44_1:=blk_frozen BK160.out 1;have hfz44_2:=blk_frozen BK160.out 2;have hfz44_3:=blk_frozen BK160.out 3;have hfz44_4:=blk_frozen BK160.out 4)|(go_at_call 29;(with_reducible refine(hornbookref01_Name.calls k a0_2 true _ A38.out).mono ?_);rintro e w' ⟨rfl,⟨nd,rfl⟩⟩)|(go_at_call 29;(with_reducible refine(hornbookref01_Name.calls k a0_3 true _ A40.out).mono ?_);rintro e w' ⟨rfl,⟨nd,rfl⟩⟩)|(go_at_call 28;(with_reducible refine(hornbookref02_Right.calls k a0_4 t164 _ A42.out).mono ?_);rintro e w' ⟨rfl,⟨nd,rfl⟩⟩))
        all_goals go_ret
        all_goals exact⟨by first|rfl|(simp[errW_none,errW_some]<;>rfl)|(simp[*,errW_none,errW_some]<;>rfl),by repeat (first|(with_reducible first|exact HB.out|apply below_alloc|apply pw_below_drewN|apply below_drew1|refine below_set ?_ GE160.out)|exact HB.out)⟩
       ·replace c41:=Bool.eq_false_iff.mpr c41
        subst c41
        have H1:(some false)=some r:=by rw[if_neg (show¬(false=true) by decide)]at H;exact H
        clear H
        have H:=H1
        clear H1;obtain rfl:=Option.some.inj H
        go_enter Tryd.func9,Tryd.ntmps9
        go_wp2_with (first|((with_reducible refine gate_dst (N:=1) rfl ?_);(try (refine gate_guard (by rfl) ?_;dsimp only));refine box_event ?hg (N:=1) ?hd (cs:= #[.int .i64 a0_0, .int .i64 a0_1, .string a0_2, .string a0_3, .string a0_4]) (t:=24) ?hr ?_;(case hd=>rfl);(case hg=>rfl);(case hr=>first|(go_simp;done)|(go_simp;rfl));intro gb160 hg w45 hbox hb;have n0_:=Aside0.mk (below_step (by repeat (first|(with_reducible first|exact HB.out|apply below_alloc|apply pw_below_drewN|apply below_drew1)|exact HB.out)) hb);have n1_:=Aside0.mk (hbox);have n2_:=Aside0.mk ((by rw[hg];exact(below_size (by repeat (first|(with_reducible first|exact HB.out|apply below_alloc|apply pw_below_drewN|apply below_drew1)|exact HB.out))):w.heap.size≤gb160));have n3_:=Aside0.mk ((by rw[hg];exact(below_size (by repeat (first|(with_reducible first|exact HB.out|apply below_alloc|apply pw_below_drewN|apply below_drew1)|exact HB.out))):w.heap.size≤gb160));clear HB;have HB:=n0_;have BK160:=n1_;have GW160:=n2_;have GE160:=n3_;clear n0_ n1_ n2_ n3_;clear hb hbox hg;have hcz46_0:w45.cell? ⟨gb160,0,none⟩=some (.int .i64 a0_0):=(blk_cell BK160.out 0).trans rfl;have hcz46_1:w45.cell? ⟨gb160,1,none⟩=some (.int .i64 a0_1):=(blk_cell BK160.out 1).trans rfl;have hcz46_2:w45.cell? ⟨gb160,2,none⟩=some (.string a0_2):=(blk_cell BK160.out 2).trans rfl;have hcz46_3:w45.cell? ⟨gb160,3,none⟩=some (.string a0_3):=(blk_cell BK160.out 3).trans rfl;have hcz46_4:w45.cell? ⟨gb160,4,none⟩=some (.string a0_4):=(blk_cell BK160.out 4).trans rfl;have hfz46_0:=blk_frozen BK160.out 0;have hfz46_1:=blk_frozen BK160.out 1;have hfz46_2:=blk_frozen BK160.out 2;have hfz46_3:=blk_frozen BK160.out 3;have hfz46_4:=blk_frozen BK160.out 4)|(go_at_call 29;(with_reducible refine(hornbookref01_Name.calls k a0_2 true _ A38.out).mono ?_);rintro e w' ⟨rfl,⟨nd,rfl⟩⟩)|(go_at_call 29;(with_reducible refine(hornbookref01_Name.calls k a0_3 false _ A40.out).mono ?_);rintro e w' ⟨rfl,⟨nd,rfl⟩⟩))
        all_goals go_ret
        all_goals exact⟨by first|rfl|(simp[errW_none,errW_some]<;>rfl)|(simp[*,errW_none,errW_some]<;>rfl),by repeat (first|(with_reducible first|exact HB.out|apply below_alloc|apply pw_below_drewN|apply below_drew1|refine below_set ?_ GE160.out)|exact HB.out)⟩
      ·replace c39:=Bool.eq_false_iff.mpr c39
       subst c39
       have H1:(some false)=some r:=by rw[if_neg (show¬(false=true) by decide)]at H;exact H
       clear H
       have H:=H1
       clear H1;obtain rfl:=Option.some.inj H
       go_enter Tryd.func9,Tryd.ntmps9
       go_wp2_with (first|((with_reducible refine gate_dst (N:=1) rfl ?_);(try (refine gate_guard (by rfl) ?_;dsimp only));refine box_event ?hg (N:=1) ?hd (cs:= #[.int .i64 a0_0, .int .i64 a0_1, .string a0_2, .string a0_3, .string a0_4]) (t:=24) ?hr ?_;(case hd=>rfl);(case hg=>rfl);(case hr=>first|(go_simp;done)|(go_simp;rfl));intro gb160 hg w47 hbox hb;have n0_:=Aside0.mk (below_step (by repeat (first|(with_reducible first|exact HB.out|apply below_alloc|apply pw_below_drewN|apply below_drew1)|exact HB.out)) hb);have n1_:=Aside0.mk (hbox);have n2_:=Aside0.mk ((by rw[hg];exact(below_size (by repeat (first|(with_reducible first|exact HB.out|apply below_alloc|apply pw_below_drewN|apply below_drew1)|exact HB.out))):w.heap.size≤gb160));have n3_:=Aside0.mk ((by rw[hg];exact(below_size (by repeat (first|(with_reducible first|exact HB.out|apply below_alloc|apply pw_below_drewN|apply below_drew1)|exact HB.out))):w.heap.size≤gb160));clear HB;have HB:=n0_;have BK160:=n1_;have GW160:=n2_;have GE160:=n3_;clear n0_ n1_ n2_ n3_;clear hb hbox hg;have hcz48_0:w47.cell? ⟨gb160,0,none⟩=some (.int .i64 a0_0):=(blk_cell BK160.out 0).trans rfl;have hcz48_1:w47.cell? ⟨gb160,1,none⟩=some (.int .i64 a0_1):=(blk_cell BK160.out 1).trans rfl;have hcz48_2:w47.cell? ⟨gb160,2,none⟩=some (.string a0_2):=(blk_cell BK160.out 2).trans rfl;have hcz48_3:w47.cell? ⟨gb160,3,none⟩=some (.string a0_3):=(blk_cell BK160.out 3).trans rfl;have hcz48_4:w47.cell? ⟨gb160,4,none⟩=some (.string a0_4):=(blk_cell BK160.out 4).trans rfl;have hfz48_0:=blk_frozen BK160.out 0;have hfz48_1:=blk_frozen BK160.out 1;have hfz48_2:=blk_frozen BK160.out 2;have hfz48_3:=blk_frozen BK160.out 3;have hfz48_4:=blk_frozen BK160.out 4)|(go_at_call 29;(with_reducible refine(hornbookref01_Name.calls k a0_2 false _ A38.out).mono ?_);rintro e w' ⟨rfl,⟨nd,rfl⟩⟩))
       all_goals go_ret
       all_goals exact⟨by first|rfl|(simp[errW_none,errW_some]<;>rfl)|(simp[*,errW_none,errW_some]<;>rfl),by repeat (first|(with_reducible first|exact HB.out|apply below_alloc|apply pw_below_drewN|apply below_drew1|refine below_set ?_ GE160.out)|exact HB.out)⟩
     ·rw[if_neg c37]at H
      have c37b0:(a0_1==0)=false:=beq_eq_false_iff_ne.mpr c37;have c37b1:(a0_1 !=0)=true:=bne_iff_ne.mpr c37;obtain rfl:=Option.some.inj H
      go_enter Tryd.func9,Tryd.ntmps9
      go_wp2_with (first|((with_reducible refine gate_dst (N:=1) rfl ?_);(try (refine gate_guard (by rfl) ?_;dsimp only));refine box_event ?hg (N:=1) ?hd (cs:= #[.int .i64 a0_0, .int .i64 a0_1, .string a0_2, .string a0_3, .string a0_4]) (t:=24) ?hr ?_;(case hd=>rfl);(case hg=>rfl);(case hr=>first|(go_simp;done)|(go_simp;rfl));intro gb160 hg w49 hbox hb;have n0_:=Aside0.mk (below_step (by repeat (first|(with_reducible first|exact HB.out|apply below_alloc|apply pw_below_drewN|apply below_drew1)|exact HB.out)) hb);have n1_:=Aside0.mk (hbox);have n2_:=Aside0.mk ((by rw[hg];exact(below_size (by repeat (first|(with_reducible first|exact HB.out|apply below_alloc|apply pw_below_drewN|apply below_drew1)|exact HB.out))):w.heap.size≤gb160));have n3_:=Aside0.mk ((by rw[hg];exact(below_size (by repeat (first|(with_reducible first|exact HB.out|apply below_alloc|apply pw_below_drewN|apply below_drew1)|exact HB.out))):w.heap.size≤gb160));clear HB;have HB:=n0_;have BK160:=n1_;have GW160:=n2_;have GE160:=n3_;clear n0_ n1_ n2_ n3_;clear hb hbox hg;have hcz50_0:w49.cell? ⟨gb160,0,none⟩=some (.int .i64 a0_0):=(blk_cell BK160.out 0).trans rfl;have hcz50_1:w49.cell? ⟨gb160,1,none⟩=some (.int .i64 a0_1):=(blk_cell BK160.out 1).trans rfl;have hcz50_2:w49.cell? ⟨gb160,2,none⟩=some (.string a0_2):=(blk_cell BK160.out 2).trans rfl;have hcz50_3:w49.cell? ⟨gb160,3,none⟩=some (.string a0_3):=(blk_cell BK160.out 3).trans rfl;have hcz50_4:w49.cell? ⟨gb160,4,none⟩=some (.string a0_4):=(blk_cell BK160.out 4).trans rfl;have hfz50_0:=blk_frozen BK160.out 0;have hfz50_1:=blk_frozen BK160.out 1;have hfz50_2:=blk_frozen BK160.out 2;have hfz50_3:=blk_frozen BK160.out 3;have hfz50_4:=blk_frozen BK160.out 4))
      all_goals go_ret
      all_goals exact⟨by first|rfl|(simp[errW_none,errW_some]<;>rfl)|(simp[*,errW_none,errW_some]<;>rfl),by repeat (first|(with_reducible first|exact HB.out|apply below_alloc|apply pw_below_drewN|apply below_drew1|refine below_set ?_ GE160.out)|exact HB.out)⟩
    ·rw[if_neg c36]at H
     have c36b0:(a0_0==4)=false:=beq_eq_false_iff_ne.mpr c36;have c36b1:(a0_0 !=4)=true:=bne_iff_ne.mpr c36
     by_cases c51:a0_0=5
     ·rw[if_pos c51]at H
      have c51b0:(a0_0==5)=true:=beq_iff_eq.mpr c51;have c51b1:(a0_0 !=5)=false:=bne_eq_false_iff_eq.mpr c51;clear c51;replace H:=Option.bind_eq_some_iff.mp H;obtain⟨⟨t165,t166,t167⟩,A520,H⟩:=H;replace H:(if a0_1=0 then((hornbookref01_Name.f k a0_2).bind fun t170=>(if t170=true then((hornbookref01_Name.f k a0_3).bind fun t171=>(if t171=true then(some (t167==0))else(some false)))else(some false)))else(some false))=some r:=H
      have A52:=Aside0.mk A520
      clear A520
      by_cases c53:a0_1=0
      ·rw[if_pos c53]at H
       have c53b0:(a0_1==0)=true:=beq_iff_eq.mpr c53;have c53b1:(a0_1 !=0)=false:=bne_eq_false_iff_eq.mpr c53;clear c53;replace H:=Option.bind_eq_some_iff.mp H;obtain⟨t170,A540,H⟩:=H;replace H:(if t170=true then((hornbookref01_Name.f k a0_3).bind fun t171=>(if t171=true then(some (t167==0))else(some false)))else(some false))=some r:=H
       have A54:=Aside0.mk A540
       clear A540
       by_cases c55:t170=true
       ·subst c55
        have H1:((hornbookref01_Name.f k a0_3).bind fun t171=>(if t171=true then(some (t167==0))else(some false)))=some r:=by rw[if_pos rfl]at H;exact H
        clear H
        have H:=H1
        clear H1;replace H:=Option.bind_eq_some_iff.mp H;obtain⟨t171,A560,H⟩:=H;replace H:(if t171=true then(some (t167==0))else(some false))=some r:=H
        have A56:=Aside0.mk A560
        clear A560
        by_cases c57:t171=true
        ·subst c57
         have H1:(some (t167==0))=some r:=by rw[if_pos rfl]at H;exact H
         clear H
         have H:=H1
         clear H1;obtain rfl:=Option.some.inj H
         go_enter Tryd.func9,Tryd.ntmps9
         go_wp2_with (first|((with_reducible refine gate_dst (N:=1) rfl ?_);(try (refine gate_guard (by rfl) ?_;dsimp only));refine box_event ?hg (N:=1) ?hd (cs:= #[.int .i64 a0_0, .int .i64 a0_1, .string a0_2, .string a0_3, .string a0_4]) (t:=24) ?hr ?_;(case hd=>rfl);(case hg=>rfl);(case hr=>first|(go_simp;done)|(go_simp;rfl));intro gb160 hg w58 hbox hb;have n0_:=Aside0.mk (below_step (by repeat (first|(with_reducible first|exact HB.out|apply below_alloc|apply pw_below_drewN|apply below_drew1)|exact HB.out)) hb);have n1_:=Aside0.mk (hbox);have n2_:=Aside0.mk ((by rw[hg];exact(below_size (by repeat (first|(with_reducible first|exact HB.out|apply below_alloc|apply pw_below_drewN|apply below_drew1)|exact HB.out))):w.heap.size≤gb160));have n3_:=Aside0.mk ((by rw[hg];exact(below_size (by repeat (first|(with_reducible first|exact HB.out|apply below_alloc|apply pw_below_drewN|apply below_drew1)|exact HB.out))):w.heap.size≤gb160));clear HB;have HB:=n0_;have BK160:=n1_;have GW160:=n2_;have GE160:=n3_;clear n0_ n1_ n2_ n3_;clear hb hbox hg;have hcz59_0:w58.cell? ⟨gb160,0,none⟩=some (.int .i64 a0_0):=(blk_cell BK160.out 0).trans rfl;have hcz59_1:w58.cell? ⟨gb160,1,none⟩=some (.int .i64 a0_1):=(blk_cell BK160.out 1).trans rfl;have hcz59_2:w58.cell? ⟨gb160,2,none⟩=some (.string a0_2):=(blk_cell BK160.out 2).trans rfl;have hcz59_3:w58.cell? ⟨gb160,3,none⟩=some (.string a0_3):=(blk_cell BK160.out 3).trans rfl;have hcz59_4:w58.cell? ⟨gb160,4,none⟩=some (.string a0_4):=(blk_cell BK160.out 4).trans rfl;have hfz59_0:=blk_frozen BK160.out 0;have hfz59_1:=blk_frozen BK160.out 1;have hfz59_2:=blk_frozen BK160.out 2;have hfz59_3:=blk_frozen BK160.out 3;have hfz59_4:=blk_frozen BK160.out 4)|((with_reducible refine gate_callee (f:=30) rfl ?_);refine goesL_ (some 89) rfl rfl Tryd.func30 (by kernel_rfl) rfl #[.string a0_4] rfl (by(try simp only[List.map_toArray,List.map_cons,List.map_nil]);first|done|rfl|(simp only[List.length_drop,List.length_take];rfl)) ?_;(with_reducible refine(hornbookref02_Split.calls k a0_4 t165 t166 t167 _ A52.out).mono ?_);rintro e w60 ⟨v168,rfl,ho0,hb⟩;refine⟨_,rfl,?_⟩;have n0_:=Aside0.mk (Kd.R_lower ho0 (below_size (by repeat (first|(with_reducible first|exact HB.out|apply below_alloc|apply pw_below_drewN|apply below_drew1|refine below_set ?_ GE160.out)|exact HB.out))));have n1_:=Aside0.mk (blk_below (g:=gb160) (o:= .cells #[.int .i64 a0_0, .int .i64 a0_1, .string a0_2, .string a0_3, .string a0_4] 24 (0,0)) (by(with_reducible repeat (first|refine blk_drewN ?_ _|refine blk_drew ?_|refine blk_alloc ?_ _));exact BK160.out) hb);have n2_:=Aside0.mk (below_step (by repeat (first|(with_reducible first|exact HB.out|apply below_alloc|apply pw_below_drewN|apply below_drew1|refine below_set ?_ GE160.out)|exact HB.out)) hb);clear BK160;clear HB;have HO169:=n0_;have BK160:=n1_;have HB:=n2_;clear n0_ n1_ n2_;(try clear hb);(try clear hb2);(try clear hk);(try clear hi);(try clear ho0);have hcz61_0:w60.cell? ⟨gb160,0,none⟩=some (.int .i64 a0_0):=(blk_cell BK160.out 0).trans rfl;have hcz61_1:w60.cell? ⟨gb160,1,none⟩=some (.int .i64 a0_1):=(blk_cell BK160.out 1).trans rfl;have hcz61_2:w60.cell? ⟨gb160,2,none⟩=some (.string a0_2):=(blk_cell BK160.out 2).trans rfl;have hcz61_3:w60.cell? ⟨gb160,3,none⟩=some (.string a0_3):=(blk_cell BK160.out 3).trans rfl;have hcz61_4:w60.cell? ⟨gb160,4,none⟩=some (.string a0_4):=(blk_cell BK160.out 4).trans rfl;have hfz61_0:=blk_frozen BK160.out 0;have hfz61_1:=blk_frozen BK160.out 1;have hfz61_2:=blk_frozen BK160.out 2;have hfz61_3:=blk_frozen BK160.out 3;have hfz61_4:=blk_frozen BK160.out 4)|(go_at_call 29;(with_reducible refine(hornbookref01_Name.calls k a0_2 true _ A54.out).mono ?_);rintro e w' ⟨rfl,⟨nd,rfl⟩⟩)|(go_at_call 29;(with_reducible refine(hornbookref01_Name.calls k a0_3 true _ A56.out).mono ?_);rintro e w' ⟨rfl,⟨nd,rfl⟩⟩))
         all_goals go_ret
         all_goals exact⟨by first|rfl|(simp[errW_none,errW_some]<;>rfl)|(simp[*,errW_none,errW_some]<;>rfl),by repeat (first|(with_reducible first|exact HB.out|apply below_alloc|apply pw_below_drewN|apply below_drew1|refine below_set ?_ GE160.out)|exact HB.out)⟩
        ·replace c57:=Bool.eq_false_iff.mpr c57
         subst c57
         have H1:(some false)=some r:=by rw[if_neg (show¬(false=true) by decide)]at H;exact H
         clear H
         have H:=H1
         clear H1;obtain rfl:=Option.some.inj H
         go_enter Tryd.func9,Tryd.ntmps9
         go_wp2_with (first|((with_reducible refine gate_dst (N:=1) rfl ?_);(try (refine gate_guard (by rfl) ?_;dsimp only));refine box_event ?hg (N:=1) ?hd (cs:= #[.int .i64 a0_0, .int .i64 a0_1, .string a0_2, .string a0_3, .string a0_4]) (t:=24) ?hr ?_;(case hd=>rfl);(case hg=>rfl);(case hr=>first|(go_simp;done)|(go_simp;rfl));intro gb160 hg w62 hbox hb;have n0_:=Aside0.mk (below_step (by repeat (first|(with_reducible first|exact HB.out|apply below_alloc|apply pw_below_drewN|apply below_drew1)|exact HB.out)) hb);have n1_:=Aside0.mk (hbox);have n2_:=Aside0.mk ((by rw[hg];exact(below_size (by repeat (first|(with_reducible first|exact HB.out|apply below_alloc|apply pw_below_drewN|apply below_drew1)|exact HB.out))):w.heap.size≤gb160));have n3_:=Aside0.mk ((by rw[hg];exact(below_size (by repeat (first|(with_reducible first|exact HB.out|apply below_alloc|apply pw_below_drewN|apply below_drew1)|exact HB.out))):w.heap.size≤gb160));clear HB;have HB:=n0_;have BK160:=n1_;have GW160:=n2_;have GE160:=n3_;clear n0_ n1_ n2_ n3_;clear hb hbox hg;have hcz63_0:w62.cell? ⟨gb160,0,none⟩=some (.int .i64 a0_0):=(blk_cell BK160.out 0).trans rfl;have hcz63_1:w62.cell? ⟨gb160,1,none⟩=some (.int .i64 a0_1):=(blk_cell BK160.out 1).trans rfl;have hcz63_2:w62.cell? ⟨gb160,2,none⟩=some (.string a0_2):=(blk_cell BK160.out 2).trans rfl;have hcz63_3:w62.cell? ⟨gb160,3,none⟩=some (.string a0_3):=(blk_cell BK160.out 3).trans rfl;have hcz63_4:w62.cell? ⟨gb160,4,none⟩=some (.string a0_4):=(blk_cell BK160.out 4).trans rfl;have hfz63_0:=blk_frozen BK160.out 0;have hfz63_1:=blk_frozen BK160.out 1;have hfz63_2:=blk_frozen BK160.out 2;have hfz63_3:=blk_frozen BK160.out 3;have hfz63_4:=blk_frozen BK160.out 4)|((with_reducible refine gate_callee (f:=30) rfl ?_);refine goesL_ (some 89) rfl rfl Tryd.func30 (by kernel_rfl) rfl #[.string a0_4] rfl (by(try simp only[List.map_toArray,List.map_cons,List.map_nil]);first|done|rfl|(simp only[List.length_drop,List.length_take];rfl)) ?_;(with_reducible refine(hornbookref02_Split.calls k a0_4 t165 t166 t167 _ A52.out).mono ?_);rintro e w64 ⟨v168,rfl,ho0,hb⟩;refine⟨_,rfl,?_⟩;have n0_:=Aside0.mk (Kd.R_lower ho0 (below_size (by repeat (first|(with_reducible first|exact HB.out|apply below_alloc|apply pw_below_drewN|apply below_drew1|refine below_set ?_ GE160.out)|exact HB.out))));have n1_:=Aside0.mk (blk_below (g:=gb160) (o:= .cells #[.int .i64 a0_0, .int .i64 a0_1, .string a0_2, .string a0_3, .string a0_4] 24 (0,0)) (by(with_reducible repeat (first|refine blk_drewN ?_ _|refine blk_drew ?_|refine blk_alloc ?_ _));exact BK160.out) hb);have n2_:=Aside0.mk (below_step (by repeat (first|(with_reducible first|exact HB.out|apply below_alloc|apply pw_below_drewN|apply below_drew1|refine below_set ?_ GE160.out)|exact HB.out)) hb);clear BK160;clear HB;have HO169:=n0_;have BK160:=n1_;have HB:=n2_;clear n0_ n1_ n2_;(try clear hb);(try clear hb2);(try clear hk);(try clear hi);(try clear ho0);have hcz65_0:w64.cell? ⟨gb160,0,none⟩=some (.int .i64 a0_0):=(blk_cell BK160.out 0).trans rfl;have hcz65_1:w64.cell? ⟨gb160,1,none⟩=some (.int .i64 a0_1):=(blk_cell BK160.out 1).trans rfl;have hcz65_2:w64.cell? ⟨gb160,2,none⟩=some (.string a0_2):=(blk_cell BK160.out 2).trans rfl;have hcz65_3:w64.cell? ⟨gb160,3,none⟩=some (.string a0_3):=(blk_cell BK160.out 3).trans rfl;have hcz65_4:w64.cell? ⟨gb160,4,none⟩=some (.string a0_4):=(blk_cell BK160.out 4).trans rfl;have hfz65_0:=blk_frozen BK160.out 0;have hfz65_1:=blk_frozen BK160.out 1;have hfz65_2:=blk_frozen BK160.out 2;have hfz65_3:=blk_frozen BK160.out 3;have hfz65_4:=blk_frozen BK160.out 4)|(go_at_call 29;(with_reducible refine(hornbookref01_Name.calls k a0_2 true _ A54.out).mono ?_);rintro e w' ⟨rfl,⟨nd,rfl⟩⟩)|(go_at_call 29;(with_reducible refine(hornbookref01_Name.calls k a0_3 false _ A56.out).mono ?_);rintro e w' ⟨rfl,⟨nd,rfl⟩⟩))
         all_goals go_ret
         all_goals exact⟨by first|rfl|(simp[errW_none,errW_some]<;>rfl)|(simp[*,errW_none,errW_some]<;>rfl),by repeat (first|(with_reducible first|exact HB.out|apply below_alloc|apply pw_below_drewN|apply below_drew1|refine below_set ?_ GE160.out)|exact HB.out)⟩
       ·replace c55:=Bool.eq_false_iff.mpr c55
        subst c55
        have H1:(some false)=some r:=by rw[if_neg (show¬(false=true) by decide)]at H;exact H
        clear H
        have H:=H1
        clear H1;obtain rfl:=Option.some.inj H
        go_enter Tryd.func9,Tryd.ntmps9
        go_wp2_with (first|((with_reducible refine gate_dst (N:=1) rfl ?_);(try (refine gate_guard (by rfl) ?_;dsimp only));refine box_event ?hg (N:=1) ?hd (cs:= #[.int .i64 a0_0, .int .i64 a0_1, .string a0_2, .string a0_3, .string a0_4]) (t:=24) ?hr ?_;(case hd=>rfl);(case hg=>rfl);(case hr=>first|(go_simp;done)|(go_simp;rfl));intro gb160 hg w66 hbox hb;have n0_:=Aside0.mk (below_step (by repeat (first|(with_reducible first|exact HB.out|apply below_alloc|apply pw_below_drewN|apply below_drew1)|exact HB.out)) hb);have n1_:=Aside0.mk (hbox);have n2_:=Aside0.mk ((by rw[hg];exact(below_size (by repeat (first|(with_reducible first|exact HB.out|apply below_alloc|apply pw_below_drewN|apply below_drew1)|exact HB.out))):w.heap.size≤gb160));have n3_:=Aside0.mk ((by rw[hg];exact(below_size (by repeat (first|(with_reducible first|exact HB.out|apply below_alloc|apply pw_below_drewN|apply below_drew1)|exact HB.out))):w.heap.size≤gb160));clear HB;have HB:=n0_;have BK160:=n1_;have GW160:=n2_;have GE160:=n3_;clear n0_ n1_ n2_ n3_;clear hb hbox hg;have hcz67_0:w66.cell? ⟨gb160,0,none⟩=some (.int .i64 a0_0):=(blk_cell BK160.out 0).trans rfl;have hcz67_1:w66.cell? ⟨gb160,1,none⟩=some (.int .i64 a0_1):=(blk_cell BK160.out 1).trans rfl;have hcz67_2:w66.cell? ⟨gb160,2,none⟩=some (.string a0_2):=(blk_cell BK160.out 2).trans rfl;have hcz67_3:w66.cell? ⟨gb160,3,none⟩=some (.string a0_3):=(blk_cell BK160.out 3).trans rfl;have hcz67_4:w66.cell? ⟨gb160,4,none⟩=some (.string a0_4):=(blk_cell BK160.out 4).trans rfl;have hfz67_0:=blk_frozen BK160.out 0;have hfz67_1:=blk_frozen BK160.out 1;have hfz67_2:=blk_frozen BK160.out 2;have hfz67_3:=blk_frozen BK160.out 3;have hfz67_4:=blk_frozen BK160.out 4)|((with_reducible refine gate_callee (f:=30) rfl ?_);refine goesL_ (some 89) rfl rfl Tryd.func30 (by kernel_rfl) rfl #[.string a0_4] rfl (by(try simp only[List.map_toArray,List.map_cons,List.map_nil]);first|done|rfl|(simp only[List.length_drop,List.length_take];rfl)) ?_;(with_reducible refine(hornbookref02_Split.calls k a0_4 t165 t166 t167 _ A52.out).mono ?_);rintro e w68 ⟨v168,rfl,ho0,hb⟩;refine⟨_,rfl,?_⟩;have n0_:=Aside0.mk (Kd.R_lower ho0 (below_size (by repeat (first|(with_reducible first|exact HB.out|apply below_alloc|apply pw_below_drewN|apply below_drew1|refine below_set ?_ GE160.out)|exact HB.out))));have n1_:=Aside0.mk (blk_below (g:=gb160) (o:= .cells #[.int .i64 a0_0, .int .i64 a0_1, .string a0_2, .string a0_3, .string a0_4] 24 (0,0)) (by(with_reducible repeat (first|refine blk_drewN ?_ _|refine blk_drew ?_|refine blk_alloc ?_ _));exact BK160.out) hb);have n2_:=Aside0.mk (below_step (by repeat (first|(with_reducible first|exact HB.out|apply below_alloc|apply pw_below_drewN|apply below_drew1|refine below_set ?_ GE160.out)|exact HB.out)) hb);clear BK160;clear HB;have HO169:=n0_;have BK160:=n1_;have HB:=n2_;clear n0_ n1_ n2_;(try clear hb);(try clear hb2);(try clear hk);(try clear hi);(try clear ho0);have hcz69_0:w68.cell? ⟨gb160,0,none⟩=some (.int .i64 a0_0):=(blk_cell BK160.out 0).trans rfl;have hcz69_1:w68.cell? ⟨gb160,1,none⟩=some (.int .i64 a0_1):=(blk_cell BK160.out 1).trans rfl;have hcz69_2:w68.cell? ⟨gb160,2,none⟩=some (.string a0_2):=(blk_cell BK160.out 2).trans rfl;have hcz69_3:w68.cell? ⟨gb160,3,none⟩=some (.string a0_3):=(blk_cell BK160.out 3).trans rfl;have hcz69_4:w68.cell? ⟨gb160,4,none⟩=some (.string a0_4):=(blk_cell BK160.out 4).trans rfl;have hfz69_0:=blk_frozen BK160.out 0;have hfz69_1:=blk_frozen BK160.out 1;have hfz69_2:=blk_frozen BK160.out 2;have hfz69_3:=blk_frozen BK160.out 3;have hfz69_4:=blk_frozen BK160.out 4)|(go_at_call 29;(with_reducible refine(hornbookref01_Name.calls k a0_2 false _ A54.out).mono ?_);rintro e w' ⟨rfl,⟨nd,rfl⟩⟩))
        all_goals go_ret
        all_goals exact⟨by first|rfl|(simp[errW_none,errW_some]<;>rfl)|(simp[*,errW_none,errW_some]<;>rfl),by repeat (first|(with_reducible first|exact HB.out|apply below_alloc|apply pw_below_drewN|apply below_drew1|refine below_set ?_ GE160.out)|exact HB.out)⟩
      ·rw[if_neg c53]at H
       have c53b0:(a0_1==0)=false:=beq_eq_false_iff_ne.mpr c53;have c53b1:(a0_1 !=0)=true:=bne_iff_ne.mpr c53;obtain rfl:=Option.some.inj H
       go_enter Tryd.func9,Tryd.ntmps9
       go_wp2_with (first|((with_reducible refine gate_dst (N:=1) rfl ?_);(try (refine gate_guard (by rfl) ?_;dsimp only));refine box_event ?hg (N:=1) ?hd (cs:= #[.int .i64 a0_0, .int .i64 a0_1, .string a0_2, .string a0_3, .string a0_4]) (t:=24) ?hr ?_;(case hd=>rfl);(case hg=>rfl);(case hr=>first|(go_simp;done)|(go_simp;rfl));intro gb160 hg w70 hbox hb;have n0_:=Aside0.mk (below_step (by repeat (first|(with_reducible first|exact HB.out|apply below_alloc|apply pw_below_drewN|apply below_drew1)|exact HB.out)) hb);have n1_:=Aside0.mk (hbox);have n2_:=Aside0.mk ((by rw[hg];exact(below_size (by repeat (first|(with_reducible first|exact HB.out|apply below_alloc|apply pw_below_drewN|apply below_drew1)|exact HB.out))):w.heap.size≤gb160));have n3_:=Aside0.mk ((by rw[hg];exact(below_size (by repeat (first|(with_reducible first|exact HB.out|apply below_alloc|apply pw_below_drewN|apply below_drew1)|exact HB.out))):w.heap.size≤gb160));clear HB;have HB:=n0_;have BK160:=n1_;have GW160:=n2_;have GE160:=n3_;clear n0_ n1_ n2_ n3_;clear hb hbox hg;have hcz71_0:w70.cell? ⟨gb160,0,none⟩=some (.int .i64 a0_0):=(blk_cell BK160.out 0).trans rfl;have hcz71_1:w70.cell? ⟨gb160,1,none⟩=some (.int .i64 a0_1):=(blk_cell BK160.out 1).trans rfl;have hcz71_2:w70.cell? ⟨gb160,2,none⟩=some (.string a0_2):=(blk_cell BK160.out 2).trans rfl;have hcz71_3:w70.cell? ⟨gb160,3,none⟩=some (.string a0_3):=(blk_cell BK160.out 3).trans rfl;have hcz71_4:w70.cell? ⟨gb160,4,none⟩=some (.string a0_4):=(blk_cell BK160.out 4).trans rfl;have hfz71_0:=blk_frozen BK160.out 0;have hfz71_1:=blk_frozen BK160.out 1;have hfz71_2:=blk_frozen BK160.out 2;have hfz71_3:=blk_frozen BK160.out 3;have hfz71_4:=blk_frozen BK160.out 4)|((with_reducible refine gate_callee (f:=30) rfl ?_);refine goesL_ (some 89) rfl rfl Tryd.func30 (by kernel_rfl) rfl #[.string a0_4] rfl (by(try simp only[List.map_toArray,List.map_cons,List.map_nil]);first|done|rfl|(simp only[List.length_drop,List.length_take];rfl)) ?_;(with_reducible refine(hornbookref02_Split.calls k a0_4 t165 t166 t167 _ A52.out).mono ?_);rintro e w72 ⟨v168,rfl,ho0,hb⟩;refine⟨_,rfl,?_⟩;have n0_:=Aside0.mk (Kd.R_lower ho0 (below_size (by repeat (first|(with_reducible first|exact HB.out|apply below_alloc|apply pw_below_drewN|apply below_drew1|refine below_set ?_ GE160.out)|exact HB.out))));have n1_:=Aside0.mk (blk_below (g:=gb160) (o:= .cells #[.int .i64 a0_0, .int .i64 a0_1, .string a0_2, .string a0_3, .string a0_4] 24 (0,0)) (by(with_reducible repeat (first|refine blk_drewN ?_ _|refine blk_drew ?_|refine blk_alloc ?_ _));exact BK160.out) hb);have n2_:=Aside0.mk (below_step (by repeat (first|(with_reducible first|exact HB.out|apply below_alloc|apply pw_below_drewN|apply below_drew1|refine below_set ?_ GE160.out)|exact HB.out)) hb);clear BK160;clear HB;have HO169:=n0_;have BK160:=n1_;have HB:=n2_;clear n0_ n1_ n2_;(try clear hb);(try clear hb2);(try clear hk);(try clear hi);(try clear ho0);have hcz73_0:w72.cell? ⟨gb160,0,none⟩=some (.int .i64 a0_0):=(blk_cell BK160.out 0).trans rfl;have hcz73_1:w72.cell? ⟨gb160,1,none⟩=some (.int .i64 a0_1):=(blk_cell BK160.out 1).trans rfl;have hcz73_2:w72.cell? ⟨gb160,2,none⟩=some (.string a0_2):=(blk_cell BK160.out 2).trans rfl;have hcz73_3:w72.cell? ⟨gb160,3,none⟩=some (.string a0_3):=(blk_cell BK160.out 3).trans rfl;have hcz73_4:w72.cell? ⟨gb160,4,none⟩=some (.string a0_4):=(blk_cell BK160.out 4).trans rfl;have hfz73_0:=blk_frozen BK160.out 0;have hfz73_1:=blk_frozen BK160.out 1;have hfz73_2:=blk_frozen BK160.out 2;have hfz73_3:=blk_frozen BK160.out 3;have hfz73_4:=blk_frozen BK160.out 4))
       all_goals go_ret
       all_goals exact⟨by first|rfl|(simp[errW_none,errW_some]<;>rfl)|(simp[*,errW_none,errW_some]<;>rfl),by repeat (first|(with_reducible first|exact HB.out|apply below_alloc|apply pw_below_drewN|apply below_drew1|refine below_set ?_ GE160.out)|exact HB.out)⟩
     ·rw[if_neg c51]at H
      have c51b0:(a0_0==5)=false:=beq_eq_false_iff_ne.mpr c51;have c51b1:(a0_0 !=5)=true:=bne_iff_ne.mpr c51;obtain rfl:=Option.some.inj H
      go_enter Tryd.func9,Tryd.ntmps9
      go_wp2_with (first|((with_reducible refine gate_dst (N:=1) rfl ?_);(try (refine gate_guard (by rfl) ?_;dsimp only));refine box_event ?hg (N:=1) ?hd (cs:= #[.int .i64 a0_0, .int .i64 a0_1, .string a0_2, .string a0_3, .string a0_4]) (t:=24) ?hr ?_;(case hd=>rfl);(case hg=>rfl);(case hr=>first|(go_simp;done)|(go_simp;rfl));intro gb160 hg w74 hbox hb;have n0_:=Aside0.mk (below_step (by repeat (first|(with_reducible first|exact HB.out|apply below_alloc|apply pw_below_drewN|apply below_drew1)|exact HB.out)) hb);have n1_:=Aside0.mk (hbox);have n2_:=Aside0.mk ((by rw[hg];exact(below_size (by repeat (first|(with_reducible first|exact HB.out|apply below_alloc|apply pw_below_drewN|apply below_drew1)|exact HB.out))):w.heap.size≤gb160));have n3_:=Aside0.mk ((by rw[hg];exact(below_size (by repeat (first|(with_reducible first|exact HB.out|apply below_alloc|apply pw_below_drewN|apply below_drew1)|exact HB.out))):w.heap.size≤gb160));clear HB;have HB:=n0_;have BK160:=n1_;have GW160:=n2_;have GE160:=n3_;clear n0_ n1_ n2_ n3_;clear hb hbox hg;have hcz75_0:w74.cell? ⟨gb160,0,none⟩=some (.int .i64 a0_0):=(blk_cell BK160.out 0).trans rfl;have hcz75_1:w74.cell? ⟨gb160,1,none⟩=some (.int .i64 a0_1):=(blk_cell BK160.out 1).trans rfl;have hcz75_2:w74.cell? ⟨gb160,2,none⟩=some (.string a0_2):=(blk_cell BK160.out 2).trans rfl;have hcz75_3:w74.cell? ⟨gb160,3,none⟩=some (.string a0_3):=(blk_cell BK160.out 3).trans rfl;have hcz75_4:w74.cell? ⟨gb160,4,none⟩=some (.string a0_4):=(blk_cell BK160.out 4).trans rfl;have hfz75_0:=blk_frozen BK160.out 0;have hfz75_1:=blk_frozen BK160.out 1;have hfz75_2:=blk_frozen BK160.out 2;have hfz75_3:=blk_frozen BK160.out 3;have hfz75_4:=blk_frozen BK160.out 4))
      all_goals go_ret
      all_goals exact⟨by first|rfl|(simp[errW_none,errW_some]<;>rfl)|(simp[*,errW_none,errW_some]<;>rfl),by repeat (first|(with_reducible first|exact HB.out|apply below_alloc|apply pw_below_drewN|apply below_drew1|refine below_set ?_ GE160.out)|exact HB.out)⟩
end Go.Proofs.YthnajefdiljneaaDoor.Q
end
section
-- SQUEEZED
-- Written by the program wip/tools/mp.py of this work, which drives the print of the kit; hand texts of this session among it.
namespace Go.Proofs.YthnajefdiljneaaDoor.Q
open Go.RowKit Go.Proofs.HW Go.Proofs.YthnajefdiljneaaDoorW.PrintWords Go.Proofs.YthnajefdiljneaaDoorW.PrintLast
set_option linter.unusedVariables false
set_option linter.unusedSimpArgs false
end Go.Proofs.YthnajefdiljneaaDoor.Q
end
section
-- SQUEEZED
/- Plain words: bytes as lists, and what comes to an answer with enough rounds. -/
set_option linter.unusedVariables false
set_option linter.unusedSimpArgs false
namespace Go.Proofs.PL
open Go.RowKit Go.Proofs.YthnajefdiljneaaDoorW.PrintWords
def mk(l:List UInt8):ByteArray:=⟨l.toArray⟩
theorem ex_mk(s:ByteArray): ∃l,s=mk l:=⟨s.data.toList,by cases s;simp[mk]⟩
@[simp] theorem data_mk (l : List UInt8) : (mk l).data.toList = l := by simp [mk]
theorem mk_inj{l l':List UInt8}:mk l=mk l'↔l=l':=by
 constructor
 ·intro h;have:=congrArg (fun s:ByteArray=>s.data.toList) h;simpa using this
 ·rintro rfl;rfl
@[simp] theorem size_mk (l : List UInt8) : (mk l).size = l.length := by simp [mk, ByteArray.size]
@[simp] theorem toList_mk (l : List UInt8) : (mk l).toList = l := by rw [ByteArray.toList_eq]; simp
theorem toList_inj{s t:ByteArray}:s.toList=t.toList↔s=t:=by
 obtain⟨l,rfl⟩:=ex_mk s;obtain⟨l',rfl⟩:=ex_mk t;simp[mk_inj]
theorem append_mk(l l':List UInt8):mk l++mk l'=mk (l++l'):=by
 have:(mk l++mk l').data=(mk l).data++(mk l').data:=ByteArray.data_append
 cases h:mk l++mk l' with|mk d=>
 rw[h]at this;have h2:d=(mk l).data++(mk l').data:=this;subst h2;simp[mk]
theorem extract_mk(l:List UInt8)(a b:Nat):(mk l).extract a b=mk ((l.take b).drop a):=by
 cases h:(mk l).extract a b with|mk d=>
 have h1:d=(mk l).data.extract a b:=by
  have:((mk l).extract a b).data=(mk l).data.extract a b:=ByteArray.data_extract;rw[h]at this;exact this
 subst h1;simp only[mk]
 congr 1
 apply Array.toList_inj.1;simp[List.extract_eq_take_drop,List.drop_take]
theorem extract_to_end(l:List UInt8)(a:Nat):(mk l).extract a (mk l).size=mk (l.drop a):=by
 rw[extract_mk,size_mk,List.take_length]
def ch(l:List UInt8)(i:Nat):Nat:=(l.getD i 0).toNat
theorem bt_mk(l:List UInt8)(n:Nat)(i:Int)(hi:i=n)(h:n<l.length):bt (mk l) i=(ch l n:Int):=by
 subst hi;unfold bt ch
 have h':(n:Int).toNat<(mk l).size:=by simpa using h
 rw[dif_pos h']
 have:(mk l)[(n:Int).toNat]'h'=l[n]:=by
  show(mk l).data[(n:Int).toNat]'_=l[n];simp[mk];rfl
 rw[this];simp[List.getD_eq_getElem?_getD,List.getElem?_eq_getElem h];rfl
theorem wrap_in(n:Int)(h0: -9223372036854775808≤n)(h1:n≤9223372036854775807):wrap64 n=n:=by unfold wrap64;omega
theorem Ev.pure{α:Type}{o:Option α}{r:α}(h:o=some r):Ev (fun _=>o) r:=⟨0,fun _ _=>h⟩
theorem Ev.ite{α:Type}{c:Prop} [Decidable c]{f g:Nat→Option α}{r:α}(h1:c→Ev f r)(h2: ¬c→Ev g r):Ev (fun k=>if c then f k else g k) r:=by
 by_cases h:c
 ·simpa [h]using h1 h
 ·simpa [h]using h2 h
theorem Ev.pos{α:Type}{c:Prop} [Decidable c]{f g:Nat→Option α}{r:α}(h:c)(k:Ev f r):Ev (fun k=>if c then f k else g k) r:=Ev.ite (fun _=>k) (fun h'=>absurd h h')
theorem Ev.neg{α:Type}{c:Prop} [Decidable c]{f g:Nat→Option α}{r:α}(h: ¬c)(k:Ev g r):Ev (fun k=>if c then f k else g k) r:=Ev.ite (fun h'=>absurd h' h) (fun _=>k)
theorem Ev.then{α β:Type}{o:Option α}{f:Nat→α→Option β}{a:α}{r:β}(h:o=some a)(k:Ev (fun n=>f n a) r):Ev (fun n=>o.bind (f n)) r:=by
 subst h;exact k
end Go.Proofs.PL
end
section
-- SQUEEZED
/- Layer 1 and 2, plain: what a name is, what a type is. -/
set_option linter.unusedVariables false
set_option linter.unusedSimpArgs false
namespace Go.Proofs.PL
open Go.RowKit Go.Proofs.YthnajefdiljneaaDoorW.PrintWords Go.Proofs.YthnajefdiljneaaDoor.Q
def letter(c:Nat):Bool:=(decide (97≤c)&&decide (c≤122))||(decide (65≤c)&&decide (c≤90))||decide (c=95)
def digit(c:Nat):Bool:=decide (48≤c)&&decide (c≤57)
def okc(c:UInt8):Bool:=letter c.toNat||digit c.toNat
def nameB(l:List UInt8):Bool:=decide (1≤l.length)&&decide (l.length≤24)&&!digit (ch l 0)&&l.all okc
theorem letter_eq(c:Nat):bin_letter.f (c:Int)=some (letter c):=by
 unfold bin_letter.f letter
 repeat' split
 all_goals (congr 1;rw[eq_comm,Bool.eq_iff_iff];simp;omega)
theorem digit_eq(c:Nat):bin_digit.f (c:Int)=some (digit c):=by
 unfold bin_digit.f digit
 repeat' split
 all_goals (congr 1;rw[eq_comm,Bool.eq_iff_iff];simp;omega)
theorem ch_drop{l:List UInt8}{n:Nat}(h:n<l.length):l.drop n=l[n]::l.drop (n+1)∧ch l n=(l[n]).toNat:=by
 refine⟨List.drop_eq_getElem_cons h,?_⟩;simp[ch,List.getD_eq_getElem?_getD,List.getElem?_eq_getElem h]
theorem binName_l0(l:List UInt8)(hl:l.length≤9223372036854775806): ∀d n,l.length-n=d→n≤l.length→Ev (fun k=>bin_Name.l0 k (mk l) (l.length:Int) (n:Int)) ((l.drop n).all okc):=by
 intro d
 induction d with
 |zero=>
  intro n hd hn
  obtain rfl:n=l.length:=by omega
  refine Ev.step (fun k=>by rw[bin_Name.l0,if_neg (by omega)]) ?_
  refine Ev.pure ?_
  simp
 |succ d ih=>
  intro n hd hn
  have hlt:n<l.length:=by omega
  obtain⟨h1,h2⟩:=ch_drop hlt
  have hw:wrap64 ((n:Int)+1)=((n+1:Nat):Int):=by rw[wrap_in _ (by omega) (by omega)];rfl
  have ih':=ih (n+1) (by omega) (by omega)
  refine Ev.step (fun k=>by rw[bin_Name.l0,if_pos (by omega),if_pos (by omega),if_pos (by simp;omega),bt_mk l n _ rfl hlt,letter_eq,Option.bind_some,digit_eq,Option.bind_some,hw]) ?_
  rw[h1,List.all_cons];rw[show okc l[n]=(letter (ch l n)||digit (ch l n))from by rw[h2];rfl];refine Ev.ite (fun hc=>?_) (fun hc=>Ev.ite (fun hd=>?_) (fun hd=>?_))
  ·simpa [hc]using ih'
  ·simpa [hd]using ih'
  ·exact Ev.pure (by simp[hc,hd])
theorem binName(l:List UInt8)(hl:l.length≤9223372036854775806):Ev (fun k=>bin_Name.f k (mk l)) (nameB l):=by
 unfold bin_Name.f
 have hj: ∀b,Ev (fun k=>bin_Name.j0 k (mk l) b) (!b&&l.all okc):=by
  intro b
  have h0:=binName_l0 l hl l.length 0 (by omega) (by omega)
  refine Ev.step (fun k=>by rw[bin_Name.j0,size_mk]) ?_
  cases b with
  |true=>exact Ev.pure (by simp)
  |false=>simpa using h0
 refine Ev.ite (fun hc=>?_) (fun hc=>Ev.ite (fun hd=>?_) (fun hd=>Ev.ite (fun he=>?_) (fun he=>?_)))
 ·have:l= []:=by simpa using hc
  subst this
  simpa [nameB]using hj true
 ·have h24: ¬l.length≤24:=by simp at hd;omega
  simpa [nameB,h24]using hj true
 ·have hp:0<l.length:=by simpa using he
  have h24:l.length≤24:=by simp at hd;omega
  rw[show bt (mk l) 0=(ch l 0:Int)from bt_mk l 0 _ rfl hp]
  refine Ev.then (digit_eq _) ?_
  have:nameB l=(!digit (ch l 0)&&l.all okc):=by simp[nameB,h24,show 1≤l.length by omega]
  rw[this];exact hj _
 ·exfalso
  have:l≠ []:=by simpa using hc
  have:=List.length_pos_iff.2 this;rw[size_mk]at he;omega
def okAt(l:List UInt8)(n:Nat):Bool:=letter (ch l n)||(digit (ch l n)&&decide (n≠0))
theorem refName_step(l:List UInt8)(n:Nat)(hlt:n<l.length)(hl:l.length≤9223372036854775806)(k:Nat):
  hornbookref01_Name.l0 (k+1) (mk l) (n:Int)=if okAt l n=true then hornbookref01_Name.l0 k (mk l) ((n+1:Nat):Int)else some false:=by
 have hw:wrap64 ((n:Int)+1)=((n+1:Nat):Int):=by rw[wrap_in _ (by omega) (by omega)];rfl
 rw[hornbookref01_Name.l0,if_pos (by simp;omega),if_pos (by omega),bt_mk l n _ rfl hlt,hw];generalize hornbookref01_Name.l0 k (mk l) ((n+1:Nat):Int)=A
 have hn:((n:Int)=0)↔n=0:=by omega
 by_cases hP:okAt l n=true
 ·rw[if_pos hP]
  have hP':=hP;simp only[okAt,letter,digit,Bool.or_eq_true,Bool.and_eq_true,decide_eq_true_eq]at hP';generalize ch l n=c at hP'
  repeat' split
  all_goals first|rfl|(exfalso;omega)
 ·rw[if_neg hP]
  have hP':=hP;simp only[okAt,letter,digit,Bool.or_eq_true,Bool.and_eq_true,decide_eq_true_eq]at hP';generalize ch l n=c at hP'
  repeat' split
  all_goals first|rfl|(exfalso;omega)
theorem refName_l0(l:List UInt8)(hl:l.length≤9223372036854775806): ∀d n,l.length-n=d→1≤n→n≤l.length→Ev (fun k=>hornbookref01_Name.l0 k (mk l) (n:Int)) ((l.drop n).all okc):=by
 intro d
 induction d with
 |zero=>
  intro n hd h1 hn
  obtain rfl:n=l.length:=by omega
  refine Ev.step (fun k=>by rw[hornbookref01_Name.l0,if_neg (by simp)]) ?_
  refine Ev.pure ?_
  simp
 |succ d ih=>
  intro n hd hn1 hn
  have hlt:n<l.length:=by omega
  obtain⟨h1,h2⟩:=ch_drop hlt;have ih':=ih (n+1) (by omega) (by omega) (by omega)
  refine Ev.step (fun k=>refName_step l n hlt hl k) ?_
  have ho:okAt l n=okc l[n]:=by unfold okAt okc;rw[h2];simp[show n≠0 by omega]
  rw[h1,List.all_cons,←ho];refine Ev.ite (fun hc=>?_) (fun hc=>?_)
  ·simpa [hc]using ih'
  ·exact Ev.pure (by simp[hc])
theorem refName(l:List UInt8)(hl:l.length≤9223372036854775806):Ev (fun k=>hornbookref01_Name.f k (mk l)) (nameB l):=by
 unfold hornbookref01_Name.f;refine Ev.ite (fun hc=>?_) (fun hc=>?_)
 ·refine Ev.step (fun k=>by rw[hornbookref01_Name.j0,if_pos rfl]) (Ev.pure ?_)
  rw[size_mk]at hc;simp[nameB,show¬1≤l.length by omega]
 ·rw[size_mk]at hc
  rw[size_mk]
  have hp:0<l.length:=by omega
  refine Ev.step (fun k=>by rw[hornbookref01_Name.j0]) (Ev.ite (fun hd=>Ev.pure ?_) (fun hd=>?_))
  ·have: ¬l.length≤24:=by simp at hd;omega
   simp[nameB,this]
  ·have h24:l.length≤24:=by simp at hd;omega
   obtain⟨h1,h2⟩:=ch_drop hp
   have ih:=refName_l0 l hl (l.length-1) 1 rfl (by omega) (by omega)
   refine Ev.step (fun k=>refName_step l 0 hp hl k) ?_
   have hall:l.all okc=(okc l[0]&&(l.drop (0+1)).all okc):=by
    have e:l.all okc=(l.drop 0).all okc:=by rw[List.drop_zero]
    rw[e,h1,List.all_cons]
   have hx:nameB l=(okAt l 0&&(l.drop (0+1)).all okc):=by
    unfold nameB okAt;rw[hall,h2,show okc l[0]=(letter l[0].toNat||digit l[0].toNat)from rfl]
    have hdl:digit l[0].toNat=true→letter l[0].toNat=false:=by
     unfold digit letter;simp;omega
    rw[decide_eq_true (show 1≤l.length by omega),decide_eq_true h24,show decide ((0:Nat)≠0)=false from rfl];revert hdl;generalize letter l[0].toNat=A;generalize digit l[0].toNat=B;generalize (l.drop (0+1)).all okc=R
    cases A<;>cases B<;>cases R<;>decide
   rw[hx];refine Ev.ite (fun hc=>?_) (fun hc=>Ev.pure (by simp[hc]))
   simpa [hc]using ih
def hasP(l p:List UInt8):Bool:=decide (p.length≤l.length)&&(l.take p.length==p)
def hasS(l p:List UInt8):Bool:=decide (p.length≤l.length)&&(l.drop (l.length-p.length)==p)
theorem hasPrefix_eq(l p:List UInt8):stringslite_HasPrefix.f (mk l) (mk p)=some (hasP l p):=by
 unfold stringslite_HasPrefix.f hasP;rw[size_mk,size_mk]
 by_cases h:p.length≤l.length
 ·rw[if_pos (by omega),if_pos (by omega),if_pos (by omega),extract_mk,toList_mk,toList_mk]
  simp[h]
 ·rw[if_neg (by omega)]
  simp[h]
theorem cutPrefix_eq(l p:List UInt8):strings_CutPrefix.f (mk l) (mk p)=some (if hasP l p then(mk (l.drop p.length),true)else(mk l,false)):=by
 unfold strings_CutPrefix.f stringslite_CutPrefix.f;rw[hasPrefix_eq]
 by_cases h:hasP l p=true
 ·have hle:p.length≤l.length:=by unfold hasP at h;simp at h;exact h.1
  simp only[Option.bind_some,h,if_true];rw[if_pos (by omega),if_pos (by simp;omega)];simp[extract_mk]
 ·simp[h]
theorem hasSuffix_eq(l p:List UInt8)(hl:l.length≤9223372036854775806):stringslite_HasSuffix.f (mk l) (mk p)=some (hasS l p):=by
 unfold stringslite_HasSuffix.f hasS;rw[size_mk,size_mk]
 by_cases h:p.length≤l.length
 ·rw[if_pos (by omega),wrap_in _ (by omega) (by omega),if_pos (by omega),if_pos (by omega),extract_mk,toList_mk,toList_mk]
  have e:((l.length:Int)-(p.length:Int)).toNat=l.length-p.length:=by omega
  simp[h,e]
 ·rw[if_neg (by omega)]
  simp[h]
theorem cutSuffix_eq(l p:List UInt8)(hl:l.length≤9223372036854775806):strings_CutSuffix.f (mk l) (mk p)=some (if hasS l p then(mk (l.take (l.length-p.length)),true)else(mk l,false)):=by
 unfold strings_CutSuffix.f stringslite_CutSuffix.f;rw[hasSuffix_eq l p hl]
 by_cases h:hasS l p=true
 ·have hle:p.length≤l.length:=by unfold hasS at h;simp at h;exact h.1
  have e:((l.length:Int)-(p.length:Int)).toNat=l.length-p.length:=by omega
  simp only[Option.bind_some,h,if_true];rw[size_mk,size_mk,wrap_in _ (by omega) (by omega),if_pos (by omega),if_pos (by omega)];simp[extract_mk,e]
 ·simp[h]
def base(l:List UInt8):List UInt8:=l.dropWhile (· ==91)
def rank(l:List UInt8):Nat:=(l.takeWhile (· ==91)).length
theorem rank_base(l:List UInt8):rank l+(base l).length=l.length:=by
 unfold rank base;rw[←List.length_append,List.takeWhile_append_dropWhile]
theorem drop_rank(l:List UInt8):l.drop (rank l)=base l:=by
 have h:l.takeWhile (· ==91)++l.dropWhile (· ==91)=l:=List.takeWhile_append_dropWhile;have h2:(l.takeWhile (· ==91)++l.dropWhile (· ==91)).drop (l.takeWhile (· ==91)).length=l.dropWhile (· ==91):=List.drop_left;rw[h]at h2;exact h2
theorem bare_eq(l:List UInt8)(hl:l.length≤9223372036854775806):desc_bare.f (mk l)=some (mk (base l),(rank l:Int)):=by
 unfold desc_bare.f strings_TrimLeft.f
 have hb:=rank_base l
 rw[if_pos rfl,data_mk];simp only[Option.bind_some,size_mk];have e:(⟨(Lib.trimLeftB l 91).toArray⟩:ByteArray)=mk (base l):=rfl;rw[e,size_mk,wrap_in _ (by omega) (by omega)]
 congr 2
 omega
def plainB(l:List UInt8):Bool:=l== [73]||l== [66]||l== [83]
theorem plain_eq(l:List UInt8):desc_plain.f (mk l)=some (plainB l):=by
 unfold desc_plain.f plainB;rw[toList_mk]
 by_cases h1:l= [73]
 ·simp[h1]
 ·by_cases h2:l= [66]
  ·simp[h2]
  ·simp[h1,h2]
def cutL(l:List UInt8):List UInt8:=if hasP l [76]then l.drop 1 else l
def nmText(l:List UInt8):List UInt8:=if hasS (cutL l) [59]then(cutL l).take ((cutL l).length-1)else cutL l
def nmOk(l:List UInt8):Bool:=hasP l [76]&&hasS (cutL l) [59]&&nameB (nmText l)
theorem cutL_le(l:List UInt8):(cutL l).length≤l.length:=by unfold cutL;split<;>simp
theorem nmText_le(l:List UInt8):(nmText l).length≤l.length:=by
 have:=cutL_le l
 unfold nmText;split<;>simp<;>omega
theorem name_ev(l:List UInt8)(hl:l.length≤9223372036854775806):Ev (fun k=>desc_name.f k (mk l)) (mk (nmText l),nmOk l):=by
 unfold desc_name.f
 refine Ev.then (cutPrefix_eq l [76]) ?_
 have e1:(if hasP l [76]=true then(mk (l.drop ([76]:List UInt8).length),true)else(mk l,false))=(mk (cutL l),hasP l [76]):=by
  unfold cutL;cases hasP l [76]<;>simp
 rw[e1]
 refine Ev.then (cutSuffix_eq (cutL l) [59] (by have:=cutL_le l;omega)) ?_
 have e2:(if hasS (cutL l) [59]=true then(mk ((cutL l).take ((cutL l).length-([59]:List UInt8).length)),true)else(mk (cutL l),false))=(mk (nmText l),hasS (cutL l) [59]):=by
  unfold nmText;cases hasS (cutL l) [59]<;>simp
 rw[e2];have hN:=binName (nmText l) (by have:=nmText_le l;omega);refine Ev.ite (fun h1=>Ev.ite (fun h2=>?_) (fun h2=>?_)) (fun h1=>?_)
 ·refine Ev.bind hN (Ev.pure ?_)
  simp at h1 h2;simp[nmOk,h1,h2]
 ·refine Ev.pure ?_
  simp at h1 h2;simp[nmOk,h2]
 ·refine Ev.pure ?_
  simp at h1;simp[nmOk,h1]
def rightB(l:List UInt8):Bool:=decide (rank l≤4)&&(nmOk (base l)||plainB (base l))
theorem base_le(l:List UInt8):(base l).length≤l.length:=by have:=rank_base l;omega
theorem right_ev(l:List UInt8)(hl:l.length≤9223372036854775806):Ev (fun k=>desc_Right.f k (mk l)) (rightB l):=by
 unfold desc_Right.f
 refine Ev.then (bare_eq l hl) ?_
 refine Ev.bind (name_ev (base l) (by have:=base_le l;omega)) ?_
 refine Ev.ite (fun h1=>Ev.ite (fun h2=>?_) (fun h2=>?_)) (fun h1=>?_)
 ·refine Ev.pure ?_
  simp at h1 h2;simp[rightB,show rank l≤4 by omega,h2]
 ·refine Ev.pure ?_
  simp at h1 h2;simp[rightB,show rank l≤4 by omega,h2,plain_eq]
 ·refine Ev.pure ?_
  simp at h1;simp[rightB,show¬rank l≤4 by omega]
end Go.Proofs.PL
end
section
-- SQUEEZED
/- Layer 2, plain: the reference's Right is the program's. -/
set_option linter.unusedVariables false
set_option linter.unusedSimpArgs false
namespace Go.Proofs.PL
open Go.RowKit Go.Proofs.YthnajefdiljneaaDoorW.PrintWords Go.Proofs.YthnajefdiljneaaDoor.Q
theorem beq_toNat(a c:UInt8):(a==c)=decide (a.toNat=c.toNat):=by
 by_cases h:a=c
 ·subst h;simp
 ·rw[decide_eq_false (fun e=>h (UInt8.toNat_inj.1 e))];simpa using h
theorem hasP_one(l:List UInt8)(c:UInt8):hasP l [c]=(decide (0<l.length)&&decide (ch l 0=c.toNat)):=by
 cases l with
 |nil=>simp [hasP]
 |cons a l=>simp [hasP,ch,beq_toNat]
theorem hasS_one(l:List UInt8)(c:UInt8):hasS l [c]=(decide (0<l.length)&&decide (ch l (l.length-1)=c.toNat)):=by
 by_cases h:0<l.length
 ·have h1:l.length-1<l.length:=by omega
  obtain⟨e1,e2⟩:=ch_drop h1;have e3:l.drop (l.length-1+1)= []:=List.drop_eq_nil_of_le (by omega);unfold hasS;rw[List.length_singleton,e1,e3,e2];simp[h,show 1≤l.length by omega,beq_toNat]
 ·have:l= []:=List.eq_nil_of_length_eq_zero (by omega)
  subst this;simp[hasS]
def refOk(l:List UInt8):Bool:=decide (2<l.length)&&decide (ch l 0=76)&&decide (ch l (l.length-1)=59)&&nameB ((l.take (l.length-1)).drop 1)
theorem refOk_eq(l:List UInt8):refOk l=nmOk l∧(refOk l=true→nmText l=(l.take (l.length-1)).drop 1):=by
 have hA:hasP l [76]=(decide (0<l.length)&&decide (ch l 0=76)):=hasP_one l 76
 have hnil:nameB []=false:=by decide
 by_cases h0:0<l.length∧ch l 0=76
 ·have hP:hasP l [76]=true:=by rw[hA];simp[h0]
  have hc:cutL l=l.drop 1:=by unfold cutL;rw[if_pos hP]
  have hB:hasS (l.drop 1) [59]=(decide (0<l.length-1)&&decide (ch (l.drop 1) (l.length-1-1)=59)):=by
   have:=hasS_one (l.drop 1) 59
   simpa using this
  have hch:1<l.length→ch (l.drop 1) (l.length-1-1)=ch l (l.length-1):=by
   intro h1;unfold ch;rw[List.getD_eq_getElem?_getD,List.getD_eq_getElem?_getD,List.getElem?_drop]
   congr 3
   omega
  have htx:hasS (l.drop 1) [59]=true→nmText l=(l.take (l.length-1)).drop 1:=by
   intro h;unfold nmText;rw[hc,if_pos h,List.drop_take];simp
  by_cases h1:1<l.length∧ch l (l.length-1)=59
  ·have hS:hasS (l.drop 1) [59]=true:=by rw[hB,hch h1.1];simp[h1];omega
   refine⟨?_,fun _=>htx hS⟩;unfold refOk nmOk;rw[hP,hc,hS,htx hS]
   by_cases h2:2<l.length
   ·simp[h0,h1,h2]
   ·have:(l.take (l.length-1)).drop 1= []:=List.drop_eq_nil_of_le (by simp;omega)
    rw[this,hnil];simp
  ·have hS:hasS (l.drop 1) [59]=false:=by
    rw[hB]
    by_cases h2:1<l.length
    ·rw[hch h2];simp;intro _;intro h3;exact h1 ⟨h2,h3⟩
    ·simp;omega
   have e:refOk l=false:=by
    unfold refOk
    by_cases h2:2<l.length
    ·simp;intro _ _ h3;exact absurd ⟨by omega,h3⟩ h1
    ·simp[h2]
   refine⟨?_,fun h=>by rw[e]at h;cases h⟩;rw[e];unfold nmOk;rw[hc,hS];simp
 ·have hP:hasP l [76]=false:=by
   rw[hA];simp;intro h1 h2;exact h0 ⟨h1,h2⟩
  have e:refOk l=false:=by
   unfold refOk;simp;intro h1 h2;exact absurd ⟨by omega,h2⟩ h0
  refine⟨?_,fun h=>by rw[e]at h;cases h⟩;rw[e];unfold nmOk;rw[hP];simp
theorem rank_at(l:List UInt8)(n:Nat)(h:n<rank l):n<l.length∧ch l n=91:=by
 have hb:=rank_base l
 have hlt:n<l.length:=by omega
 refine⟨hlt,?_⟩
 have h1:(l.takeWhile (· ==91))[n]?=l[n]?:=by
  have hp:l.takeWhile (· ==91)<+:l:=List.takeWhile_prefix _;obtain⟨t,ht⟩:=hp
  conv=>rhs;rw[←ht]
  rw[List.getElem?_append_left h]
 have h2:(l.takeWhile (· ==91))[n]'h∈l.takeWhile (· ==91):=List.getElem_mem h;have h3:=List.all_eq_true.1 (List.all_takeWhile (p:=(· ==(91:UInt8))) (l:=l)) _ h2;rw[List.getElem?_eq_getElem h,List.getElem?_eq_getElem hlt]at h1
 injection h1 with h1
 rw[(ch_drop hlt).2,←h1]
 have h4:(l.takeWhile (· ==91))[n]'h=91:=by simpa using h3
 rw[h4];rfl
theorem rank_end(l:List UInt8)(h:rank l<l.length):ch l (rank l)≠91:=by
 obtain⟨e1,e2⟩:=ch_drop h;rw[drop_rank]at e1;intro h2;rw[e2]at h2;have h3:l[rank l]=91:=UInt8.toNat_inj.1 h2;have h4:=List.head_dropWhile_not (p:=(· ==(91:UInt8))) (l:=l) (by intro e;unfold base at e1;rw[e]at e1;cases e1);unfold base at e1;simp only[e1,List.head_cons]at h4;rw[h3]at h4;simp at h4
theorem refRight_j1(l:List UInt8)(hl:l.length≤9223372036854775806):Ev (fun k=>hornbookref02_Right.j1 k (mk l) (rank l:Int)) (rightB l):=by
 have hb:=rank_base l
 refine Ev.step (fun k=>by rw[hornbookref02_Right.j1]) ?_
 have ed:(mk l).extract ((rank l:Nat):Int).toNat (mk l).size=mk (base l):=by
  rw[Int.toNat_natCast,extract_to_end,drop_rank]
 simp only[ed,toList_mk];simp only[size_mk];refine Ev.ite (fun h=>Ev.pure ?_) (fun h=>?_)
 ·simp[rightB,show¬rank l≤4 by omega]
 have hr:decide (rank l≤4)=true:=by simp;omega
 refine Ev.pos (by omega) (Ev.pos (by omega) ?_)
 have hx:rightB l=(nmOk (base l)||plainB (base l)):=by unfold rightB;rw[hr,Bool.true_and]
 rw[hx];obtain⟨he,ht⟩:=refOk_eq (base l);refine Ev.ite (fun h1=>Ev.pure (by simp[plainB,h1])) (fun h1=>Ev.ite (fun h2=>Ev.pure (by simp[plainB,h2])) (fun h2=>Ev.ite (fun h3=>Ev.pure (by simp[plainB,h3])) (fun h3=>?_)))
 have hp:plainB (base l)=false:=by simp[plainB,h1,h2,h3]
 rw[hp,Bool.or_false,←he];refine Ev.ite (fun h4=>?_) (fun h4=>Ev.pure (by simp[refOk];intro h;omega))
 have hw:wrap64 (((base l).length:Int)-1)=(((base l).length-1:Nat):Int):=by rw[wrap_in _ (by omega) (by omega)];omega
 simp only[hw,bt_mk (base l) 0 0 rfl (show 0<(base l).length by omega)]
 refine Ev.pos (by omega) ?_
 refine Ev.ite (fun h5=>?_) (fun h5=>Ev.pure (by simp[refOk];intro _ h;omega));simp only[bt_mk (base l) ((base l).length-1) _ rfl (show(base l).length-1<(base l).length by omega)];refine Ev.pos (by omega) (Ev.pos (by omega) ?_);refine Ev.ite (fun h6=>?_) (fun h6=>Ev.pure (by simp[refOk];intro _ _ h;omega));refine Ev.pos (by omega) (Ev.pos (by omega) ?_);simp only[Int.toNat_natCast,extract_mk]
 have hN:=refName (((base l).take ((base l).length-1)).drop 1) (by simp;omega)
 refine Ev.bind hN (Ev.pure ?_);simp[refOk,show 2<(base l).length by omega,show ch (base l) 0=76 by omega,show ch (base l) ((base l).length-1)=59 by omega]
theorem refRight_l0(l:List UInt8)(hl:l.length≤9223372036854775806): ∀d n,rank l-n=d→n≤rank l→Ev (fun k=>hornbookref02_Right.l0 k (mk l) (n:Int)) (rightB l):=by
 intro d
 have hb:=rank_base l
 induction d with
 |zero=>
  intro n hd hn
  obtain rfl:n=rank l:=by omega
  have hj:=refRight_j1 l hl
  by_cases hlt:rank l<l.length
  ·refine Ev.step (fun k=>by rw[hornbookref02_Right.l0,if_pos (by rw[size_mk];omega),if_pos (by omega),bt_mk l (rank l) _ rfl hlt,if_neg (by have:=rank_end l hlt;omega)]) hj
  ·refine Ev.step (fun k=>by rw[hornbookref02_Right.l0,if_neg (by rw[size_mk];omega)]) hj
 |succ d ih=>
  intro n hd hn;obtain⟨hlt,hc⟩:=rank_at l n (by omega)
  have hw:wrap64 ((n:Int)+1)=((n+1:Nat):Int):=by rw[wrap_in _ (by omega) (by omega)];rfl
  exact Ev.step (fun k=>by rw[hornbookref02_Right.l0,if_pos (by rw[size_mk];omega),if_pos (by omega),bt_mk l n _ rfl hlt,if_pos (by omega),hw]) (ih (n+1) (by omega) (by omega))
theorem refRight(l:List UInt8)(hl:l.length≤9223372036854775806):Ev (fun k=>hornbookref02_Right.f k (mk l)) (rightB l):=
 refRight_l0 l hl (rank l) 0 (by omega) (by omega)
end Go.Proofs.PL
end
section
-- SQUEEZED
/- Layer 2, plain: whose class a type is, how it is shown, arrays and elements: program and reference. -/
set_option linter.unusedVariables false
set_option linter.unusedSimpArgs false
namespace Go.Proofs.PL
open Go.RowKit Go.Proofs.YthnajefdiljneaaDoorW.PrintWords Go.Proofs.YthnajefdiljneaaDoor.Q
theorem lit0:(⟨#[]⟩:ByteArray)=mk []:=rfl
theorem ch_cons(a:UInt8)(l:List UInt8):ch (a::l) 0=a.toNat:=by simp[ch]
theorem rank_zero{l:List UInt8}(h:ch l 0≠91):rank l=0∧base l=l:=by
 cases l with
 |nil=>exact⟨rfl,rfl⟩
 |cons a l=>
  rw[ch_cons]at h
  have ha:(a==(91:UInt8))=false:=by rw[beq_toNat];simpa using h
  unfold rank base;simp[List.takeWhile_cons,List.dropWhile_cons,ha]
theorem rank_cons(l:List UInt8):rank (91::l)=rank l+1∧base (91::l)=base l:=by
 unfold rank base;simp
theorem ch_91{l:List UInt8}(h:ch l 0=91): ∃t,l=91::t:=by
 cases l with
 |nil=>simp [ch]at h
 |cons a t=>
  rw[ch_cons]at h;exact⟨t,by rw[UInt8.toNat_inj.1 (show a.toNat=(91:UInt8).toNat from h)]⟩
theorem nmOk_form{l:List UInt8}(h:nmOk l=true):l=76::nmText l++ [59]∧nameB (nmText l)=true:=by
 obtain⟨he,ht⟩:=refOk_eq l
 have hr:refOk l=true:=by rw[he];exact h
 have ht':=ht hr
 have hn:nameB (nmText l)=true:=by unfold nmOk at h;simp at h;exact h.2
 refine⟨?_,hn⟩;unfold refOk at hr;simp only[Bool.and_eq_true,decide_eq_true_eq]at hr;obtain⟨⟨⟨h2,h0⟩,h9⟩,_⟩:=hr;rw[ht'];have e1:=(ch_drop (l:=l) (n:=0) (by omega)).1;have e2:=ch_drop (l:=l) (n:=l.length-1) (by omega);have a0:l[0]'(by omega)=76:=UInt8.toNat_inj.1 (by have:=(ch_drop (l:=l) (n:=0) (by omega)).2;rw[←this];exact h0);have a9:l[l.length-1]'(by omega)=59:=UInt8.toNat_inj.1 (by rw[←e2.2];exact h9);have e3:l.drop (l.length-1+1)= []:=List.drop_eq_nil_of_le (by omega);rw[e3,a9]at e2
 have hs:l=l.take (l.length-1)++ [59]:=by
  conv=>lhs;rw[←List.take_append_drop (l.length-1) l,e2.1]
 have ht2:l.take (l.length-1)=76::(l.take (l.length-1)).drop 1:=by
  have e4:=(ch_drop (l:=l.take (l.length-1)) (n:=0) (by simp;omega)).1;rw[List.drop_zero]at e4
  conv=>lhs;rw[e4]
  simp[a0]
 conv=>lhs;rw[hs,ht2]
theorem nameB_le{l:List UInt8}(h:nameB l=true):1≤l.length∧l.length≤24:=by
 unfold nameB at h;simp at h;omega
theorem nmOk_ch{l:List UInt8}(h:nmOk l=true):ch l 0=76∧l.length=(nmText l).length+2:=by
 obtain⟨e,hn⟩:=nmOk_form h;constructor
 ·rw[e];rfl
 ·conv=>lhs;rw[e]
  simp
theorem plainB_ch{l:List UInt8}(h:plainB l=true):l= [73]∨l= [66]∨l= [83]:=by
 unfold plainB at h;simp at h;rcases h with(h|h)|h<;>simp [h]
theorem rightB_len{l:List UInt8}(h:rightB l=true):0<l.length∧l.length≤30:=by
 have hb:=rank_base l
 unfold rightB at h;simp only[Bool.and_eq_true,Bool.or_eq_true,decide_eq_true_eq]at h;obtain⟨h4,h|h⟩:=h
 ·have:=nmOk_ch h
  have:=nameB_le (nmOk_form h).2;omega
 ·rcases plainB_ch h with h|h|h<;>(rw[h]at hb;simp at hb;omega)
theorem rightB_ch{l:List UInt8}(h:rightB l=true):(ch l 0=91∧0<rank l)∨(rank l=0∧base l=l∧((ch l 0=76∧nmOk l=true)∨plainB l=true)):=by
 by_cases h9:ch l 0=91
 ·obtain⟨t,rfl⟩:=ch_91 h9
  exact .inl ⟨h9,by rw[(rank_cons t).1];omega⟩
 ·obtain⟨h1,h2⟩:=rank_zero h9
  refine .inr ⟨h1,h2,?_⟩;unfold rightB at h;rw[h2]at h;simp only[Bool.and_eq_true,Bool.or_eq_true]at h
  rcases h.2 with h|h
  ·exact .inl ⟨(nmOk_ch h).1,h⟩
  ·exact .inr h
theorem rightB_base{l:List UInt8}(h:rightB l=true):rank l≤4∧(nmOk (base l)=true∨plainB (base l)=true):=by
 unfold rightB at h;simpa using h
end Go.Proofs.PL
end
section
-- SQUEEZED
/- Layer 2, plain: what a method gives and takes, put together and taken apart: program and reference. -/
set_option linter.unusedVariables false
set_option linter.unusedSimpArgs false
namespace Go.Proofs.PL
open Go.RowKit Go.Proofs.YthnajefdiljneaaDoorW.PrintWords Go.Proofs.YthnajefdiljneaaDoor.Q
def mks(ls:List (List UInt8)):List ByteArray:=ls.map mk
@[simp] theorem length_mks (ls : List (List UInt8)) : (mks ls).length = ls.length := by simp [mks]
theorem ex_mks: ∀l:List ByteArray,∃ls,l=mks ls
 | []=>⟨[],rfl⟩
 |s::l=>by
  obtain⟨a,rfl⟩:=ex_mk s;obtain⟨ls,rfl⟩:=ex_mks l;exact⟨a::ls,rfl⟩
theorem rd_mks(ls:List (List UInt8))(n:Nat)(i:Int)(hi:i=n)(h:n<ls.length):rdOf ByteArray.empty (mks ls) i=mk ls[n]:=by
 subst hi;unfold rdOf mks;simp[List.getD_eq_getElem?_getD,List.getElem?_eq_getElem h]
theorem snoc_mks(ls:List (List UInt8))(t:List UInt8):mks ls++ [mk t]=mks (ls++ [t]):=by simp[mks]
theorem join_none: ∀xs:List (List UInt8),Lib.join xs []=xs.flatten
 | []=>rfl
 | [x]=>by rw[Lib.join_one];simp
 |x::y::xs=>by
  have ih:=join_none (y::xs)
  unfold Lib.join at ih ⊢
  simp only[List.intercalate]at ih ⊢
  rw[List.intersperse_cons_cons]
  simp only[List.flatten_cons,List.nil_append]at ih ⊢
  rw[ih]
def gOk(g:List UInt8):Bool:=g== [86]||rightB g
def sigTx(g:List UInt8)(ts:List (List UInt8)):List UInt8:=40::(ts.flatten++41::g)
def sigB(g:List UInt8)(ts:List (List UInt8)):List UInt8×Int:=if ts.length>6 then([],2)else if ts.all rightB&&gOk g then(sigTx g ts,0)else([],10)
theorem flat_len: ∀ts:List (List UInt8),ts.all rightB=true→ts.flatten.length≤30*ts.length
 | [],_=>by simp
 |t::ts,h=>by
  simp only[List.all_cons,Bool.and_eq_true]at h;have:=flat_len ts h.2;have:=(rightB_len h.1).2;simp only[List.flatten_cons,List.length_append,List.length_cons];omega
theorem join_eq(ts:List (List UInt8))(h:ts.flatten.length≤140737488355328)(h2:ts.length≤140737488355328):strings_Join.f (mks ts) (⟨#[]⟩:ByteArray)=some (mk ts.flatten):=by
 unfold strings_Join.f
 have e:(mks ts).map (fun x=>x.data.toList)=ts:=by
  unfold mks;rw[List.map_map]
  conv=>rhs;rw[←List.map_id ts]
  exact List.map_congr_left fun a _=>by simp
 have e2:(⟨#[]⟩:ByteArray).data.toList= []:=rfl;rw[e,e2,join_none,if_pos ⟨by simpa using h2,h⟩];rfl
theorem sig_l0(g:List UInt8)(ts:List (List UInt8))(hg:g.length≤9223372036854775806)(hts: ∀t∈ts,t.length≤9223372036854775806)(h6:ts.length≤6):
  ∀d n,ts.length-n=d→n≤ts.length→(ts.take n).all rightB=true→Ev (fun k=>desc_Sig.l0 k (mk g) (mks ts) (mks ts) (ts.length:Int) (n:Int)) (mk (sigB g ts).1,(sigB g ts).2):=by
 intro d
 induction d with
 |zero=>
  intro n hd hn hall
  obtain rfl:n=ts.length:=by omega
  rw[List.take_length]at hall
  have hf:=flat_len ts hall
  have hj:=join_eq ts (by omega) (by omega)
  have e1:(⟨#[40]⟩:ByteArray)=mk [40]:=rfl;have e2:(⟨#[41]⟩:ByteArray)=mk [41]:=rfl
  refine Ev.step (fun k=>by rw[desc_Sig.l0,if_neg (by omega)]) ?_
  simp only[toList_mk,e1,e2]
  have hs:gOk g=true→(mk (sigB g ts).1,(sigB g ts).2)=(mk ([40]++ts.flatten++ [41]++g),(0:Int)):=by
   intro h;simp[sigB,sigTx,h,hall,show¬6<ts.length by omega]
  refine Ev.ite (fun h=>?_) (fun h=>Ev.bind (right_ev g hg) (Ev.ite (fun h1=>?_) (fun h1=>?_)))
  ·rw[hs (by simp[gOk,h])]
   refine Ev.then hj ?_
   simp only[append_mk,size_mk];refine Ev.pos (by omega) (Ev.pos (by simp only[List.length_append,List.length_cons,List.length_nil];omega) (Ev.pos (by subst h;simp only[List.length_append,List.length_cons,List.length_nil];omega) (Ev.pure rfl)))
  ·have h2:rightB g=true:=h1
   have:=(rightB_len h2).2;rw[hs (by simp[gOk,h2])]
   refine Ev.then hj ?_
   simp only[append_mk,size_mk];refine Ev.pos (by omega) (Ev.pos (by simp only[List.length_append,List.length_cons,List.length_nil];omega) (Ev.pos (by simp only[List.length_append,List.length_cons,List.length_nil];omega) (Ev.pure rfl)))
  ·have h2:gOk g=false:=by simp[gOk,h];simpa using h1
   refine Ev.pure ?_
   simp[sigB,h2,show¬6<ts.length by omega,lit0]
 |succ d ih=>
  intro n hd hn hall
  have hlt:n<ts.length:=by omega
  have hw:wrap64 ((n:Int)+1)=((n+1:Nat):Int):=by rw[wrap_in _ (by omega) (by omega)];rfl
  refine Ev.step (fun k=>by rw[desc_Sig.l0,if_pos (by omega),if_pos (by omega),if_pos (by simp;omega),rd_mks ts n _ rfl hlt,hw]) ?_
  refine Ev.bind (right_ev ts[n] (hts _ (List.getElem_mem hlt))) (Ev.ite (fun h=>?_) (fun h=>Ev.pure ?_))
  ·refine ih (n+1) (by omega) (by omega) ?_
   rw[List.take_succ_eq_append_getElem hlt,List.all_append,hall]
   simpa using h
  ·have:ts.all rightB=false:=by
    rw[List.all_eq_false];exact⟨ts[n],List.getElem_mem hlt,by simpa using h⟩
   simp[sigB,this,show¬6<ts.length by omega,lit0]
theorem sig_ev(g:List UInt8)(ts:List (List UInt8))(hg:g.length≤9223372036854775806)(hts: ∀t∈ts,t.length≤9223372036854775806):
  Ev (fun k=>desc_Sig.f k (mk g) (mks ts)) (mk (sigB g ts).1,(sigB g ts).2):=by
 unfold desc_Sig.f;simp only[length_mks];refine Ev.ite (fun h=>Ev.pure ?_) (fun h=>sig_l0 g ts hg hts (by omega) ts.length 0 (by omega) (by omega) (by simp))
 have:ts.length>6:=by omega
 simp[sigB,this,lit0]
theorem refSig_l0(g:List UInt8)(ts:List (List UInt8))(hg:g.length≤9223372036854775806)(hts: ∀t∈ts,t.length≤9223372036854775806)(h6:ts.length≤6):
  ∀d n,ts.length-n=d→n≤ts.length→(ts.take n).all rightB=true→Ev (fun k=>hornbookref02_Sig.l0 k (mk g) (mks ts) (mk (40::(ts.take n).flatten)) (n:Int)) (mk (sigB g ts).1,(sigB g ts).2):=by
 intro d
 induction d with
 |zero=>
  intro n hd hn hall
  obtain rfl:n=ts.length:=by omega
  rw[List.take_length]at hall ⊢
  have hf:=flat_len ts hall
  have e2:(⟨#[41]⟩:ByteArray)=mk [41]:=rfl
  refine Ev.step (fun k=>by rw[hornbookref02_Sig.l0,if_neg (by simp)]) ?_
  simp only[toList_mk,e2,append_mk,size_mk]
  have hs:gOk g=true→(mk (sigB g ts).1,(sigB g ts).2)=(mk (40::ts.flatten++ [41]++g),(0:Int)):=by
   intro h;simp[sigB,sigTx,h,hall,show¬6<ts.length by omega]
  refine Ev.ite (fun h=>?_) (fun h=>Ev.bind (refRight g hg) (Ev.ite (fun h1=>?_) (fun h1=>?_)))
  ·rw[hs (by simp[gOk,h])]
   refine Ev.pos (by simp only[List.length_append,List.length_cons,List.length_nil];omega) (Ev.pos (by subst h;simp only[List.length_append,List.length_cons,List.length_nil];omega) (Ev.pure rfl))
  ·have h2:rightB g=true:=h1
   have:=(rightB_len h2).2;rw[hs (by simp[gOk,h2])];refine Ev.pos (by simp only[List.length_append,List.length_cons,List.length_nil];omega) (Ev.pos (by simp only[List.length_append,List.length_cons,List.length_nil];omega) (Ev.pure rfl))
  ·have h2:gOk g=false:=by simp[gOk,h];simpa using h1
   refine Ev.pure ?_
   simp[sigB,h2,show¬6<ts.length by omega,lit0]
 |succ d ih=>
  intro n hd hn hall
  have hlt:n<ts.length:=by omega
  have hw:wrap64 ((n:Int)+1)=((n+1:Nat):Int):=by rw[wrap_in _ (by omega) (by omega)];rfl
  refine Ev.step (fun k=>by rw[hornbookref02_Sig.l0,if_pos (by simp;omega),if_pos (by omega),rd_mks ts n _ rfl hlt,hw]) ?_
  refine Ev.bind (refRight ts[n] (hts _ (List.getElem_mem hlt))) (Ev.ite (fun h=>?_) (fun h=>Ev.pure ?_))
  ·have h1:rightB ts[n]=true:=h
   have hl1:=(rightB_len h1).2
   have hf:=flat_len (ts.take n) hall
   have e:mk (40::(ts.take n).flatten)++mk ts[n]=mk (40::(ts.take (n+1)).flatten):=by
    have ef:(ts.take (n+1)).flatten=(ts.take n).flatten++ts[n]:=by rw[List.take_succ_eq_append_getElem hlt,List.flatten_append];simp
    rw[append_mk,ef];rfl
   refine Ev.pos ?_ ?_
   ·simp only[size_mk,List.length_cons]
    simp only[List.length_take]at hf;omega
   ·rw[e]
    refine ih (n+1) (by omega) (by omega) ?_
    rw[List.take_succ_eq_append_getElem hlt,List.all_append,hall]
    simpa using h
  ·have:ts.all rightB=false:=by
    rw[List.all_eq_false];exact⟨ts[n],List.getElem_mem hlt,by simpa using h⟩
   simp[sigB,this,show¬6<ts.length by omega,lit0]
theorem refSig_ev(g:List UInt8)(ts:List (List UInt8))(hg:g.length≤9223372036854775806)(hts: ∀t∈ts,t.length≤9223372036854775806):
  Ev (fun k=>hornbookref02_Sig.f k (mk g) (mks ts)) (mk (sigB g ts).1,(sigB g ts).2):=by
 unfold hornbookref02_Sig.f;simp only[length_mks];refine Ev.ite (fun h=>Ev.pure ?_) (fun h=>?_)
 ·have:ts.length>6:=by omega
  simp[sigB,this,lit0]
 ·have:=refSig_l0 g ts hg hts (by omega) ts.length 0 (by omega) (by omega) (by simp)
  show Ev (fun k=>hornbookref02_Sig.l0 k (mk g) (mks ts) (mk [40]) 0) _
  simpa using this
def idx(b:List UInt8):Nat:=(b.takeWhile (· !=59)).length
def fl(l:List UInt8):Nat:=rank l+(if ch (base l) 0=76 then idx (base l)+1 else 1)
def okF(l:List UInt8):Bool:=decide (fl l≤l.length)&&rightB (l.take (fl l))
theorem rank_append(p r:List UInt8)(h:base p≠ []):rank (p++r)=rank p∧base (p++r)=base p++r:=by
 induction p with
 |nil=>exact absurd rfl h
 |cons a p ih=>
  by_cases ha:a=91
  ·subst ha
   have e1:=rank_cons p
   have e2:=rank_cons (p++r)
   rw[e1.2]at h;have:=ih h;rw[List.cons_append,e1.1,e1.2,e2.1,e2.2,this.1,this.2];exact⟨rfl,rfl⟩
  ·have hb:(a==(91:UInt8))=false:=by simpa using ha
   unfold rank base;simp[List.takeWhile_cons,List.dropWhile_cons,hb]
theorem okc_59{n:List UInt8}(h:nameB n=true): ∀c∈n,c≠59:=by
 intro c hc e;subst e;unfold nameB at h;simp only[Bool.and_eq_true,List.all_eq_true]at h;have:=h.2 59 hc;revert this;decide
theorem idx_name{n:List UInt8}(h:nameB n=true)(r:List UInt8):idx (76::n++ [59]++r)=n.length+1:=by
 have hall: ∀c∈(76::n),(c !=(59:UInt8))=true:=by
  intro c hc
  rcases List.mem_cons.1 hc with rfl|hc
  ·decide
  ·simpa using okc_59 h c hc
 unfold idx
 have e:(76::n++ [59]++r)=(76::n)++(59::r):=by simp
 rw[e,List.takeWhile_append_of_pos hall];simp
theorem take_unique(p r:List UInt8)(h:rightB p=true):fl (p++r)=p.length:=by
 have hl:=rightB_len h
 obtain⟨hr,hb⟩:=rightB_base h
 have hpb:=rank_base p
 have hne:base p≠ []:=by
  intro e;rw[e]at hb
  rcases hb with hb|hb<;>revert hb<;>decide
 obtain⟨e1,e2⟩:=rank_append p r hne;unfold fl;rw[e1,e2]
 rcases hb with hb|hb
 ·obtain⟨e3,hn⟩:=nmOk_form hb
  have hlen:=(nmOk_ch hb).2
  have e4:ch (base p++r) 0=76:=by rw[e3];rfl
  rw[if_pos e4]
  have:idx (base p++r)=(nmText (base p)).length+1:=by have h9:=idx_name hn r;rw[←e3]at h9;exact h9
  omega
 ·rcases plainB_ch hb with e|e|e
  all_goals
   rw[e]at hpb ⊢
   rw[if_neg (by simp[ch])];simp at hpb;omega
theorem okF_of(p r:List UInt8)(h:rightB p=true):okF (p++r)=true∧fl (p++r)=p.length:=by
 have:=take_unique p r h;refine⟨?_,this⟩;unfold okF;rw[this];simp[h]
theorem fl_pos(l:List UInt8):1≤fl l:=by unfold fl;split<;>omega
theorem okF_form{l:List UInt8}(h:okF l=true):fl l≤l.length∧rightB (l.take (fl l))=true∧fl l≤30:=by
 unfold okF at h;simp only[Bool.and_eq_true,decide_eq_true_eq]at h;have:=(rightB_len h.2).2;rw[List.length_take]at this;exact⟨h.1,h.2,by omega⟩
theorem right_take{l:List UInt8}{n:Nat}(hn:n≤l.length)(h:rightB (l.take n)=true):okF l=true∧fl l=n:=by
 have:=okF_of (l.take n) (l.drop n) h;rw[List.take_append_drop,List.length_take]at this;exact⟨this.1,by rw[this.2];omega⟩
theorem indexByte_eq(c:UInt8): ∀l:List UInt8,(c∈l→Lib.indexByte l c=((l.takeWhile (· !=c)).length:Int)∧(l.takeWhile (· !=c)).length<l.length)∧(c∉l→Lib.indexByte l c= -1∧(l.takeWhile (· !=c)).length=l.length)
 | []=>by simp[Lib.indexByte]
 |b::l=>by
  obtain⟨i1,i2⟩:=indexByte_eq c l
  by_cases hb:b=c
  ·subst hb
   refine⟨fun _=>⟨by simp[Lib.indexByte],by simp⟩,fun h=>absurd List.mem_cons_self h⟩
  ·have e1:(b==c)=false:=by simpa using hb
   have e2:(b !=c)=true:=by simpa using hb
   refine⟨fun h=>?_,fun h=>?_⟩
   ·have hm:c∈l:=by rcases List.mem_cons.1 h with h|h;exact absurd h.symm hb;exact h
    obtain⟨j1,j2⟩:=i1 hm;unfold Lib.indexByte;rw[e1,List.takeWhile_cons,e2];simp only[if_true,Bool.false_eq_true,if_false,List.length_cons];refine⟨?_,by omega⟩;rw[j1,if_neg (by first|(simp;done)|(simp;omega))];rfl
   ·have hm:c∉l:=fun e=>h (List.mem_cons_of_mem _ e)
    obtain⟨j1,j2⟩:=i2 hm;unfold Lib.indexByte;rw[e1,List.takeWhile_cons,e2];simp only[if_true,Bool.false_eq_true,if_false,List.length_cons];exact⟨by rw[j1,if_pos (by decide)],by omega⟩
theorem first_ev(l:List UInt8)(hl:l.length≤9223372036854775806):
  ∃d r,Ev (fun k=>desc_first.f k (mk l)) (mk d,mk r,okF l)∧(okF l=true→d=l.take (fl l)∧r=l.drop (fl l)):=by
 have hb:=rank_base l
 have hP:=hasP_one (base l) 76
 have tail: ∀n:Nat,fl l=n→n≤l.length→
   Ev (fun k=>(desc_Right.f k ((mk l).extract 0 n)).bind fun t=>some ((mk l).extract 0 n,(mk l).extract n (mk l).size,t)) (mk (l.take (fl l)),mk (l.drop (fl l)),okF l):=by
  intro n hn hle
  have e1:(mk l).extract 0 n=mk (l.take (fl l)):=by rw[extract_mk,hn];simp
  rw[e1,extract_to_end,hn];refine Ev.bind (right_ev _ (by simp;omega)) (Ev.pure ?_);simp[okF,hn,hle]
 by_cases hc:ch (base l) 0=76
 ·have hpos:0<(base l).length:=by
   cases h:base l with
   |nil=>rw [h]at hc;simp[ch]at hc
   |cons _ _=>simp
  have hp:hasP (base l) [76]=true:=by rw[hP];simp[hpos];exact hc
  have hfl:fl l=rank l+(idx (base l)+1):=by unfold fl;rw[if_pos hc]
  obtain⟨i1,i2⟩:=indexByte_eq 59 (base l)
  by_cases hm:(59:UInt8)∈base l
  ·obtain⟨j1,j2⟩:=i1 hm
   refine⟨_,_,?_,fun _=>⟨rfl,rfl⟩⟩;unfold desc_first.f
   refine Ev.then (bare_eq l hl) ?_
   refine Ev.then (a:=true) (by unfold strings_HasPrefix.f;rw[show(⟨#[76]⟩:ByteArray)=mk [76]from rfl,hasPrefix_eq,hp];rfl) (Ev.pos rfl ?_)
   refine Ev.then (a:=(idx (base l):Int)) (by unfold strings_IndexByte.f;rw[data_mk];exact congrArg some j1) ?_
   have hi:idx (base l)<(base l).length:=j2
   have w1:wrap64 ((idx (base l):Int)+1)=((idx (base l)+1:Nat):Int):=by rw[wrap_in _ (by omega) (by omega)];rfl
   simp only[w1]
   have w2:wrap64 ((rank l:Int)+((idx (base l)+1:Nat):Int))=((fl l:Nat):Int):=by rw[wrap_in _ (by omega) (by omega)];omega
   simp only[w2,Int.toNat_natCast];refine Ev.neg (by omega) (Ev.neg (by rw[size_mk];omega) (Ev.pos (by omega) (Ev.pos (by rw[size_mk];omega) (tail _ rfl (by omega)))))
  ·obtain⟨j1,j2⟩:=i2 hm
   have hfF:okF l=false:=by
    have: ¬fl l≤l.length:=by rw[hfl];unfold idx;omega
    simp[okF,this]
   refine⟨[],[],?_,fun h=>by rw[hfF]at h;cases h⟩;unfold desc_first.f
   refine Ev.then (bare_eq l hl) ?_
   refine Ev.then (a:=true) (by unfold strings_HasPrefix.f;rw[show(⟨#[76]⟩:ByteArray)=mk [76]from rfl,hasPrefix_eq,hp];rfl) (Ev.pos rfl ?_)
   refine Ev.then (a:= -1) (by unfold strings_IndexByte.f;rw[data_mk];exact congrArg some j1) ?_
   refine Ev.pos (by rw[wrap_in _ (by omega) (by omega)];rfl) (Ev.pure ?_);rw[hfF];rfl
 ·have hp:hasP (base l) [76]=false:=by rw[hP];simp;intro _;exact hc
  have hfl:fl l=rank l+1:=by unfold fl;rw[if_neg hc]
  by_cases hpos:0<(base l).length
  ·refine⟨_,_,?_,fun _=>⟨rfl,rfl⟩⟩
   unfold desc_first.f
   refine Ev.then (bare_eq l hl) ?_
   refine Ev.then (a:=false) (by unfold strings_HasPrefix.f;rw[show(⟨#[76]⟩:ByteArray)=mk [76]from rfl,hasPrefix_eq,hp];rfl) (Ev.neg (by simp) ?_)
   have w2:wrap64 ((rank l:Int)+1)=((fl l:Nat):Int):=by rw[wrap_in _ (by omega) (by omega)];omega
   simp only[w2,Int.toNat_natCast];refine Ev.neg (by omega) (Ev.neg (by rw[size_mk];omega) (Ev.pos (by omega) (Ev.pos (by rw[size_mk];omega) (tail _ rfl (by omega)))))
  ·have hfF:okF l=false:=by
    have: ¬fl l≤l.length:=by rw[hfl];omega
    simp[okF,this]
   refine⟨[],[],?_,fun h=>by rw[hfF]at h;cases h⟩;unfold desc_first.f
   refine Ev.then (bare_eq l hl) ?_
   refine Ev.then (a:=false) (by unfold strings_HasPrefix.f;rw[show(⟨#[76]⟩:ByteArray)=mk [76]from rfl,hasPrefix_eq,hp];rfl) (Ev.neg (by simp) ?_);refine Ev.neg (by omega) (Ev.pos (by rw[size_mk];omega) (Ev.pure ?_));rw[hfF];rfl
theorem refEnd_l0(l:List UInt8)(hl:l.length≤9223372036854775806): ∀d n,31-n=d→1≤n→n≤31→(okF l=true→n≤fl l)→Ev (fun k=>hornbookref02_end.l0 k (mk l) (n:Int)) (if okF l then(fl l:Int)else 0):=by
 intro d
 induction d with
 |zero=>
  intro n hd h1 h31 hf
  obtain rfl:n=31:=by omega
  have hF:okF l=false:=by
   cases h:okF l with
   |false=>rfl
   |true=>have:=hf h;have:=(okF_form h).2.2;omega
  rw[hF]
  refine Ev.step (fun k=>by rw[hornbookref02_end.l0]) ?_
  refine Ev.ite (fun _=>?_) (fun _=>?_)
  ·exact Ev.step (f:=fun _=>some (0:Int)) (fun k=>by rw[hornbookref02_end.j1,if_neg (by decide)]) (Ev.pure rfl)
  ·exact Ev.step (f:=fun _=>some (0:Int)) (fun k=>by rw[hornbookref02_end.j1,if_neg (by decide)]) (Ev.pure rfl)
 |succ d ih=>
  intro n hd h1 h31 hf
  refine Ev.step (fun k=>by rw[hornbookref02_end.l0]) ?_
  rw[size_mk];refine Ev.ite (fun hle=>?_) (fun hle=>?_)
  ·have hw:wrap64 ((n:Int)+1)=((n+1:Nat):Int):=by rw[wrap_in _ (by omega) (by omega)];rfl
   refine Ev.step (fun k=>by rw[hornbookref02_end.j1,if_pos (by simp;omega),if_pos (by omega),if_pos (by rw[size_mk];omega),Int.toNat_natCast,extract_mk,List.drop_zero,hw]) ?_
   refine Ev.bind (refRight (l.take n) (by simp;omega)) (Ev.ite (fun h=>Ev.pure ?_) (fun h=>?_))
   ·obtain⟨e1,e2⟩:=right_take (by omega) h
    rw[e1,e2];rfl
   ·refine ih (n+1) (by omega) (by omega) (by omega) (fun hF=>?_)
    have:=hf hF
    rcases Nat.lt_or_ge n (fl l)with h2|h2
    ·omega
    ·have e:fl l=n:=by omega
     exact absurd ((okF_form hF).2.1) (by rw[e];exact h)
  ·have hF:okF l=false:=by
    cases h:okF l with
    |false=>rfl
    |true=>have:=hf h;have:=(okF_form h).1;omega
   rw[hF];exact Ev.step (f:=fun _=>some (0:Int)) (fun k=>by rw[hornbookref02_end.j1,if_neg (by decide)]) (Ev.pure rfl)
theorem refEnd_ev(l:List UInt8)(hl:l.length≤9223372036854775806):Ev (fun k=>hornbookref02_end.f k (mk l)) (if okF l then(fl l:Int)else 0):=
 refEnd_l0 l hl 30 1 rfl (by omega) (by omega) (fun _=>fl_pos l)
end Go.Proofs.PL
end
section
-- SQUEEZED
/- Layer 2, plain: Split; what is taken apart was put together. -/
set_option linter.unusedVariables false
set_option linter.unusedSimpArgs false
namespace Go.Proofs.PL
open Go.RowKit Go.Proofs.YthnajefdiljneaaDoorW.PrintWords Go.Proofs.YthnajefdiljneaaDoor.Q
def Parse(ts:List (List UInt8))(s:List UInt8):Prop:= ∃(us:List (List UInt8)) (g:List UInt8),us.all rightB=true∧gOk g=true∧ts.length+us.length≤6∧s=us.flatten++41::g
theorem hasP_41(s:List UInt8):strings_HasPrefix.f (mk s) (⟨#[41]⟩:ByteArray)=some (hasP s [41]):=by
 unfold strings_HasPrefix.f;rw[show(⟨#[41]⟩:ByteArray)=mk [41]from rfl,hasPrefix_eq];rfl
theorem cutP_41(s:List UInt8):strings_CutPrefix.f (mk s) (⟨#[41]⟩:ByteArray)=some (if hasP s [41]then(mk (s.drop 1),true)else(mk s,false)):=by
 rw[show(⟨#[41]⟩:ByteArray)=mk [41]from rfl,cutPrefix_eq];rfl
theorem right_not41{t:List UInt8}(h:rightB t=true):ch t 0≠41:=by
 intro e
 rcases rightB_ch h with⟨h9,_⟩|⟨_,_,⟨h7,_⟩|hp⟩
 ·omega
 ·omega
 ·rcases plainB_ch hp with h|h|h<;>(rw[h]at e;simp[ch]at e)
theorem ch_append{t:List UInt8}(h:0<t.length)(r:List UInt8):ch (t++r) 0=ch t 0:=by
 cases t with
 |nil=>simp at h
 |cons a t=>rfl
theorem parse_first{ts us:List (List UInt8)}{g s:List UInt8}{t:List UInt8}(ht:rightB t=true)(hs:s=(t::us).flatten++41::g):
  okF s=true∧s.take (fl s)=t∧s.drop (fl s)=us.flatten++41::g:=by
 have e:s=t++(us.flatten++41::g):=by rw[hs];simp
 obtain⟨h1,h2⟩:=okF_of t (us.flatten++41::g) ht;rw[←e]at h1 h2;refine⟨h1,?_,?_⟩
 ·rw[h2,e];simp
 ·rw[h2,e];simp
theorem split_err_j1(s:List UInt8)(ts:List (List UInt8))(h:hasP s [41]=false):Ev (fun k=>desc_Split.j1 k (mk s) true (mks ts) false) ((⟨#[]⟩:ByteArray),([]:List ByteArray),(5:Int)):=by
 refine Ev.step (fun k=>by rw[desc_Split.j1,if_neg (by decide),cutP_41,h]) ?_
 refine Ev.then rfl (Ev.pos rfl ?_);exact Ev.step (f:=fun _=>some ((⟨#[]⟩:ByteArray),([]:List ByteArray),(5:Int))) (fun k=>by rw[desc_Split.j2];rfl) (Ev.pure rfl)
theorem split_err_l0(s:List UInt8)(ts:List (List UInt8)):Ev (fun k=>desc_Split.l0 k (mk s) false (mks ts)) ((⟨#[]⟩:ByteArray),([]:List ByteArray),(5:Int)):=by
 refine Ev.step (fun k=>by rw[desc_Split.l0,if_neg (by decide)]) ?_
 refine Ev.step (fun k=>by rw[desc_Split.j1,if_neg (by decide),cutP_41]) ?_
 refine Ev.then rfl (Ev.neg (by decide) ?_);exact Ev.step (f:=fun _=>some ((⟨#[]⟩:ByteArray),([]:List ByteArray),(5:Int))) (fun k=>by rw[desc_Split.j2];rfl) (Ev.pure rfl)
theorem ref_err_j3(x s:List UInt8)(ts:List (List UInt8)):Ev (fun k=>hornbookref02_Split.j3 k (mk x) (mks ts) (mk s) true) ((⟨#[]⟩:ByteArray),([]:List ByteArray),(5:Int)):=
 Ev.step (f:=fun _=>some ((⟨#[]⟩:ByteArray),([]:List ByteArray),(5:Int))) (fun k=>by rw[hornbookref02_Split.j3];rfl) (Ev.pure rfl)
theorem ref_err_j2(x s:List UInt8)(ts:List (List UInt8))(h:ch s 0≠41):Ev (fun k=>hornbookref02_Split.j2 k (mk x) (mks ts) (mk s) false) ((⟨#[]⟩:ByteArray),([]:List ByteArray),(5:Int)):=by
 refine Ev.step (fun k=>by rw[hornbookref02_Split.j2,if_neg (by decide),size_mk]) ?_
 refine Ev.ite (fun _=>ref_err_j3 x s ts) (fun h0=>Ev.pos (by omega) ?_);simp only[bt_mk s 0 0 rfl (show 0<s.length by omega)]
 have e:((ch s 0:Int) !=41)=true:=by simp;omega
 rw[e];exact ref_err_j3 x s ts
structure Both (ts:List (List UInt8)) (s:List UInt8) (P R:Nat→Option (ByteArray×List ByteArray×Int)):Prop where
 mk::(out: ∃(us:List (List UInt8)) (g:List UInt8) (e:Int),Ev P (PL.mk g,mks us,e)∧Ev R (PL.mk g,mks us,e)∧
  ((e=0∧sigB g us=(40::(ts.flatten++s),0))∨(e=5∧g= []∧us= []∧ ¬Parse ts s)))
theorem Both.err{ts:List (List UInt8)}{s:List UInt8}{P R:Nat→Option (ByteArray×List ByteArray×Int)}(hp:Ev P ((⟨#[]⟩:ByteArray),([]:List ByteArray),(5:Int)))(hr:Ev R ((⟨#[]⟩:ByteArray),([]:List ByteArray),(5:Int)))(h: ¬Parse ts s):Both ts s P R:=
 ⟨[],[],5,hp,hr, .inr ⟨rfl,rfl,rfl,h⟩⟩
theorem split_run: ∀(m:Nat) (s:List UInt8) (ts:List (List UInt8)),s.length≤m→ts.length≤7→ts.all rightB=true→(40::(ts.flatten++s)).length≤9223372036854775806→
  Both ts s (fun k=>desc_Split.l0 k (mk s) true (mks ts)) (fun k=>hornbookref02_Split.l0 k (mk (40::(ts.flatten++s))) (mks ts) (mk s)):=by
 intro m
 induction m with
 |zero=>
  intro s ts hm h7 hall hl;obtain rfl:s= []:=List.eq_nil_of_length_eq_zero (by omega)
  have hp0:hasP [] [41]=false:=by decide
  refine Both.err ?_ ?_ ?_
  ·refine Ev.step (fun k=>by rw[desc_Split.l0,if_pos rfl,hasP_41,hp0]) ?_
   refine Ev.then rfl (Ev.neg (by decide) ?_)
   by_cases h6:(ts.length:Int)≤6
   ·have e:decide (((mks ts).length:Int)≤6)=true:=by simp;omega
    rw[e];obtain⟨d,r,hf,hok⟩:=first_ev [] (by simp)
    have hF:okF []=false:=by decide
    rw[hF]at hf
    refine Ev.step (fun k=>by rw[desc_Split.j1,if_pos rfl]) ?_
    refine Ev.bind hf (Ev.neg (by simp) ?_);exact split_err_l0 r ts
   ·have e:decide (((mks ts).length:Int)≤6)=false:=by simp;omega
    rw[e];exact split_err_j1 [] ts hp0
  ·refine Ev.step (fun k=>by rw[hornbookref02_Split.l0,if_neg (by simp)]) ?_
   exact ref_err_j2 _ [] ts (by decide)
  ·rintro⟨us,g,_,_,_,e⟩
   have:=congrArg List.length e;simp at this
 |succ m ih=>
  intro s ts hm h7 hall hl
  have hlen:s.length≤9223372036854775806:=by simp only[List.length_cons,List.length_append]at hl;omega
  have hP:=hasP_one s 41
  by_cases hs0:s.length=0
  ·exact ih s ts (by omega) h7 hall hl
  by_cases h41:ch s 0=41
  ·have hp:hasP s [41]=true:=by rw[hP];simp;exact⟨by omega,h41⟩
   have hsf:s=41::s.drop 1:=by
    cases s with
    |nil=>simp at hs0
    |cons a s=>rw [ch_cons]at h41;rw[UInt8.toNat_inj.1 (show a.toNat=(41:UInt8).toNat from h41)];simp
   have hts: ∀t∈ts,t.length≤9223372036854775806:=fun t ht=>by
    have:=(rightB_len (List.all_eq_true.1 hall t ht)).2;omega
   have hsig:=sig_ev (s.drop 1) ts (by simp;omega) hts
   have hrsig:=refSig_ev (s.drop 1) ts (by simp;omega) hts
   have hp1:Ev (fun k=>desc_Split.l0 k (mk s) true (mks ts)) (if(sigB (s.drop 1) ts).2=0 then(mk (s.drop 1),mks ts,0)else((⟨#[]⟩:ByteArray),([]:List ByteArray),(5:Int))):=by
    refine Ev.step (fun k=>by rw[desc_Split.l0,if_pos rfl,hasP_41,hp]) ?_
    refine Ev.then rfl (Ev.pos rfl ?_)
    refine Ev.step (fun k=>by rw[desc_Split.j1,if_neg (by decide),cutP_41,hp]) ?_
    refine Ev.then rfl (Ev.pos rfl ?_)
    refine Ev.step (fun k=>by rw[desc_Split.j2,if_neg (by simp)]) ?_
    refine Ev.bind hsig ?_
    refine Ev.ite (fun h=>Ev.pure ?_) (fun h=>Ev.pure ?_)
    ·have h':(sigB (s.drop 1) ts).2=0:=h
     rw[if_pos h'];rfl
    ·have h': ¬(sigB (s.drop 1) ts).2=0:=h
     rw[if_neg h']
   have hr1:Ev (fun k=>hornbookref02_Split.l0 k (mk (40::(ts.flatten++s))) (mks ts) (mk s)) (if(sigB (s.drop 1) ts).2=0 then(mk (s.drop 1),mks ts,0)else((⟨#[]⟩:ByteArray),([]:List ByteArray),(5:Int))):=by
    refine Ev.step (fun k=>by rw[hornbookref02_Split.l0,size_mk,if_pos (by omega),if_pos (by omega),bt_mk s 0 0 rfl (by omega),if_pos (by omega)]) ?_
    refine Ev.step (fun k=>by rw[hornbookref02_Split.j2,if_neg (by decide),size_mk,if_neg (by omega),if_pos (by omega),bt_mk s 0 0 rfl (by omega)]) ?_
    have e:((ch s 0:Int) !=41)=false:=by rw[h41];rfl
    rw[e];have e1:(mk s).extract 1 (mk s).size=mk (s.drop 1):=extract_to_end s 1
    refine Ev.step (fun k=>by rw[hornbookref02_Split.j3,if_neg (by decide),if_pos (by rw[size_mk];omega),e1]) ?_
    refine Ev.bind hrsig ?_
    by_cases h:(sigB (s.drop 1) ts).2=0
    ·have hok:sigB (s.drop 1) ts=(sigTx (s.drop 1) ts,0):=by
      unfold sigB at h ⊢
      split at h
      ·simp at h
      ·split at h
       ·rename_i h1 h2;rw[if_neg h1,if_pos h2]
       ·simp at h
     rw[hok]
     have e2:sigTx (s.drop 1) ts=40::(ts.flatten++s):=by unfold sigTx;rw[←hsf]
     refine Ev.pos rfl (Ev.pos (by simp only[toList_mk];rw[e2]) (Ev.pure ?_));simp
    ·refine Ev.neg h (Ev.pure ?_)
     rw[if_neg h]
   by_cases h:(sigB (s.drop 1) ts).2=0
   ·rw[if_pos h]at hp1 hr1
    have hok:sigB (s.drop 1) ts=(sigTx (s.drop 1) ts,0):=by
     unfold sigB at h ⊢
     split at h
     ·simp at h
     ·split at h
      ·rename_i h1 h2;rw[if_neg h1,if_pos h2]
      ·simp at h
    refine⟨ts,s.drop 1,0,hp1,hr1, .inl ⟨rfl,?_⟩⟩;rw[hok];unfold sigTx;rw[←hsf]
   ·rw[if_neg h]at hp1 hr1
    refine Both.err hp1 hr1 ?_
    rintro⟨us,g,hu,hg,h6,e⟩
    cases us with
    |nil=>
     have eg:g=s.drop 1:=by rw[e];simp
     subst eg;simp only[List.length_nil,Nat.add_zero]at h6;apply h;unfold sigB;rw[if_neg (by omega),hall,hg];rfl
    |cons t us=>
     simp only[List.all_cons,Bool.and_eq_true]at hu
     have e3:s=t++(us.flatten++41::g):=by rw[e];simp
     have:=ch_append (rightB_len hu.1).1 (us.flatten++41::g);rw[←e3,h41]at this;exact right_not41 hu.1 this.symm
  ·have hp:hasP s [41]=false:=by rw[hP];simp;intro _;exact h41
   have h41': ¬(ch s 0:Int)=41:=by omega
   by_cases h6:ts.length≤6
   ·have e6:decide (((mks ts).length:Int)≤6)=true:=by simp;omega
    obtain⟨d,r,hf,hok⟩:=first_ev s hlen
    have hend:=refEnd_ev s hlen
    by_cases hF:okF s=true
    ·obtain⟨hd,hr⟩:=hok hF
     obtain⟨f1,f2,f3⟩:=okF_form hF
     have fp:=fl_pos s
     rw[hF]at hf hend;subst hd hr
     have hall':(ts++ [s.take (fl s)]).all rightB=true:=by rw[List.all_append,hall];simpa using f2
     have hflat:40::((ts++ [s.take (fl s)]).flatten++s.drop (fl s))=40::(ts.flatten++s):=by
      simp
     obtain⟨us,g,e,i1,i2,i3⟩:=(ih (s.drop (fl s)) (ts++ [s.take (fl s)]) (by simp;omega) (by simp;omega) hall' (by rw[hflat];exact hl)).out;rw[hflat]at i2 i3;refine⟨us,g,e,?_,?_,?_⟩
     ·refine Ev.step (fun k=>by rw[desc_Split.l0,if_pos rfl,hasP_41,hp]) ?_
      refine Ev.then rfl (Ev.neg (by decide) ?_);rw[e6]
      refine Ev.step (fun k=>by rw[desc_Split.j1,if_pos rfl]) ?_
      refine Ev.bind hf (Ev.pos rfl (Ev.pos (by simp;omega) ?_));simp only[snoc_mks];exact i1
     ·refine Ev.step (fun k=>by rw[hornbookref02_Split.l0,size_mk,if_pos (by omega),if_pos (by omega),bt_mk s 0 0 rfl (by omega),if_neg h41',e6]) ?_
      refine Ev.step (fun k=>by rw[hornbookref02_Split.j2,if_pos rfl]) ?_
      refine Ev.bind hend ?_
      simp only[if_true];refine Ev.neg (by omega) (Ev.pos (by omega) (Ev.pos (by rw[size_mk];omega) (Ev.pos (by simp;omega) ?_)))
      have e1:(mk s).extract 0 ((fl s:Nat):Int).toNat=mk (s.take (fl s)):=by rw[extract_mk];simp
      have e2:(mk s).extract ((fl s:Nat):Int).toNat (mk s).size=mk (s.drop (fl s)):=by rw[extract_to_end];simp
      simp only[e1,e2,snoc_mks];exact i2
     ·rcases i3 with⟨j1,j2⟩|⟨j1,j2,j3,j4⟩
      ·exact .inl ⟨j1,j2⟩
      ·refine .inr ⟨j1,j2,j3,?_⟩
       rintro⟨us',g',hu,hg,hl6,e'⟩
       cases us' with
       |nil=>
        simp only[List.flatten_nil,List.nil_append]at e';rw[e']at h41;exact h41 rfl
       |cons t us'=>
        simp only[List.all_cons,Bool.and_eq_true]at hu;obtain⟨_,k2,k3⟩:=parse_first (ts:=ts) hu.1 e';exact j4 ⟨us',g',hu.2,hg,by simp at hl6 ⊢;omega,k3⟩
    ·have hF':okF s=false:=by simpa using hF
     rw[hF']at hf hend
     refine Both.err ?_ ?_ ?_
     ·refine Ev.step (fun k=>by rw[desc_Split.l0,if_pos rfl,hasP_41,hp]) ?_
      refine Ev.then rfl (Ev.neg (by decide) ?_);rw[e6]
      refine Ev.step (fun k=>by rw[desc_Split.j1,if_pos rfl]) ?_
      refine Ev.bind hf (Ev.neg (by simp) ?_);exact split_err_l0 r ts
     ·refine Ev.step (fun k=>by rw[hornbookref02_Split.l0,size_mk,if_pos (by omega),if_pos (by omega),bt_mk s 0 0 rfl (by omega),if_neg h41',e6]) ?_
      refine Ev.step (fun k=>by rw[hornbookref02_Split.j2,if_pos rfl]) ?_
      refine Ev.bind hend ?_
      exact Ev.pos rfl (Ev.pure rfl)
     ·rintro⟨us',g',hu,hg,hl6,e'⟩
      cases us' with
      |nil=>
       simp only[List.flatten_nil,List.nil_append]at e';rw[e']at h41;exact h41 rfl
      |cons t us'=>
       simp only[List.all_cons,Bool.and_eq_true]at hu;obtain⟨k1,_,_⟩:=parse_first (ts:=ts) hu.1 e';exact hF k1
   ·have e6:decide (((mks ts).length:Int)≤6)=false:=by simp;omega
    refine Both.err ?_ ?_ ?_
    ·refine Ev.step (fun k=>by rw[desc_Split.l0,if_pos rfl,hasP_41,hp]) ?_
     refine Ev.then rfl (Ev.neg (by decide) ?_);rw[e6];exact split_err_j1 s ts hp
    ·refine Ev.step (fun k=>by rw[hornbookref02_Split.l0,size_mk,if_pos (by omega),if_pos (by omega),bt_mk s 0 0 rfl (by omega),if_neg h41',e6]) ?_
     exact ref_err_j2 _ s ts h41
    ·rintro⟨us',g',hu,hg,hl6,e'⟩
     omega
theorem split_both(l:List UInt8)(hl:l.length≤9223372036854775806):
  ∃(us:List (List UInt8)) (g:List UInt8) (e:Int),Ev (fun k=>desc_Split.f k (mk l)) (mk g,mks us,e)∧Ev (fun k=>hornbookref02_Split.f k (mk l)) (mk g,mks us,e)∧
   ((e=0∧sigB g us=(l,0))∨(e=5∧g= []∧us= []∧ ∀us' g',sigB g' us'≠(l,0))):=by
 have hP:=hasP_one l 40
 have hcut:strings_CutPrefix.f (mk l) (⟨#[40]⟩:ByteArray)=some (if hasP l [40]then(mk (l.drop 1),true)else(mk l,false)):=by
  rw[show(⟨#[40]⟩:ByteArray)=mk [40]from rfl,cutPrefix_eq];rfl
 have hsg: ∀us' g',sigB g' us'=(l,0)→l=40::(us'.flatten++41::g')∧us'.all rightB=true∧gOk g'=true∧us'.length≤6:=by
  intro us' g' h;unfold sigB at h;split at h
  ·simp at h
  ·split at h
   ·rename_i h1 h2
    simp only[Prod.mk.injEq,and_true]at h;simp only[Bool.and_eq_true]at h2;exact⟨h.symm,h2.1,h2.2,by omega⟩
   ·simp at h
 by_cases h0:0<l.length∧ch l 0=40
 ·have hp:hasP l [40]=true:=by rw[hP];simp;exact h0
  have hlf:l=40::l.drop 1:=by
   cases l with
   |nil=>simp at h0
   |cons a s=>rw [ch_cons]at h0;rw[UInt8.toNat_inj.1 (show a.toNat=(40:UInt8).toNat from h0.2)];simp
  obtain⟨us,g,e,i1,i2,i3⟩:=(split_run (l.drop 1).length (l.drop 1) [] (Nat.le_refl _) (by simp) rfl (by simpa [←hlf]using hl)).out;simp only[List.flatten_nil,List.nil_append]at i2 i3;rw[←hlf]at i2 i3;refine⟨us,g,e,?_,?_,?_⟩
  ·unfold desc_Split.f
   refine Ev.then hcut ?_
   rw[if_pos hp];exact i1
  ·unfold hornbookref02_Split.f
   simp only[size_mk];refine Ev.neg (by omega) (Ev.pos (by omega) ?_);simp only[bt_mk l 0 0 rfl h0.1]
   have e4:((ch l 0:Int) !=40)=false:=by rw[h0.2];rfl
   rw[e4]
   refine Ev.step (fun k=>by rw[hornbookref02_Split.j0,if_neg (by decide),size_mk,if_pos (by omega)]) ?_
   have e1:(mk l).extract 1 l.length=mk (l.drop 1):=by rw[extract_mk,List.take_length]
   rw[e1];exact i2
  ·rcases i3 with⟨j1,j2⟩|⟨j1,j2,j3,j4⟩
   ·exact .inl ⟨j1,j2⟩
   ·refine .inr ⟨j1,j2,j3,fun us' g' h=>?_⟩
    obtain⟨k1,k2,k3,k4⟩:=hsg us' g' h;exact j4 ⟨us',g',k2,k3,by simpa using k4,by rw[k1];simp⟩
 ·have hp:hasP l [40]=false:=by
   rw[hP];simp;intro h1 h2;exact h0 ⟨h1,h2⟩
  refine⟨[],[],5,?_,?_, .inr ⟨rfl,rfl,rfl,fun us' g' h=>?_⟩⟩
  ·unfold desc_Split.f
   refine Ev.then hcut ?_
   rw[if_neg (by rw[hp];decide)];exact split_err_l0 l []
  ·unfold hornbookref02_Split.f
   have hj:Ev (fun k=>hornbookref02_Split.j0 k (mk l) ([]:List ByteArray) true) ((⟨#[]⟩:ByteArray),([]:List ByteArray),(5:Int)):=
    Ev.step (f:=fun _=>some ((⟨#[]⟩:ByteArray),([]:List ByteArray),(5:Int))) (fun k=>by rw[hornbookref02_Split.j0];rfl) (Ev.pure rfl)
   simp only[size_mk];refine Ev.ite (fun _=>hj) (fun h1=>Ev.pos (by omega) ?_);simp only[bt_mk l 0 0 rfl (show 0<l.length by omega)]
   have e4:((ch l 0:Int) !=40)=true:=by simp;omega
   rw[e4];exact hj
  ·obtain⟨k1,_⟩:=hsg us' g' h
   rw[k1]at h0;exact h0 ⟨by simp,rfl⟩
end Go.Proofs.PL
end
section
-- SQUEEZED
/- Layer 3: which constants can be, said by both. -/
set_option linter.unusedVariables false
set_option linter.unusedSimpArgs false
namespace Go.Proofs.PL
open Go.RowKit Go.Proofs.YthnajefdiljneaaDoorW.PrintWords Go.Proofs.YthnajefdiljneaaDoor.Q
theorem right_both(kind n:Int)(s t u:List UInt8)(hs:s.length≤9223372036854775806)(ht:t.length≤9223372036854775806)(hu:u.length≤9223372036854775806):
  ∃b:Bool,Ev (fun k=>pool_Right.f k kind n (mk s) (mk t) (mk u)) b∧Ev (fun k=>hornbookref03_Right.f k kind n (mk s) (mk t) (mk u)) b:=by
 unfold pool_Right.f hornbookref03_Right.f;simp only[toList_mk,size_mk]
 by_cases h1:kind=1
 ·refine⟨_,Ev.pos h1 (Ev.pure rfl),Ev.pos h1 ?_⟩
  cases s with
  |nil=>
   refine Ev.pos rfl ?_
   cases t with
   |nil=>exact Ev.pos rfl (Ev.pure (by cases u<;>rfl))
   |cons a t=>exact Ev.neg (by simp) (Ev.pure rfl)
  |cons a s=>exact Ev.neg (by simp) (Ev.pure rfl)
 by_cases h2:kind=2
 ·by_cases he:n=0∧t= []∧u= []
  ·obtain⟨rfl,rfl,rfl⟩:=he
   exact⟨decide (s.length≤64),Ev.neg h1 (Ev.pos (.inl h2) (Ev.pos rfl (Ev.pos h2 (Ev.pure rfl)))),Ev.neg h1 (Ev.pos h2 (Ev.pos rfl (Ev.pos rfl (Ev.pos rfl (Ev.pure (congrArg some (decide_eq_decide.2 (by omega))))))))⟩
  ·refine⟨false,Ev.neg h1 (Ev.pos (.inl h2) (Ev.neg (by simpa using he) (Ev.pure rfl))),Ev.neg h1 (Ev.pos h2 ?_)⟩
   exact Ev.ite (fun hn=>Ev.ite (fun ht'=>Ev.ite (fun hu'=>absurd ⟨hn,ht',hu'⟩ he) (fun _=>Ev.pure rfl)) (fun _=>Ev.pure rfl)) (fun _=>Ev.pure rfl)
 by_cases h3:kind=3
 ·by_cases he:n=0∧t= []∧u= []
  ·obtain⟨rfl,rfl,rfl⟩:=he
   exact⟨rightB s,Ev.neg h1 (Ev.pos (.inr h3) (Ev.pos rfl (Ev.neg h2 (right_ev s hs)))),Ev.neg h1 (Ev.neg h2 (Ev.pos h3 (Ev.pos rfl (Ev.pos rfl (Ev.pos rfl (Ev.bind (refRight s hs) (Ev.pure rfl)))))))⟩
  ·refine⟨false,Ev.neg h1 (Ev.pos (.inr h3) (Ev.neg (by simpa using he) (Ev.pure rfl))),Ev.neg h1 (Ev.neg h2 (Ev.pos h3 ?_))⟩
   exact Ev.ite (fun hn=>Ev.ite (fun ht'=>Ev.ite (fun hu'=>absurd ⟨hn,ht',hu'⟩ he) (fun _=>Ev.pure rfl)) (fun _=>Ev.pure rfl)) (fun _=>Ev.pure rfl)
 have h23: ¬(kind=2∨kind=3):=fun h=>h.elim h2 h3
 obtain⟨us,g,e,i1,i2,_⟩:=split_both u hu
 have hp: ∀ok:Bool,Ev (fun k=>if ok=true then(if n=0 then(bin_Name.f k (mk s)).bind fun n=>if n=true then bin_Name.f k (mk t)else some false else some false)else some false) (ok&&(decide (n=0)&&(nameB s&&nameB t))):=by
  intro ok
  cases ok with
  |false=>exact Ev.neg (by decide) (Ev.pure rfl)
  |true=>
   refine Ev.pos rfl ?_
   by_cases hn:n=0
   ·refine Ev.pos hn ?_
    simp only[hn,decide_true,Bool.true_and]
    refine Ev.bind (binName s hs) ?_
    cases nameB s with
    |false=>exact Ev.neg (by decide) (Ev.pure rfl)
    |true=>exact Ev.pos rfl (binName t ht)
   ·refine Ev.neg hn (Ev.pure ?_)
    simp only[hn,decide_false,Bool.false_and,Bool.and_false]
 by_cases h4:kind=4
 ·refine⟨rightB u&&(decide (n=0)&&(nameB s&&nameB t)),Ev.neg h1 (Ev.neg h23 (Ev.pos (.inl h4) (Ev.bind i1 (Ev.bind (Ev.pos h4 (right_ev u hu)) (hp _))))),Ev.neg h1 (Ev.neg h2 (Ev.neg h3 (Ev.pos h4 ?_)))⟩
  by_cases hn:n=0
  ·refine Ev.pos hn (Ev.bind (refName s hs) ?_)
   simp only[hn,decide_true,Bool.true_and]
   cases nameB s with
   |false=>exact Ev.neg (by decide) (Ev.pure (by simp))
   |true=>
    refine Ev.pos rfl (Ev.bind (refName t ht) ?_)
    cases nameB t with
    |false=>exact Ev.neg (by decide) (Ev.pure (by simp))
    |true=>exact Ev.pos rfl (Ev.bind (refRight u hu) (Ev.pure (by simp)))
  ·exact Ev.neg hn (Ev.pure (by simp[hn]))
 by_cases h5:kind=5
 ·refine⟨decide (e=0)&&(decide (n=0)&&(nameB s&&nameB t)),Ev.neg h1 (Ev.neg h23 (Ev.pos (.inr h5) (Ev.bind i1 (Ev.bind (Ev.neg h4 (Ev.pure rfl)) (hp _))))),Ev.neg h1 (Ev.neg h2 (Ev.neg h3 (Ev.neg h4 (Ev.pos h5 (Ev.bind i2 ?_)))))⟩
  by_cases hn:n=0
  ·refine Ev.pos hn (Ev.bind (refName s hs) ?_)
   simp only[hn,decide_true,Bool.true_and]
   cases nameB s with
   |false=>exact Ev.neg (by decide) (Ev.pure (by simp))
   |true=>
    refine Ev.pos rfl (Ev.bind (refName t ht) ?_)
    cases nameB t with
    |false=>exact Ev.neg (by decide) (Ev.pure (by simp))
    |true=>exact Ev.pos rfl (Ev.pure (by simp;rfl))
  ·exact Ev.neg hn (Ev.pure (by simp[hn]))
 ·exact⟨false,Ev.neg h1 (Ev.neg h23 (Ev.neg (fun h=>h.elim h4 h5) (Ev.pure rfl))),Ev.neg h1 (Ev.neg h2 (Ev.neg h3 (Ev.neg h4 (Ev.neg h5 (Ev.pure rfl)))))⟩
end Go.Proofs.PL
end
section
-- SQUEEZED
/- Arrays handed back, slices clipped and appended to: what the hand texts of layer 01 and above share. -/
set_option linter.unusedVariables false
set_option linter.unusedSectionVars false
set_option linter.unusedSimpArgs false
namespace Go.Proofs.HW
open Go.RowKit Go.Proofs.YthnajefdiljneaaDoorW.PrintWords
theorem results_cell_q{P:Program}{fn:Func}{p q:Tmp}{ty:TypeId}(h:fn.results= #[.cell p ty, .tmp q])(tmps:Array Value)(w:World)(g:Nat)(t:TypeId)(cs:Array Value)(fr:Nat×Nat)(d:TypeDesc)
  (hp:tmps.getD p undef= .pointer (some ⟨g,0,none⟩)) (hg:w.heap[g]?=some (.cells cs t fr))
  (hu:P.underlying ty=some d) (hd:(match d with| .struct _| .array _ _=>true|_=>false)=true) (hi:(P.info? ty).map (·.size)=some cs.size):
  (results fn tmps).run P w= .ok (.tuple #[.agg cs,tmps.getD q undef]) w:=by
 have hp':tmps[p]?.getD undef= .pointer (some ⟨g,0,none⟩):=by simpa using hp
 simp[results,h,hp',asAddr,run_loadVar_row w g t ty cs fr d hg hu hd hi]
theorem Below.setRow0{B:Nat}{a w:World}(h:Below B a w){g:Nat}(hg:B≤g)(cs:Array Value):Below B a (w.setRow g cs):=
 h.trans ⟨rfl,rfl,rfl,by simp,fun k hk=>setRow_other _ _ _ _ (by omega)⟩
section
variable {P:Program} {ops:Array Oper} {rest:List Oper} {o:Oper} {a:Act} {Q:Exit→Act→World→Prop} {Kc:Act→World→Prop} {α:Type}
end
theorem run_sliceAt_to{P:Program}(w:World){t e:TypeId}{n m:Nat}{g:Nat}(hu:P.underlying t=some (.array n e))(he:(P.info? e).isSome=true)(hm:m≤n):
  (Instr.sliceAt t (.pointer (some ⟨g,0,none⟩)) none (some (.int .i64 (m:Int))) none).run P w= .ok (.slice (some ⟨g,0,none⟩) m n) w:=by
 obtain⟨i,hi⟩:=Option.isSome_iff_exists.1 he
 have ha:P.arrayLen t=n:=by simp[Program.arrayLen,hu]
 have hb:P.elem t=e:=by simp[Program.elem,hu]
 rw[run_sliceAt_array_h w t _ (by rw[ha,hb];exact hu) .i64 (m:Int) (by omega) (by rw[ha];omega)]
 have:(⟨g,0,none⟩:Addr).add (0*i.size)=⟨g,0,none⟩:=by unfold Addr.add;split<;>simp_all
 simp[sizeOf,typeInfo,hb,hi,slicedAt,ha,Addr.add]
theorem C_block{α:Type}{enc:α→Value}{h1: ∀x,(enc x).oneCell'=true}{w:World}{g o:Nat}{cs:Array Value}{t:TypeId}{fr:Nat×Nat}(hg:w.heap[g]?=some (.cells cs t fr))(xs:List α)
  (hl:xs.length≤9223372036854775807) (hx: ∀(j:Nat) x,xs[j]?=some x→cs[o+j]?=some (enc x)):(Kd.scalar enc h1).C w (some ⟨g,o,none⟩) xs.length xs:=by
 refine⟨rfl,hl,fun hn=>⟨_,rfl,fun j x hj=>⟨[enc x],rfl,rfl,fun i u hu=>?_⟩⟩⟩
 have:i=0∧u=enc x:=by
  cases i with
  |zero=>simp at hu;exact⟨rfl,hu.symm⟩
  |succ i=>simp at hu
 obtain⟨rfl,rfl⟩:=this
 have he:(⟨g,o,none⟩:Addr).add (j*(Kd.scalar enc h1).sz+0)=⟨g,o+j,none⟩:=by
  show(⟨g,o,none⟩:Addr).add (j*1+0)=_
  unfold Addr.add;split<;>simp_all
 rw[he,cell_of_row w g (o+j) cs t fr hg];exact hx j x hj
end Go.Proofs.HW
end
section
-- SQUEEZED
-- Written by the program wip/tools/mp.py of this work, which drives the print of the kit; hand texts of this session among it.
namespace Go.Proofs.YthnajefdiljneaaDoor.R
open Go.RowKit Go.Proofs.HW Go.Proofs.YthnajefdiljneaaDoorW.PrintWords Go.Proofs.YthnajefdiljneaaDoorW.PrintLast
set_option linter.unusedVariables false
set_option linter.unusedSimpArgs false
theorem info5:(Tryd.prog.info? 5).map (fun i=>(i.zero,i.size,i.bytes))=some (some (.int .u8 0),1,1):=by kernel_rfl
-- the values' own types
end Go.Proofs.YthnajefdiljneaaDoor.R
end
section
-- SQUEEZED
-- Written by the program wip/tools/mp.py of this work, which drives the print of the kit; hand texts of this session among it.
namespace Go.Proofs.YthnajefdiljneaaDoor.R
open Go.RowKit Go.Proofs.HW Go.Proofs.YthnajefdiljneaaDoorW.PrintWords Go.Proofs.YthnajefdiljneaaDoorW.PrintLast
set_option linter.unusedVariables false
set_option linter.unusedSimpArgs false
-- HANDTEXT
-- INNER
-- IMPORT Derived.Test.YthnajefdiljneaaDoorHA
def vb(u:Nat):List Nat:=if u<128 then [u]else(u%128+128)::vb (u / 128)
termination_by u
decreasing_by omega
def zg(n:Int):Nat:=if 0≤n then(2*n).toNat else(-(2*n)-1).toNat
def arr(ds:List Nat):Array Value:=((ds.map fun d:Nat=>Value.int .u8 (d:Int))++List.replicate (10-ds.length) (Value.int .u8 0)).toArray
structure PcInv (Z:Nat) (w:World) (v4 v6:Value) (wr:World):Prop where
 mk::(out: ∃(u k:Nat) (ds:List Nat),v4= .int .u64 u∧v6= .int .i64 k∧ds.length=k∧vb Z=ds++vb u∧k+(vb u).length≤10∧u<18446744073709551616∧
  wr.heap[w.heap.size+1]?=some (.cells (arr ds) 91 (0,0))∧wr.heap[w.heap.size]?=some (.cells (arr []) 91 (0,0))∧Below w.heap.size w wr)
theorem vb_small{u:Nat}(h:u<128):vb u= [u]:=by rw[vb];simp[h]
theorem vb_big{u:Nat}(h:128≤u):vb u=(u%128+128)::vb (u / 128):=by rw[vb,if_neg (by omega)]
theorem vb_pos(u:Nat):1≤(vb u).length:=by rw[vb];split<;>simp
theorem vb_len: ∀(m u:Nat),u<128 ^ (m+1)→(vb u).length≤m+1
 |0,u,h=>by rw[vb_small (by simpa using h)];simp
 |m+1,u,h=>by
  by_cases hu:u<128
  ·rw[vb_small hu];simp
  ·rw[vb_big (by omega)]
   have:=vb_len m (u / 128) (by rw[Nat.div_lt_iff_lt_mul (by decide)];rw[Nat.pow_succ]at h;exact h);simp;omega
theorem arr_size{ds:List Nat}(h:ds.length≤10):(arr ds).size=10:=by simp[arr];omega
theorem arr_at{ds:List Nat}{k:Nat}(h:ds.length≤k)(hk:k<10):(arr ds)[k]?=some (Value.int .u8 0):=by
 simp only[arr,List.getElem?_toArray];rw[List.getElem?_append_right (by simpa using h),List.getElem?_replicate,if_pos (by simp;omega)]
theorem arr_put{ds:List Nat}{k d:Nat}(h:ds.length=k)(hk:k<10):(arr ds).set! k (.int .u8 (d:Int))=arr (ds++ [d]):=by
 subst h;simp only[arr,Array.set!_eq_setIfInBounds,List.setIfInBounds_toArray]
 congr 1
 rw[List.set_append_right _ _ (by simp)]
 have:10-ds.length=(10-(ds++ [d]).length)+1:=by simp;omega
 rw[this,List.replicate_succ];simp
theorem u8_or(x:Nat):bits .or .u8 ((x:Int)%256) 128=((x%128+128:Nat):Int):=by
 have h:=(bits_nat .u8 8 (by decide) wraps_u8 (x%256) 128 (by omega) (by decide)).2
 have h2:x%256|||128=x%128+128:=by
  have: ∀y:Fin 256,(y:Nat)|||128=y%128+128:=by set_option maxRecDepth 100000 in decide
  have:=this ⟨x%256,by omega⟩;simp only at this;rw[this];omega
 rw[h2]at h;rw[←h];rfl
theorem arr_all(ds:List Nat):(arr ds).all (·.oneCell')=true:=by
 rw[Array.all_eq_true_iff_forall_mem];intro v hv;simp only[arr,List.mem_toArray,List.mem_append,List.mem_map,List.mem_replicate]at hv
 rcases hv with⟨d,_,rfl⟩|⟨_,rfl⟩<;>rfl
theorem xor_zero(a:Int)(h:0≤a)(h2:a<18446744073709551616):bits .xor .u64 a 0=a:=by
 obtain⟨x,rfl⟩:=Int.eq_ofNat_of_zero_le h;simp only[bits,BitVec.ofInt_natCast]
 have e:(BitVec.ofNat 64 x ^^^ BitVec.ofInt 64 0)=BitVec.ofNat 64 x:=by simp
 show IntKind.u64.wrap (((BitVec.ofNat 64 x ^^^ BitVec.ofInt 64 0).toNat:Nat):Int)=x;rw[e,BitVec.toNat_ofNat,Nat.mod_eq_of_lt (by omega)];exact PlainAid.u64_nonneg (by omega) (by omega)
theorem xor_ones(a:Int)(h:0≤a)(h2:a<18446744073709551616):bits .xor .u64 a 18446744073709551615=18446744073709551615-a:=by
 obtain⟨x,rfl⟩:=Int.eq_ofNat_of_zero_le h;simp only[bits,BitVec.ofInt_natCast];have:=BitVec.toNat_not (x:=BitVec.ofNat 64 x);rw[←BitVec.xor_allOnes]at this;show IntKind.u64.wrap (((BitVec.ofNat 64 x ^^^ BitVec.allOnes 64).toNat:Nat):Int)=_;rw[this,BitVec.toNat_ofNat,Nat.mod_eq_of_lt (by omega)];rw[PlainAid.u64_nonneg (by omega) (by omega)];omega
set_option maxRecDepth 100000 in
theorem bin_pieces.calls(n:Int)(w:World)(hn: -9223372036854775808≤n)(hn2:n≤9223372036854775807):
  Calls Tryd.prog 63 #[.int .i64 n] w fun e w'=>e= .returned (.tuple #[.agg (arr (vb (zg n))), .int .i64 (vb (zg n)).length])∧Below w.heap.size w w':=by
 go_enter Tryd.func63,Tryd.ntmps63
 go_wp2_with fail
 go_loopw [4,6] (fun v4 v6 wr=>PcInv (zg n) w v4 v6 wr) (fun v4 v6 wr=>(intOf v4).toNat)
 case atStart=>
  have hx:bits .xor .u64 (IntKind.u64.wrap (IntKind.u64.wrap n*2)) (IntKind.u64.wrap (n / 9223372036854775808))=(zg n:Int):=by
   unfold zg
   by_cases h0:0≤n
   ·rw[if_pos h0,PlainAid.shr63_nonneg h0 hn2,PlainAid.u64_nonneg h0 (by omega),PlainAid.u64_nonneg (by omega) (by omega),PlainAid.u64_nonneg (by omega) (by omega),xor_zero _ (by omega) (by omega)];omega
   ·rw[if_neg h0,PlainAid.shr63_neg (by omega) hn,PlainAid.u64_neg (n:=n) (by omega) (by omega),PlainAid.u64_neg (n:= -1) (by omega) (by omega)]
    rw[show IntKind.u64.wrap ((n+18446744073709551616)*2)=n*2+18446744073709551616 by rw[IntKind.wrap_u64];omega];rw[show(-1:Int)+18446744073709551616=18446744073709551615 by rfl,xor_ones _ (by omega) (by omega)];omega
  rw[hx]
  have hz:zg n<18446744073709551616:=by unfold zg;split<;>omega
  exact⟨zg n,0,[],rfl,rfl,rfl,rfl,by have:=vb_len 9 (zg n) (by omega);omega,hz,heap_alloc2_new _ _ _,heap_alloc2_old _ _ _,((Below.refl _ w).alloc (Nat.le_refl _) _).alloc (by simp) _⟩
 case round=>
  obtain⟨u,k,ds,rfl,rfl,hk,hv,hl,hu64,hb,hr,hB⟩:=hrel.out;have hsz:w.heap.size+1<wr.heap.size:=(Array.getElem?_eq_some_iff.1 hb).1
  by_cases hu:128≤u
  ·have hk9:k+1<10:=by rw[vb_big hu]at hl;have:=vb_pos (u / 128);simp at hl;omega
   have hk10:k<10:=by omega
   have hc:wr.cell? ⟨w.heap.size+1,k,none⟩=some (.int .u8 0):=by
    simp[World.cell?,hb,arr_at (by omega:ds.length≤k) hk10]
   have hf:wr.frozen? ⟨w.heap.size+1,k,none⟩=false:=by simp[World.frozen?,hb]
   have H1:=Aside0.mk hb
   have H2:=Aside0.mk hr
   have H3:=Aside0.mk hB
   have H4:=Aside0.mk hv
   have H5:=Aside0.mk hl
   have H6:=Aside0.mk hk
   clear hb hr hB hv hl hk
   go_wp2_with fail
   go_roundw
   case rel=>
    refine⟨u / 128,k+1,ds++ [u%128+128],by push_cast;rfl,by push_cast;rfl,by rw[List.length_append,H6.out];rfl,by rw[H4.out,vb_big hu];simp,by have:=H5.out;rw[vb_big hu]at this;simp at this;omega,by omega,?_,?_,?_⟩
    ·rw[heap_setCell_same _ _ _ _ _ _ H1.out,←arr_put H6.out hk10,u8_or];rw[Array.set!_eq_setIfInBounds]
    ·rw[heap_setCell_other _ _ _ _ (by simp)];exact H2.out
    ·exact H3.out.setCell (Nat.le_succ _) _
   case measure=>simp [intOf];omega
  ·have hv2:vb (zg n)=ds++ [u]:=by rw[hv,vb_small (by omega)]
   have hk10:k<10:=by rw[vb_small (by omega)]at hl;simp at hl;omega
   have hc:wr.cell? ⟨w.heap.size+1,k,none⟩=some (.int .u8 0):=by
    simp[World.cell?,hb,arr_at (by omega:ds.length≤k) hk10]
   have hf:wr.frozen? ⟨w.heap.size+1,k,none⟩=false:=by simp[World.frozen?,hb]
   have H1:=Aside0.mk hb
   have H2:=Aside0.mk hr
   have H3:=Aside0.mk hB
   have H4:=Aside0.mk hv
   have H5:=Aside0.mk hl
   have H6:=Aside0.mk hk
   clear hb hr hB hv hl hk
   have hb2:(wr.setCell ⟨w.heap.size+1,k,none⟩ (.int .u8 (u:Int))).heap[w.heap.size+1]?=some (.cells (arr (ds++ [u])) 91 (0,0)):=by
    rw[heap_setCell_same _ _ _ _ _ _ H1.out,←arr_put H6.out hk10];rw[Array.set!_eq_setIfInBounds]
   have hr2:(wr.setCell ⟨w.heap.size+1,k,none⟩ (.int .u8 (u:Int))).heap[w.heap.size]?=some (.cells (arr []) 91 (0,0)):=by
    rw[heap_setCell_other _ _ _ _ (by simp)];exact H2.out
   have hB2:Below w.heap.size w (wr.setCell ⟨w.heap.size+1,k,none⟩ (.int .u8 (u:Int))):=H3.out.setCell (Nat.le_succ _) _;have hs2:(arr (ds++ [u])).size=10:=arr_size (by rw[List.length_append,H6.out];simp;omega)
   have hi:(Tryd.prog.info? 91).map (·.size)=some (arr (ds++ [u])).size:=by rw[hs2];kernel_rfl
   have H7:=Aside0.mk hb2
   have H8:=Aside0.mk hr2
   have H9:=Aside0.mk hB2
   have H10:=Aside0.mk hi
   have H11:=Aside0.mk hs2
   clear hb2 hr2 hB2 hi hs2
   go_wp2_with first
    |(refine wpList_load_row rfl 91 _ rfl (w.heap.size+1) rfl 91 _ (0,0) (.array 10 5) H7.out (by kernel_rfl) rfl H10.out ?_)
    |(refine wpList_store_row rfl 91 _ _ rfl w.heap.size (arr (ds++ [u])) rfl rfl 91 (arr []) H8.out H10.out (by rw[H11.out];rfl) (arr_all _) ?_)
   have hst:=setRow_heap _ w.heap.size (arr []) (arr (ds++ [u])) 91 (0,0) H8.out
   refine⟨rfl,_,results_cell_q (fn:=Tryd.f63) (p:=2) (q:=3) (ty:=91) rfl _ _ w.heap.size 91 (arr (ds++ [u])) (0,0) (.array 10 5) rfl hst (by kernel_rfl) rfl H10.out,?_,HW.Below.setRow0 H9.out (Nat.le_refl _) _⟩;rw[hv2,List.length_append,H6.out];rfl
end Go.Proofs.YthnajefdiljneaaDoor.R
end
section
-- SQUEEZED
-- Written by the program wip/tools/mp.py of this work, which drives the print of the kit; hand texts of this session among it.
namespace Go.Proofs.YthnajefdiljneaaDoor.R
open Go.RowKit Go.Proofs.HW Go.Proofs.YthnajefdiljneaaDoorW.PrintWords Go.Proofs.YthnajefdiljneaaDoorW.PrintLast
set_option linter.unusedVariables false
set_option linter.unusedSimpArgs false
-- HANDTEXT
-- INNER
end Go.Proofs.YthnajefdiljneaaDoor.R
end
section
-- SQUEEZED
-- Written by the program wip/tools/mp.py of this work, which drives the print of the kit; hand texts of this session among it.
namespace Go.Proofs.YthnajefdiljneaaDoor.R
open Go.RowKit Go.Proofs.HW Go.Proofs.YthnajefdiljneaaDoorW.PrintWords Go.Proofs.YthnajefdiljneaaDoorW.PrintLast
set_option linter.unusedVariables false
set_option linter.unusedSimpArgs false
-- HANDTEXT
-- NEEDS hornbook/bin.pieces
-- NEEDS slices.Clip[[]byte,byte]
def bin_Put.f(l0:List Int)(a1:Int):Option (List Int):=
 if-9223372036854775808≤a1∧a1≤9223372036854775807∧l0.length+10<140737488355328 then some (l0++(vb (zg a1)).map (fun d:Nat=>(d:Int)))else none
theorem arr_get{ds:List Nat}{j:Nat}{x:Int}(h:(ds.map (fun d:Nat=>(d:Int)))[j]?=some x):(arr ds)[0+j]?=some (Value.int .u8 x):=by
 rw[Nat.zero_add]
 have hj:j<ds.length:=by simpa using(List.getElem?_eq_some_iff.1 h).1
 simp only[arr,List.getElem?_toArray];rw[List.getElem?_append_left (by simpa using hj)]
 rw[List.getElem?_map]at h ⊢
 cases hd:ds[j]? with
 |none=>rw [hd]at h;cases h
 |some d=>rw [hd]at h;simp at h;simp[h]
theorem zg_lt{n:Int}(h1: -9223372036854775808≤n)(h2:n≤9223372036854775807):zg n<18446744073709551616:=by unfold zg;split<;>omega
theorem vb_ten{n:Int}(h1: -9223372036854775808≤n)(h2:n≤9223372036854775807):(vb (zg n)).length≤10:=by have:=zg_lt h1 h2;have:=vb_len 9 (zg n) (by omega);omega
end Go.Proofs.YthnajefdiljneaaDoor.R
end
section
-- SQUEEZED
-- Written by the program wip/tools/mp.py of this work, which drives the print of the kit; hand texts of this session among it.
namespace Go.Proofs.YthnajefdiljneaaDoor.R
open Go.RowKit Go.Proofs.HW Go.Proofs.YthnajefdiljneaaDoorW.PrintWords Go.Proofs.YthnajefdiljneaaDoorW.PrintLast
set_option linter.unusedVariables false
set_option linter.unusedSimpArgs false
def slices_Equal_byte_byte.l0:Nat→List Int→List Int→Int→Int→Option (Bool)
 |0,_,_,_,_=>none
 |k+1,x0,x1,x12,x13=>if x13<x12 then(if 0≤x13 then(if x13<(x0.length:Int)then(if x13<(x1.length:Int)then(if(rd x0 x13)=(rd x1 x13)then(slices_Equal_byte_byte.l0 k x0 x1 x12 (wrap64 (x13+1)))else(some false))else(none))else(none))else(none))else(some true)
def slices_Equal_byte_byte.f(k:Nat)(l0:List Int)(l1:List Int):Option (Bool):=if(l0.length:Int)=(l1.length:Int)then(slices_Equal_byte_byte.l0 k l0 l1 (l0.length:Int) 0)else(some false)
set_option maxHeartbeats 8000000 in
set_option maxRecDepth 100000 in
theorem slices_Equal_byte_byte.calls(k:Nat)(A0:Option Addr)(c0:Nat)(l0:List Int)(A1:Option Addr)(c1:Nat)(l1:List Int)(r:Bool)(w:World)(hr0:Kd.C (Kd.int .u8) w A0 l0.length l0)(hc0:l0.length≤c0)(hr1:Kd.C (Kd.int .u8) w A1 l1.length l1)(hc1:l1.length≤c1)(h:slices_Equal_byte_byte.f k l0 l1=some r):
  Calls Tryd.prog 64 #[.slice A0 l0.length c0, .slice A1 l1.length c1] w fun e w'=>e= .returned (.bool r)∧Drawn0 w w':=by
 have HR0:=Aside0.mk hr0
 have HC0:=Aside0.mk hc0
 clear hr0 hc0
 have HR1:=Aside0.mk hr1
 have HC1:=Aside0.mk hc1
 clear hr1 hc1;have H:(if(l0.length:Int)=(l1.length:Int)then(slices_Equal_byte_byte.l0 k l0 l1 (l0.length:Int) 0)else(some false))=some r:=h;clear h
 by_cases c3:(l0.length:Int)=(l1.length:Int)
 ·rw[if_pos c3]at H
  have c3b0:((l0.length:Int)==(l1.length:Int))=true:=beq_iff_eq.mpr c3;have c3b1:((l0.length:Int) !=(l1.length:Int))=false:=bne_eq_false_iff_eq.mpr c3
  have c3b2:(l0.length==l1.length)=true:=by first|simpa using c3|(simp at c3 ⊢;omega)
  clear c3;have H':=Aside0.mk H;clear H
  go_enter Tryd.func64,Tryd.ntmps64
  go_wp2
  repeat (go_quiet (fail);try go_wp2)
  go_loopg [13] k (fun kq v13 w'=> ∃(x13_1:Int),v13= .int .i64 x13_1∧Aside0 (slices_Equal_byte_byte.l0 kq l0 l1 (l0.length:Int) x13_1=some r)∧Aside0 (kq≤k)∧Drawn0 w w')
  case atStart=>exact⟨(0),(by first|rfl|(simp;done)|(simp[*];done)),H',⟨Nat.le_refl _⟩,by repeat (first|exact Drawn0.refl _|apply Drawn0.step)⟩
  case round=>
   clear H';(try clear c1);(try clear p2);(try clear c3);(try clear c3b0);(try clear c3b1);(try clear c3b2);obtain⟨x13_1,rfl,HA,HK1,⟨m1,rfl⟩⟩:=hrel
   cases gk with
   |zero=>exact absurd HA.out (by simp[slices_Equal_byte_byte.l0])
   |succ k1=>
    have H:=HA.out
    clear HA;simp only[slices_Equal_byte_byte.l0]at H
    by_cases c4:x13_1<(l0.length:Int)
    ·rw[if_pos c4]at H
     have c4b0:decide (x13_1<(l0.length:Int))=true:=decide_eq_true c4;clear c4
     by_cases c5:0≤x13_1
     ·rw[if_pos c5]at H
      have c5b0:decide (0≤x13_1)=true:=decide_eq_true c5;clear c5
      by_cases c6:x13_1<(l0.length:Int)
      ·rw[if_pos c6]at H
       have c6b0:decide (x13_1<(l0.length:Int))=true:=decide_eq_true c6;clear c6
       by_cases c7:x13_1<(l1.length:Int)
       ·rw[if_pos c7]at H
        have c7b0:decide (x13_1<(l1.length:Int))=true:=decide_eq_true c7;clear c7
        by_cases c8:(rd l0 x13_1)=(rd l1 x13_1)
        ·rw[if_pos c8]at H
         have c8b0:((rd l0 x13_1)==(rd l1 x13_1))=true:=beq_iff_eq.mpr c8;have c8b1:((rd l0 x13_1) !=(rd l1 x13_1))=false:=bne_eq_false_iff_eq.mpr c8;clear c8;have H':=Aside0.mk H;clear H;have p101:0≤(x13_1:Int):=of_decide_eq_true (by first|(with_reducible assumption)|assumption);have q101:x13_1<(l0.length:Int):=of_decide_eq_true (by first|(with_reducible assumption)|assumption);obtain⟨ad101,e101,hx101_0⟩:=Kd.at_int HR0.out x13_1 p101 q101;cases e101;replace p101:=eq_true p101;replace q101:=eq_true q101;have p102:0≤(x13_1:Int):=of_decide_eq_true (by first|(with_reducible assumption)|assumption)
         have q102:x13_1<(l1.length:Int):=of_decide_eq_true (by first|(with_reducible assumption)|assumption);obtain⟨ad102,e102,hx102_0⟩:=Kd.at_int HR1.out x13_1 p102 q102;cases e102;replace p102:=eq_true p102;replace q102:=eq_true q102;go_wp2
         repeat (go_quiet (fail);try go_wp2)
         go_roundg k1
         case measure=>have:=HK1.out;omega
         case rel=>exact⟨(wrap64 (x13_1+1)),(by first|rfl|(simp;done)|(simp[*];done)),H',⟨by have:=HK1.out;omega⟩,by repeat (first|exact Drawn0.refl _|apply Drawn0.step)⟩
        ·rw[if_neg c8]at H
         have c8b0:((rd l0 x13_1)==(rd l1 x13_1))=false:=beq_eq_false_iff_ne.mpr c8;have c8b1:((rd l0 x13_1) !=(rd l1 x13_1))=true:=bne_iff_ne.mpr c8;obtain rfl:=Option.some.inj H;have p101:0≤(x13_1:Int):=of_decide_eq_true (by first|(with_reducible assumption)|assumption);have q101:x13_1<(l0.length:Int):=of_decide_eq_true (by first|(with_reducible assumption)|assumption);obtain⟨ad101,e101,hx101_0⟩:=Kd.at_int HR0.out x13_1 p101 q101;cases e101;replace p101:=eq_true p101;replace q101:=eq_true q101;have p102:0≤(x13_1:Int):=of_decide_eq_true (by first|(with_reducible assumption)|assumption)
         have q102:x13_1<(l1.length:Int):=of_decide_eq_true (by first|(with_reducible assumption)|assumption);obtain⟨ad102,e102,hx102_0⟩:=Kd.at_int HR1.out x13_1 p102 q102;cases e102;replace p102:=eq_true p102;replace q102:=eq_true q102;go_wp2
         repeat (go_quiet (fail);try go_wp2)
         all_goals go_ret
         all_goals exact⟨by first|rfl|(simp;done)|(simp[*];done),by repeat (first|exact Drawn0.refl _|apply Drawn0.step)⟩
       ·rw[if_neg c7]at H
        exact absurd H (by simp)
      ·rw[if_neg c6]at H
       exact absurd H (by simp)
     ·rw[if_neg c5]at H
      exact absurd H (by simp)
    ·rw[if_neg c4]at H
     have c4b0:decide (x13_1<(l0.length:Int))=false:=decide_eq_false c4;clear c4;obtain rfl:=Option.some.inj H;go_wp2
     repeat (go_quiet (fail);try go_wp2)
     all_goals go_ret
     all_goals exact⟨by first|rfl|(simp;done)|(simp[*];done),by repeat (first|exact Drawn0.refl _|apply Drawn0.step)⟩
 ·rw[if_neg c3]at H
  have c3b0:((l0.length:Int)==(l1.length:Int))=false:=beq_eq_false_iff_ne.mpr c3;have c3b1:((l0.length:Int) !=(l1.length:Int))=true:=bne_iff_ne.mpr c3
  have c3b2:(l0.length==l1.length)=false:=by first|simpa using c3|(simp at c3 ⊢;omega)
  obtain rfl:=Option.some.inj H
  go_enter Tryd.func64,Tryd.ntmps64
  go_wp2
  repeat (go_quiet (fail);try go_wp2)
  all_goals go_ret
  all_goals exact⟨by first|rfl|(simp;done)|(simp[*];done),by repeat (first|exact Drawn0.refl _|apply Drawn0.step)⟩
end Go.Proofs.YthnajefdiljneaaDoor.R
end
section
-- SQUEEZED
-- Written by the program wip/tools/mp.py of this work, which drives the print of the kit; hand texts of this session among it.
namespace Go.Proofs.YthnajefdiljneaaDoor.R
open Go.RowKit Go.Proofs.HW Go.Proofs.YthnajefdiljneaaDoorW.PrintWords Go.Proofs.YthnajefdiljneaaDoorW.PrintLast
set_option linter.unusedVariables false
set_option linter.unusedSimpArgs false
-- HANDTEXT
-- NEEDS hornbook/bin.pieces
-- NEEDS slices.Equal[[]byte,byte]
-- NEEDS hornbook/bin.Put
def unz(u:Nat):Int:=if u%2=0 then((u / 2:Nat):Int)else-((u / 2:Nat):Int)-1
def bin_Get.lp(rest:List Int)(a1:Int):List Int→Nat→Nat→Int×Int×Int
 | [],_,_=>(0,0,if 10≤rest.length then 5 else 4)
 |c::t,k,u=>
  if k=10 then(0,0,5)
  else if 128≤c then bin_Get.lp rest a1 t (k+1) ((u+c.toNat%128*2 ^ (7*k))%18446744073709551616)
  else if(vb (zg (unz ((u+c.toNat%128*2 ^ (7*k))%18446744073709551616)))).map (fun d:Nat=>(d:Int))=rest.take (k+1)then(unz ((u+c.toNat%128*2 ^ (7*k))%18446744073709551616),a1+k+1,0)
  else(0,0,5)
def bin_Get.f(l0:List Int)(a1:Int):Option (Int×Int×Int):=
 if(∀x∈l0,0≤x∧x<256)∧l0.length<281474976710656 then
  some (if a1<0∨(l0.length:Int)<a1 then(0,0,3)else bin_Get.lp (l0.drop a1.toNat) a1 (l0.drop a1.toNat) 0 0)
 else none
theorem mask7{c:Int}(h0:0≤c)(h1:c<256):bits .and .u8 c 127=c%128:=bits_mask .u8 8 (by decide) wraps_u8 7 (by decide) c h0 h1
theorem two64:(2:Int) ^ 64=18446744073709551616:=by decide
theorem wraps_u64(n:Int)(h0:0≤n)(h1:n<2 ^ 64):IntKind.u64.wrap n=n:=PlainAid.u64_nonneg h0 (by rw[two64]at h1;omega)
theorem or_join{a b k:Nat}(hk:k<10)(ha:a<2 ^ (7*k))(hb:b<2 ^ 64)(hd:b%2 ^ (7*k)=0):bits .or .u64 (a:Int) (b:Int)=((b+a:Nat):Int):=by
 have hp:2 ^ (7*k)≤2 ^ 63:=Nat.pow_le_pow_right (by decide) (by omega)
 have ha':a<2 ^ 64:=by have:(2:Nat) ^ 63<2 ^ 64:=by decide
                       omega
 rw[(bits_nat .u64 64 (by decide) wraps_u64 a b ha' hb).2,Nat.or_comm,←(bits_nat .u64 64 (by decide) wraps_u64 b a hb ha').2];rw[bits_join .u64 64 (by decide) wraps_u64 (7*k) (b:Int) (a:Int) (by omega) (by exact_mod_cast hd) (by exact_mod_cast hb) (by omega) (by exact_mod_cast ha) (by exact_mod_cast ha')];omega
theorem step_nums{e u y P:Nat}(hP:2 ^ e=P)(hu:u<2 ^ e)(hy:y<128)
  (h1: ∀z,z<128→z*P%18446744073709551616%P=0) (h2: ∀z v,z<128→v<P→z*P%18446744073709551616+v=(v+z*P)%18446744073709551616):
  y*2 ^ e%18446744073709551616%2 ^ e=0∧y*2 ^ e%18446744073709551616+u=(u+y*2 ^ e)%18446744073709551616:=by
 subst hP;exact⟨h1 y hy,h2 y u hy hu⟩
theorem step_u{u k:Nat}{c:Int}(h0:0≤c)(h1:c<256)(hk:k<10)(hu:u<2 ^ (7*k)):
  bits .or .u64 (u:Int) (IntKind.u64.wrap (IntKind.u64.wrap (bits .and .u8 c 127)*2 ^ (k*7)))=(((u+c.toNat%128*2 ^ (7*k))%18446744073709551616:Nat):Int):=by
 rw[mask7 h0 h1,wraps_u64 (c%128) (by omega) (by rw[two64];omega)];obtain⟨x,rfl⟩:=Int.eq_ofNat_of_zero_le h0
 have hw:IntKind.u64.wrap ((x:Int)%128*2 ^ (k*7))=((x%128*2 ^ (7*k)%18446744073709551616:Nat):Int):=by
  rw[IntKind.wrap_u64,Nat.mul_comm k 7];simp only[Int.natCast_emod,Int.natCast_mul,Int.natCast_pow];rfl
 rw[hw];have hb:x%128*2 ^ (7*k)%18446744073709551616<2 ^ 64:=Nat.mod_lt _ (by decide)
 have hq:x%128*2 ^ (7*k)%18446744073709551616%2 ^ (7*k)=0∧(x%128*2 ^ (7*k)%18446744073709551616+u=(u+x%128*2 ^ (7*k))%18446744073709551616):=by
  have:k=0∨k=1∨k=2∨k=3∨k=4∨k=5∨k=6∨k=7∨k=8∨k=9:=by omega
  clear hw hb h0 h1
  have hx:=Nat.mod_lt x (show 128>0 by decide)
  generalize x%128=y at*
  rcases this with rfl|rfl|rfl|rfl|rfl|rfl|rfl|rfl|rfl|rfl
  ·exact step_nums (P:=1) (by rfl) hu hx (fun z hz=>by omega) (fun z v hz hv=>by omega)
  ·exact step_nums (P:=128) (by rfl) hu hx (fun z hz=>by omega) (fun z v hz hv=>by omega)
  ·exact step_nums (P:=16384) (by rfl) hu hx (fun z hz=>by omega) (fun z v hz hv=>by omega)
  ·exact step_nums (P:=2097152) (by rfl) hu hx (fun z hz=>by omega) (fun z v hz hv=>by omega)
  ·exact step_nums (P:=268435456) (by rfl) hu hx (fun z hz=>by omega) (fun z v hz hv=>by omega)
  ·exact step_nums (P:=34359738368) (by rfl) hu hx (fun z hz=>by omega) (fun z v hz hv=>by omega)
  ·exact step_nums (P:=4398046511104) (by rfl) hu hx (fun z hz=>by omega) (fun z v hz hv=>by omega)
  ·exact step_nums (P:=562949953421312) (by rfl) hu hx (fun z hz=>by omega) (fun z v hz hv=>by omega)
  ·exact step_nums (P:=72057594037927936) (by rfl) hu hx (fun z hz=>by omega) (fun z v hz hv=>by omega)
  ·exact step_nums (P:=9223372036854775808) (by rfl) hu hx (fun z hz=>by omega) (fun z v hz hv=>by omega)
 rw[or_join hk hu hb hq.1,hq.2];rfl
theorem unz_step{U:Nat}(hU:U<18446744073709551616):bits .xor .i64 (wrap64 ((U:Int) / 2)) (wrap64 (-wrap64 (bits .and .u64 (U:Int) 1)))=unz U:=by
 have hm:bits .and .u64 (U:Int) 1=((U%2:Nat):Int):=by
  have h2:(2:Int) ^ 64=18446744073709551616:=by decide
  have:=bits_mask .u64 64 (by decide) wraps_u64 1 (by decide) (U:Int) (by omega) (by omega);rw[show(2:Int) ^ 1-1=1 by decide]at this;rw[this];push_cast;rfl
 have hh:wrap64 ((U:Int) / 2)=((U / 2:Nat):Int):=by rw[←PlainAid.i64_is,IntKind.wrap_i64];omega
 have hX:U / 2<9223372036854775808:=by omega
 unfold unz
 generalize U / 2=X at*
 rw[hm,hh]
 rcases Nat.mod_two_eq_zero_or_one U with h|h
 ·rw[h,if_pos rfl,show wrap64 (-wrap64 ((0:Nat):Int))=0 by simp[←PlainAid.i64_is,IntKind.wrap_i64]]
  have e:(BitVec.ofNat 64 X ^^^ BitVec.ofInt 64 0)=BitVec.ofNat 64 X:=by simp
  show IntKind.i64.wrap (((BitVec.ofNat 64 X ^^^ BitVec.ofInt 64 0).toNat:Nat):Int)=X;rw[e,BitVec.toNat_ofNat,Nat.mod_eq_of_lt (by omega),IntKind.wrap_i64];omega
 ·rw[h,if_neg (by decide),show wrap64 (-wrap64 ((1:Nat):Int))= -1 by simp[←PlainAid.i64_is,IntKind.wrap_i64]]
  show IntKind.i64.wrap (((BitVec.ofNat 64 X ^^^ BitVec.allOnes 64).toNat:Nat):Int)=_;rw[BitVec.xor_allOnes,BitVec.toNat_not,BitVec.toNat_ofNat,Nat.mod_eq_of_lt (by omega),IntKind.wrap_i64];omega
theorem unz_in{U:Nat}(hU:U<18446744073709551616): -9223372036854775808≤unz U∧unz U≤9223372036854775807:=by unfold unz;split<;>omega
theorem equal_loop(x0 x1:List Int)(n:Nat)(h0:x0.length=n)(h1:x1.length=n)(hn:n<281474976710656): ∀(m i:Nat),i+m=n→slices_Equal_byte_byte.l0 (m+1) x0 x1 n i=some (decide (x0.drop i=x1.drop i))
 |0,i,hi=>by
  unfold slices_Equal_byte_byte.l0;rw[if_neg (by omega),List.drop_eq_nil_of_le (by omega),List.drop_eq_nil_of_le (by omega)];simp
 |m+1,i,hi=>by
  unfold slices_Equal_byte_byte.l0
  have e0:rd x0 (i:Int)=x0[i]'(by omega):=by simp[rd,show i<x0.length by omega]
  have e1:rd x1 (i:Int)=x1[i]'(by omega):=by simp[rd,show i<x1.length by omega]
  rw[if_pos (by omega),if_pos (by omega),if_pos (by omega),if_pos (by omega),e0,e1];rw[show x0.drop i=x0[i]'(by omega)::x0.drop (i+1)from List.drop_eq_getElem_cons _,show x1.drop i=x1[i]'(by omega)::x1.drop (i+1)from List.drop_eq_getElem_cons _]
  have hw:wrap64 ((i:Int)+1)=((i+1:Nat):Int):=by rw[←PlainAid.i64_is,IntKind.wrap_i64];omega
  by_cases he:x0[i]'(by omega)=x1[i]'(by omega)
  ·rw[if_pos he,hw,equal_loop x0 x1 n h0 h1 hn m (i+1) (by omega),he]
   simp only[List.cons.injEq,true_and]
  ·rw[if_neg he,decide_eq_false (fun e=>he (List.cons.inj e).1)]
theorem equal_ev(x0 x1:List Int)(hn:x0.length<281474976710656): ∃k,slices_Equal_byte_byte.f k x0 x1=some (decide (x0=x1)):=by
 unfold slices_Equal_byte_byte.f
 by_cases h:x0.length=x1.length
 ·refine⟨x0.length+1,?_⟩
  rw[if_pos (by omega)];have:=equal_loop x0 x1 x0.length rfl h.symm hn x0.length 0 (by omega)
  simpa using this
 ·refine⟨0,?_⟩
  rw[if_neg (by omega)]
  have:x0≠x1:=fun e=>h (by rw[e])
  simp[this]
theorem step_lt{u k x:Nat}(hk:k<10)(hu:u<2 ^ (7*k)):(u+x%128*2 ^ (7*k))%18446744073709551616<2 ^ (7*(k+1)):=by
 refine Nat.lt_of_le_of_lt (Nat.mod_le _ _) ?_
 rw[show 7*(k+1)=7+7*k by omega,Nat.pow_add]
 have h1:x%128≤127:=by omega
 have h2:x%128*2 ^ (7*k)≤127*2 ^ (7*k):=Nat.mul_le_mul_right _ h1
 have h3:(2:Nat) ^ 7=128:=by decide
 rw[h3];omega
structure GetInv (rest:List Int) (a1 r1 r2 r3:Int) (w:World) (v7 v27:Value) (wr:World):Prop where
 mk::(out: ∃(u k:Nat) (t:List Int),v7= .int .u64 u∧v27= .int .i64 k∧wr=w∧k≤10∧k≤rest.length∧rest.drop k=t∧u<2 ^ (7*k)∧u<18446744073709551616∧bin_Get.lp rest a1 t k u=(r1,r2,r3))
set_option maxRecDepth 100000 in
theorem bin_Get.calls(A0:Option Addr)(c0:Nat)(l0:List Int)(a1:Int)(r1 r2 r3:Int)(w:World)(hr0:Kd.C (Kd.int .u8) w A0 l0.length l0)(hc0:l0.length≤c0)(h:bin_Get.f l0 a1=some (r1,r2,r3)):
  Calls Tryd.prog 37 #[.slice A0 l0.length c0, .int .i64 a1] w fun e w'=>e= .returned (.tuple #[.int .i64 r1, .int .i64 r2, .int .i64 r3])∧Below w.heap.size w w':=by
 unfold bin_Get.f at h
 by_cases hg:(∀x∈l0,0≤x∧x<256)∧l0.length<281474976710656
 case neg=>rw [if_neg hg]at h;cases h
 rw[if_pos hg]at h
 have H:=Aside0.mk (Option.some.inj h)
 obtain⟨hb,hlen⟩:=hg
 have HB:=Aside0.mk hb
 have HR0:=Aside0.mk hr0
 clear h hr0 hb
 by_cases ha:a1<0
 ·have H2:=H.out
  rw[if_pos (.inl ha)]at H2;simp only[Prod.mk.injEq]at H2;obtain⟨rfl,rfl,rfl⟩:=H2;clear H
  go_enter Tryd.func37,Tryd.ntmps37
  go_wp2_with fail
  go_ret3;exact⟨rfl,Below.refl _ _⟩
 by_cases ha2:(l0.length:Int)<a1
 ·have H2:=H.out
  rw[if_pos (.inr ha2)]at H2;simp only[Prod.mk.injEq]at H2;obtain⟨rfl,rfl,rfl⟩:=H2;clear H
  go_enter Tryd.func37,Tryd.ntmps37
  go_wp2_with fail
  go_ret3;exact⟨rfl,Below.refl _ _⟩
 have H2:=H.out
 rw[if_neg (by omega)]at H2;obtain⟨i5,hi5,hs5⟩:=Option.map_eq_some_iff.1 (show(Tryd.prog.info? 5).map (fun i=>i.size)=some 1 by kernel_rfl);have hcut:=cut_from (P:=Tryd.prog) 22 5 .i64 (by kernel_rfl) hi5 1 hs5 A0 l0.length c0 a1 (by omega) (by omega)
 have hrow:=Kd.C_drop HR0.out (show a1.toNat≤l0.length by omega) hc0
 have hc2:l0.length-a1.toNat≤c0-a1.toNat:=by omega
 clear H;have hz:(Kd.int .u8).sz=1:=rfl;rw[hz]at hrow;have hml:(l0.drop a1.toNat).length=l0.length-a1.toNat:=List.length_drop
 have HBR:=Aside0.mk (show∀x∈l0.drop a1.toNat,0≤x∧x<256 from fun x hx=>HB.out x (List.mem_of_mem_drop hx))
 generalize hA:(if c0=a1.toNat then A0 else A0.map (·.add (a1.toNat*1)))=A1 at hcut hrow
 generalize hR:l0.drop a1.toNat=rest at*
 rw[←hml]at hcut hc2
 generalize c0-a1.toNat=c1 at*
 have HR1:=Aside0.mk hrow
 have HH:=Aside0.mk H2
 have hrl:rest.length<281474976710656:=by omega
 have hi5:=Aside0.mk hi5
 clear hrow H2 hs5 hml
 go_enter Tryd.func37,Tryd.ntmps37
 go_wp2_with fail
 go_quiet (fail)
 go_wp2_with fail
 go_loopw [7,27] (fun v7 v27 wr=>GetInv rest a1 r1 r2 r3 (w.drewN nq) v7 v27 wr) (fun v7 v27 wr=>(rest.length-(intOf v27).toNat))
 case atStart=>exact⟨0,0,rest,rfl,rfl,rfl,by omega,by omega,rfl,by omega,by omega,HH.out⟩
 case round=>
  obtain⟨u,k,t,rfl,rfl,rfl,hk,hkl,ht,hu,hu64,hlp⟩:=hrel.out
  by_cases hlt:k<rest.length
  ·have hgk:rest[k]?=some (rest[k]):=List.getElem?_eq_getElem hlt
   generalize hcv:rest[k]=c at hgk
   have hcb:=HBR.out c (by rw[←hcv];exact List.getElem_mem hlt)
   have htc:t=c::rest.drop (k+1):=by rw[←ht,List.drop_eq_getElem_cons hlt,hcv]
   obtain⟨b,o,hA1,hbb,hcells⟩:=cells_of_C (Kd.C_drewN HR1.out nq) (show 0<rest.length by omega)
   have hcell:=hcells k c hgk
   have hA0:=Aside0.mk hA
   clear hA;subst hA1
   have H1:=Aside0.mk hcells
   have H2:=Aside0.mk ht
   have H3:=Aside0.mk hlp
   have H4:=Aside0.mk hu
   clear hcells ht hlp hu
   by_cases hk10:k=10
   ·subst hk10
    have hr:=H3.out
    rw[htc]at hr;simp only[bin_Get.lp,if_true,Prod.mk.injEq]at hr;obtain⟨rfl,rfl,rfl⟩:=hr
    go_wp2_with fail
    go_ret3;exact⟨rfl,pw_below_drewN (Below.refl _ _) _⟩
   ·by_cases hc128:128≤c
    ·go_wp2_with fail
     go_roundw
     case rel=>
      rw[step_u hcb.1 hcb.2 (show k<10 by omega) H4.out]
      have hr:=H3.out
      rw[htc]at hr;simp only[bin_Get.lp,if_neg (show¬k=10 by omega),if_pos (show 128≤c by omega)]at hr
      have hp:=H4.out
      exact⟨_,k+1,_,rfl,by push_cast;rfl,rfl,by omega,by omega,rfl,step_lt (show k<10 by omega) hp,Nat.mod_lt _ (by decide),hr⟩
     case measure=>simp [intOf];omega
    ·go_wp2_with fail
     rw[step_u hcb.1 hcb.2 (show k<10 by omega) H4.out];have hU:(u+c.toNat%128*2 ^ (7*k))%18446744073709551616<18446744073709551616:=Nat.mod_lt _ (by decide)
     have hr:=H3.out
     rw[htc]at hr;simp only[bin_Get.lp,if_neg (show¬k=10 by omega),if_neg (show¬128≤c by omega)]at hr
     generalize (u+c.toNat%128*2 ^ (7*k))%18446744073709551616=U at hU hr ⊢
     rw[unz_step hU];obtain⟨hn1,hn2⟩:=unz_in hU
     generalize unz U=n at hn1 hn2 hr ⊢
     have hten:=vb_ten hn1 hn2
     have hml2:(vb (zg n)).length=((vb (zg n)).map fun d:Nat=>(d:Int)).length:=(List.length_map _).symm
     refine(bin_pieces.calls n _ hn1 hn2).mono ?_
     rintro e w1 ⟨rfl,hb1⟩;have HG:Aside0 (∀(j:Nat) x,((vb (zg n)).map (fun d:Nat=>(d:Int)))[j]?=some x→(arr (vb (zg n)))[0+j]?=some (Value.int .u8 x)):=Aside0.mk (fun j x hj=>arr_get hj)
     generalize (vb (zg n)).map (fun d:Nat=>(d:Int))=bs at hml2 HG hr ⊢
     rw[hml2]
     have HM:=Aside0.mk hml2
     clear hml2
     have HT:=Aside0.mk hten
     have HI:Aside0 ((Tryd.prog.info? 91).map (·.size)=some (arr (vb (zg n))).size):=Aside0.mk (by rw[arr_size hten];kernel_rfl);have HS:Aside0 ((arr (vb (zg n))).size=10):=Aside0.mk (arr_size hten)
     have HB1:=Aside0.mk hb1
     have HH5:=Aside0.mk hr
     clear hb1 hr
     go_wp2_with first
      |(refine wpList_store_row rfl 91 _ _ rfl _ (arr (vb (zg n))) rfl rfl 91 _ (heap_alloc_last _ _) HI.out (by rw[HS.out];rfl) (arr_all _) ?_
        rw[World.setRow_alloc_new])
     have hml2:=HM.out
     have hcut2:=cut_to (P:=Tryd.prog) 22 5 .i64 (by kernel_rfl) hi5.out (some ⟨b,o,none⟩) rest.length c1 ((k:Int)+1) (by omega) (by omega) hc2
     have hcut1: ∀W:World,(Instr.sliceAt 91 (.pointer (some ⟨w1.heap.size,0,none⟩)) none (some (.int .i64 (bs.length:Int))) none).run Tryd.prog W= .ok (.slice (some ⟨w1.heap.size,0,none⟩) bs.length 10) W:=fun W=>run_sliceAt_to (e:=5) W (by kernel_rfl) (by kernel_rfl) (by rw[←hml2];exact HT.out)
     have htl:(rest.take (k+1)).length=k+1:=by rw[List.length_take];omega
     rw[show((k:Int)+1).toNat=k+1 by omega,←htl]at hcut2;obtain⟨ke,hke⟩:=equal_ev bs (rest.take (k+1)) (by rw[←hml2];have:=HT.out;omega);have hcs:(w1.alloc (.cells (arr (vb (zg n))) 91)).heap[w1.heap.size]?=some (.cells (arr (vb (zg n))) 91 (0,0)):=heap_alloc_last _ _
     have HK:Aside0 ((Kd.int .u8).C (w1.alloc (.cells (arr (vb (zg n))) 91)) (some ⟨w1.heap.size,0,none⟩) bs.length bs):=
      Aside0.mk (C_block (enc:=Value.int .u8) (h1:=fun _=>rfl) hcs bs (by rw[←hml2];have:=HT.out;omega) HG.out)
     have HB2:Aside0 (Below w.heap.size w (w1.alloc (.cells (arr (vb (zg n))) 91))):=Aside0.mk (below_alloc (below_step (pw_below_drewN (Below.refl _ _) nq) HB1.out) _);have HR2:Aside0 ((Kd.int .u8).C (w1.alloc (.cells (arr (vb (zg n))) 91)) (some ⟨b,o,none⟩) (rest.take (k+1)).length (rest.take (k+1))):=Aside0.mk (Kd.C_take (Kd.C_below HR1.out HB2.out) (by omega))
     have HKE:=Aside0.mk hke
     clear hcs hke
     have hz10:bs.length≤10:=by rw[←hml2];exact HT.out
     have hzc:(rest.take (k+1)).length≤c1:=by omega
     generalize (w1.alloc (.cells (arr (vb (zg n))) 91))=w2 at HK HB2 HR2 ⊢
     clear HI HS hml2 hten
     generalize hts:rest.take (k+1)=ts at*
     have HZ1:=Aside0.mk hz10
     have HZ2:=Aside0.mk hzc
     clear hts htl hz10 hzc
     have hwk:IntKind.i64.wrap ((k:Int)+1)=(k:Int)+1:=by rw[IntKind.wrap_i64];omega
     go_quiet (first|(refine Calls.quiet_of (slices_Equal_byte_byte.calls ke (some ⟨w1.heap.size,0,none⟩) 10 bs (some ⟨b,o,none⟩) c1 ts (decide (bs=ts)) _ (Kd.C_drewN HK.out _) HZ1.out (Kd.C_drewN HR2.out _) HZ2.out HKE.out|>.mono fun _ _ h=>⟨h.1,by obtain⟨_,m,hm⟩:=h;exact⟨m,hm⟩⟩)))
     have h5:=HH5.out
     by_cases he:bs=ts
     ·rw[if_pos he]at h5
      simp only[Prod.mk.injEq]at h5;obtain⟨e1,e2,e3⟩:=h5;rw[decide_eq_true he];clear he HKE
      go_wp2_with fail
      go_ret3;rw[←e1,←e2,←e3];exact⟨rfl,pw_below_drewN HB2.out nq⟩
     ·rw[if_neg he]at h5
      simp only[Prod.mk.injEq]at h5;obtain⟨e1,e2,e3⟩:=h5;rw[decide_eq_false he];clear he HKE
      go_wp2_with fail
      go_ret3;rw[←e1,←e2,←e3];exact⟨rfl,pw_below_drewN HB2.out nq⟩
  ·have ht0:t= []:=by rw[←ht];exact List.drop_eq_nil_of_le (by omega)
   rw[ht0]at hlp;simp only[bin_Get.lp,Prod.mk.injEq]at hlp;obtain⟨e1,e2,e3⟩:=hlp
   have E1:=Aside0.mk e1
   have E2:=Aside0.mk e2
   have E3:=Aside0.mk e3
   clear e1 e2 e3 ht ht0 hu
   by_cases h10:10≤rest.length
   ·have e3:=E3.out
    rw[if_pos h10]at e3
    go_wp2_with fail
    go_ret3;rw[←E1.out,←E2.out,←e3];exact⟨rfl,pw_below_drewN (Below.refl _ _) _⟩
   ·have e3:=E3.out
    rw[if_neg h10]at e3
    go_wp2_with fail
    go_ret3;rw[←E1.out,←E2.out,←e3];exact⟨rfl,pw_below_drewN (Below.refl _ _) _⟩
end Go.Proofs.YthnajefdiljneaaDoor.R
end
section
-- SQUEEZED
-- Written by the program wip/tools/mp.py of this work, which drives the print of the kit; hand texts of this session among it.
namespace Go.Proofs.YthnajefdiljneaaDoor.R
open Go.RowKit Go.Proofs.HW Go.Proofs.YthnajefdiljneaaDoorW.PrintWords Go.Proofs.YthnajefdiljneaaDoorW.PrintLast
set_option linter.unusedVariables false
set_option linter.unusedSimpArgs false
mutual
def hornbookref01_Put.j0:Nat→List Int→Int→Option (List Int)
 |0,_,_=>none
 |k+1,x5,x6=>hornbookref01_Put.l0 k x5 x6
def hornbookref01_Put.l0:Nat→List Int→Int→Option (List Int)
 |0,_,_=>none
 |k+1,x5,x6=>if x6≥128 then(if x5.length<140737488355328 then(hornbookref01_Put.l0 k (x5++ [(((Int.tmod x6 128))+128)%256]) (IntKind.u64.wrap (Int.tdiv x6 128)))else(none))else(if x5.length<140737488355328 then(some (x5++ [(x6)%256]))else(none))
end
def hornbookref01_Put.f(k:Nat)(l0:List Int)(a1:Int):Option (List Int):=if([]:List Int).length+l0.length<140737488355328 then((some (([]:List Int)++l0:List Int)).bind fun y103=>(if a1<0 then(hornbookref01_Put.j0 k y103 (IntKind.u64.wrap ((IntKind.u64.wrap ((IntKind.u64.wrap (wrap64 (-(wrap64 (a1+1)))))*2))+1)))else(hornbookref01_Put.j0 k y103 (IntKind.u64.wrap ((IntKind.u64.wrap (a1))*2)))))else(none)
set_option maxHeartbeats 8000000 in
set_option maxRecDepth 100000 in
theorem hornbookref01_Put.calls(k:Nat)(A0:Option Addr)(c0:Nat)(l0:List Int)(a1:Int)(r:List Int)(w:World)(hr0:Kd.C (Kd.int .u8) w A0 l0.length l0)(hc0:l0.length≤c0)(h:hornbookref01_Put.f k l0 a1=some r):
  Calls Tryd.prog 23 #[.slice A0 l0.length c0, .int .i64 a1] w fun e w'=> ∃v0_:Value,e= .returned (v0_)∧Kd.R (Kd.int .u8) 5 w' w.heap.size (fun _=>True) v0_ r∧Below w.heap.size w w':=by
 have HR0:=Aside0.mk hr0
 have HC0:=Aside0.mk hc0
 clear hr0 hc0
 have HB:=Aside0.mk (Below.refl w.heap.size w)
 have H:(if([]:List Int).length+l0.length<140737488355328 then((some (([]:List Int)++l0:List Int)).bind fun y103=>(if a1<0 then(hornbookref01_Put.j0 k y103 (IntKind.u64.wrap ((IntKind.u64.wrap ((IntKind.u64.wrap (wrap64 (-(wrap64 (a1+1)))))*2))+1)))else(hornbookref01_Put.j0 k y103 (IntKind.u64.wrap ((IntKind.u64.wrap (a1))*2)))))else(none))=some r:=h;clear h
 by_cases c3:([]:List Int).length+l0.length<140737488355328
 ·rw[if_pos c3]at H
  have LMc3:=Aside0.mk c3
  clear c3;obtain⟨y103,hy103⟩: ∃y_:List Int,y_=(([]:List Int)++l0):=⟨_,rfl⟩
  replace H:(if a1<0 then(hornbookref01_Put.j0 k y103 (IntKind.u64.wrap ((IntKind.u64.wrap ((IntKind.u64.wrap (wrap64 (-(wrap64 (a1+1)))))*2))+1)))else(hornbookref01_Put.j0 k y103 (IntKind.u64.wrap ((IntKind.u64.wrap (a1))*2))))=some r:=by first|(rw[hy103];with_reducible exact H)|(have H2_:=(Option.bind_some _ _).symm.trans H;rw[hy103];with_reducible exact H2_)|(have H2_:=(Option.bind_some _ _).symm.trans H;with_reducible exact H2_)|with_reducible exact H|(rw[hy103];exact H)|exact H
  have Ny103:=Aside0.mk hy103
  clear hy103
  have HC4:=Aside0.mk H
  clear H
  go_enter Tryd.func23,Tryd.ntmps23
  go_upto_if 14 with(first|((with_reducible refine gate_builtin (b:= .append) (xs:= #[.tmp 7, .tmp 8]) rfl ?_);at_builtin;refine Kd.R_append_rows (Kd.int .u8) (w0:=w) w.heap.size rfl (.tmp 7) (.tmp 8) 22 5 (.int .u8 0) 1 rfl Tryd.underlying22 info5 rfl (by decide) (by omega) (.slice none 0 0) ([]:List Int) l0 _ _ _ (fun _=>True) (fun _=>False) rfl rfl ?aO ?aR (fun _ _ h=>h) (fun _ h=>h.elim) ?aF ?aB ?aS ?aL ?_;(case aR=>repeat (first|exact HR0.out|(with_reducible refine Kd.C_alloc ?_ _)|(with_reducible refine Kd.C_drewN ?_ _)|(with_reducible refine Kd.C_drew ?_)));(case aB=>exact(by repeat (first|(with_reducible first|exact HB.out|apply below_alloc|apply pw_below_drewN|apply below_drew1)|exact HB.out)));(case aF=>exact(fun _ _=>trivial));(case aO=>exact((Kd.R_nil _ _ _ _ (fun _=>True))));(case aS=>exact(below_size (by repeat (first|(with_reducible first|exact HB.out|apply below_alloc|apply pw_below_drewN|apply below_drew1)|exact HB.out))));(case aL=>have:=LMc3.out;omega);intro v104 w5 ho hb hg hat;rw[←Ny103.out]at ho;have n0_:=Aside0.mk (hb);have n1_:=Aside0.mk (ho);clear HB;have HB:=n0_;have HO105:=n1_;clear n0_ n1_;clear ho hb hg hat))
  (try simp only[Act.put,List.setIfInBounds_toArray,List.set_cons_zero,List.set_cons_succ])
  go_cut [6] (fun v6 wc=> ∃(kq:Nat) (x6_3:Int),v6= .int .u64 x6_3∧Aside0 (hornbookref01_Put.j0 kq y103 x6_3=some r)∧Aside0 (kq≤k)∧Aside0 (Kd.R (Kd.int .u8) 5 wc w.heap.size (fun _=>True) v104 y103)∧Aside0 (Below w.heap.size w wc))
  case first=>
   have H:=HC4.out
   clear HC4
   by_cases c6:a1<0
   ·rw[if_pos c6]at H
    have c6b0:decide (a1<0)=true:=decide_eq_true c6;clear c6;(first|rw [c6b0]|(simp only[i64_w,i32_w];rw[c6b0])|skip);have H':=Aside0.mk H;clear H;go_wp2;go_meet
    case rel=>exact⟨_,(IntKind.u64.wrap ((IntKind.u64.wrap ((IntKind.u64.wrap (wrap64 (-(wrap64 (a1+1)))))*2))+1)),(by first|rfl|(simp;done)|(simp[*];done)),H',⟨by first|omega|exact Nat.le_refl _⟩,⟨by(with_reducible repeat (first|apply Kd.R_alloc|apply Kd.R_drewN|apply Kd.R_drew));exact HO105.out⟩,⟨by repeat (first|(with_reducible first|exact HB.out|apply below_alloc|apply pw_below_drewN|apply below_drew1)|exact HB.out)⟩⟩
   ·rw[if_neg c6]at H
    have c6b0:decide (a1<0)=false:=decide_eq_false c6;clear c6;(first|rw [c6b0]|(simp only[i64_w,i32_w];rw[c6b0])|skip);have H':=Aside0.mk H;clear H;go_wp2;go_meet
    case rel=>exact⟨_,(IntKind.u64.wrap ((IntKind.u64.wrap (a1))*2)),(by first|rfl|(simp;done)|(simp[*];done)),H',⟨by first|omega|exact Nat.le_refl _⟩,⟨by(with_reducible repeat (first|apply Kd.R_alloc|apply Kd.R_drewN|apply Kd.R_drew));exact HO105.out⟩,⟨by repeat (first|(with_reducible first|exact HB.out|apply below_alloc|apply pw_below_drewN|apply below_drew1)|exact HB.out)⟩⟩
  case rest=>
   clear HC4;(try clear c2);(try clear p2);(try clear c3);(try clear c6);(try clear c6b0);(try clear p6);obtain⟨kq,x6_3,rfl,HA,HJ3,HO_5,HB⟩:=hcut
   cases kq with
   |zero=>exact absurd HA.out (by simp[hornbookref01_Put.j0])
   |succ kj3=>
    have H:=HA.out
    clear HA;simp only[hornbookref01_Put.j0]at H;have H':=Aside0.mk H;clear H;go_wp2
    go_loopg [5,6] kj3 (fun kq v5 v6 w'=> ∃(x5_2:List Int) (x6_2:Int),v6= .int .u64 x6_2∧Aside0 (hornbookref01_Put.l0 kq x5_2 x6_2=some r)∧Aside0 (kq≤kj3)∧Aside0 (Kd.R (Kd.int .u8) 5 w' w.heap.size (fun _=>True) v5 x5_2)∧Aside0 (Below w.heap.size w w'))
    case atStart=>exact⟨(y103),(x6_3),(by first|rfl|(simp;done)|(simp[*];done)),H',⟨Nat.le_refl _⟩,⟨by(with_reducible repeat (first|apply Kd.R_alloc|apply Kd.R_drewN|apply Kd.R_drew));exact HO_5.out⟩,⟨by repeat (first|(with_reducible first|exact HB.out|apply below_alloc|apply pw_below_drewN|apply below_drew1)|exact HB.out)⟩⟩
    case round=>
     clear H';(try clear c2);(try clear p2);(try clear c3);(try clear c6);(try clear c6b0);(try clear p6);(try clear p2);(try clear p6);obtain⟨x5_2,x6_2,rfl,HA,HK2,HO_5,HB⟩:=hrel
     cases gk with
     |zero=>exact absurd HA.out (by simp[hornbookref01_Put.l0])
     |succ k2=>
      have H:=HA.out
      clear HA;simp only[hornbookref01_Put.l0]at H
      by_cases c7:x6_2≥128
      ·rw[if_pos c7]at H
       have c7b0:decide (128≤x6_2)=true:=decide_eq_true c7;clear c7
       by_cases c8:x5_2.length<140737488355328
       ·rw[if_pos c8]at H
        have LMc8:=Aside0.mk c8
        clear c8;obtain⟨y106,hy106⟩: ∃y_:List Int,y_=(x5_2++ [(((Int.tmod x6_2 128))+128)%256]):=⟨_,rfl⟩
        replace H:(hornbookref01_Put.l0 k2 y106 (IntKind.u64.wrap (Int.tdiv x6_2 128)))=some r:=by first|(rw[hy106];with_reducible exact H)|(have H2_:=(Option.bind_some _ _).symm.trans H;rw[hy106];with_reducible exact H2_)|(have H2_:=(Option.bind_some _ _).symm.trans H;with_reducible exact H2_)|with_reducible exact H|(rw[hy106];exact H)|exact H
        have Ny106:=Aside0.mk hy106
        clear hy106;have H':=Aside0.mk H;clear H
        go_wp2_with (first|((with_reducible refine gate_builtin (b:= .append) (xs:= #[.tmp 23, .tmp 28]) rfl ?_);at_builtin;refine Kd.R_append (Kd.int .u8) (w0:=w) w.heap.size rfl (.tmp 23) (.tmp 28) 22 5 (.int .u8 0) 1 rfl Tryd.underlying22 info5 rfl (by decide) (by omega) u5 x5_2 ((((Int.tmod x6_2 128))+128)%256) [.int .u8 ((((Int.tmod x6_2 128))+128)%256)] (fun _=>True) (fun _=>False) rfl rfl ?aP (fun _ hk=>hk.elim) ?aF ?aO ?aB ?aS ?aL ?_;(case aP=>exact rfl);(case aB=>exact(by repeat (first|(with_reducible first|exact HB.out|apply below_alloc|apply pw_below_drewN|apply below_drew1)|exact HB.out)));(case aF=>exact(fun _ _=>trivial));(case aO=>exact(by(with_reducible repeat (first|apply Kd.R_alloc|apply Kd.R_drewN|apply Kd.R_drew));exact HO_5.out));(case aS=>exact(below_size (by repeat (first|(with_reducible first|exact HB.out|apply below_alloc|apply pw_below_drewN|apply below_drew1)|exact HB.out))));(case aL=>have:=LMc8.out;omega);intro v107 w9 ho hb hg hat;rw[←Ny106.out]at ho;have n0_:=Aside0.mk (hb);have n1_:=Aside0.mk (ho);clear HB;clear HO_5;have HB:=n0_;have HO108:=n1_;clear n0_ n1_;clear ho hb hg hat))
        go_roundg k2
        case measure=>have:=HJ3.out;have:=HK2.out;omega
        case rel=>exact⟨(y106),(IntKind.u64.wrap (Int.tdiv x6_2 128)),(by first|rfl|(simp;done)|(simp[*];done)),H',⟨by have:=HJ3.out;have:=HK2.out;omega⟩,⟨by(with_reducible repeat (first|apply Kd.R_alloc|apply Kd.R_drewN|apply Kd.R_drew));exact HO108.out⟩,⟨by repeat (first|(with_reducible first|exact HB.out|apply below_alloc|apply pw_below_drewN|apply below_drew1)|exact HB.out)⟩⟩
       ·rw[if_neg c8]at H
        exact absurd H (by simp)
      ·rw[if_neg c7]at H
       have c7b0:decide (128≤x6_2)=false:=decide_eq_false c7;clear c7
       by_cases c10:x5_2.length<140737488355328
       ·rw[if_pos c10]at H
        have LMc10:=Aside0.mk c10
        clear c10;obtain⟨y109,hy109⟩: ∃y_:List Int,y_=(x5_2++ [(x6_2)%256]):=⟨_,rfl⟩
        replace H:(some y109)=some r:=by first|(rw[hy109];with_reducible exact H)|(have H2_:=(Option.bind_some _ _).symm.trans H;rw[hy109];with_reducible exact H2_)|(have H2_:=(Option.bind_some _ _).symm.trans H;with_reducible exact H2_)|with_reducible exact H|(rw[hy109];exact H)|exact H
        have Ny109:=Aside0.mk hy109
        clear hy109;obtain rfl:=Option.some.inj H
        go_wp2_with (first|((with_reducible refine gate_builtin (b:= .append) (xs:= #[.tmp 32, .tmp 35]) rfl ?_);at_builtin;refine Kd.R_append (Kd.int .u8) (w0:=w) w.heap.size rfl (.tmp 32) (.tmp 35) 22 5 (.int .u8 0) 1 rfl Tryd.underlying22 info5 rfl (by decide) (by omega) u5 x5_2 ((x6_2)%256) [.int .u8 ((x6_2)%256)] (fun _=>True) (fun _=>False) rfl rfl ?aP (fun _ hk=>hk.elim) ?aF ?aO ?aB ?aS ?aL ?_;(case aP=>exact rfl);(case aB=>exact(by repeat (first|(with_reducible first|exact HB.out|apply below_alloc|apply pw_below_drewN|apply below_drew1)|exact HB.out)));(case aF=>exact(fun _ _=>trivial));(case aO=>exact(by(with_reducible repeat (first|apply Kd.R_alloc|apply Kd.R_drewN|apply Kd.R_drew));exact HO_5.out));(case aS=>exact(below_size (by repeat (first|(with_reducible first|exact HB.out|apply below_alloc|apply pw_below_drewN|apply below_drew1)|exact HB.out))));(case aL=>have:=LMc10.out;omega);intro v110 w11 ho hb hg hat;rw[←Ny109.out]at ho;have n0_:=Aside0.mk (hb);have n1_:=Aside0.mk (ho);clear HB;clear HO_5;have HB:=n0_;have HO111:=n1_;clear n0_ n1_;clear ho hb hg hat))
        go_ret;exact⟨_,by first|rfl|(simp[errW_none,errW_some]<;>rfl)|(simp[*,errW_none,errW_some]<;>rfl),by(with_reducible repeat (first|apply Kd.R_alloc|apply Kd.R_drewN|apply Kd.R_drew));exact HO111.out,by repeat (first|(with_reducible first|exact HB.out|apply below_alloc|apply pw_below_drewN|apply below_drew1)|exact HB.out)⟩
       ·rw[if_neg c10]at H
        exact absurd H (by simp)
 ·rw[if_neg c3]at H
  exact absurd H (by simp)
attribute [-simp] List.length_drop List.length_take
mutual
def hornbookref01_Get.j0:Nat→List Int→Int→Bool→Option (Int×Int×Int)
 |0,_,_,_=>none
 |k+1,x0,x1,x18=>if x18=true then(some (0,0,3))else(hornbookref01_Get.l0 k x0 x1 x1)
def hornbookref01_Get.j2:Nat→List Int→Int→Int→Option (Int×Int×Int)
 |0,_,_,_=>none
 |k+1,x0,x1,x7=>if(wrap64 (x7-x1))≥10 then(some (0,0,5))else(if x7≥(x0.length:Int)then(some (0,0,4))else(hornbookref01_Get.l1 k x0 x1 x7 0 x7))
def hornbookref01_Get.l1:Nat→List Int→Int→Int→Int→Int→Option (Int×Int×Int)
 |0,_,_,_,_,_=>none
 |k+1,x0,x1,x7,x8,x9=>if x9≥x1 then(if 0≤x9 then(if x9<(x0.length:Int)then(hornbookref01_Get.l1 k x0 x1 x7 (IntKind.u64.wrap ((IntKind.u64.wrap (x8*128))+(IntKind.u64.wrap (Int.tmod (rd x0 x9) 128)))) (wrap64 (x9-1)))else(none))else(none))else(if(Int.tmod x8 2)=1 then((hornbookref01_Put.f k ([]:List Int) (wrap64 ((wrap64 (-(wrap64 (IntKind.u64.wrap (Int.tdiv x8 2)))))-1))).bind fun t114=>(if 0≤x1 then(if x1≤(wrap64 (x7+1))then(if(wrap64 (x7+1))≤(x0.length:Int)then(if(strOfNums t114).toList=(strOfNums ((x0.take ((wrap64 (x7+1)):Int).toNat).drop (x1:Int).toNat)).toList then(some (wrap64 ((wrap64 (-(wrap64 (IntKind.u64.wrap (Int.tdiv x8 2)))))-1),wrap64 (x7+1),0))else(some (0,0,5)))else(none))else(none))else(none)))else((hornbookref01_Put.f k ([]:List Int) (wrap64 (IntKind.u64.wrap (Int.tdiv x8 2)))).bind fun t118=>(if 0≤x1 then(if x1≤(wrap64 (x7+1))then(if(wrap64 (x7+1))≤(x0.length:Int)then(if(strOfNums t118).toList=(strOfNums ((x0.take ((wrap64 (x7+1)):Int).toNat).drop (x1:Int).toNat)).toList then(some (wrap64 (IntKind.u64.wrap (Int.tdiv x8 2)),wrap64 (x7+1),0))else(some (0,0,5)))else(none))else(none))else(none))))
def hornbookref01_Get.l0:Nat→List Int→Int→Int→Option (Int×Int×Int)
 |0,_,_,_=>none
 |k+1,x0,x1,x7=>if x7<(x0.length:Int)then(if 0≤x7 then(if(rd x0 x7)≥128 then(if(wrap64 (x7-x1))<10 then(hornbookref01_Get.l0 k x0 x1 (wrap64 (x7+1)))else(hornbookref01_Get.j2 k x0 x1 x7))else(hornbookref01_Get.j2 k x0 x1 x7))else(none))else(hornbookref01_Get.j2 k x0 x1 x7)
end
def hornbookref01_Get.f(k:Nat)(l0:List Int)(a1:Int):Option (Int×Int×Int):=if a1<0 then(hornbookref01_Get.j0 k l0 a1 true)else(hornbookref01_Get.j0 k l0 a1 (decide (a1>(l0.length:Int))))
def hornbookref01_Get.T18:Bool×List (List Nat×List Nat):=(true,[([],[]),([0],[0]),([1],[1]),([],[]),([],[]),([],[]),([5],[5]),([3,4,6],[3,4,6]),([7],[7]),([2,8],[2,8])])
def hornbookref01_Get.B18:List Nat:= [0,1,3,0,0,0,32,120,248,511]
theorem hornbookref01_Get.tab18:rtab .any (opsOf Tryd.f40 18)=hornbookref01_Get.T18:=by kernel_rfl
theorem hornbookref01_Get.bits18:waitsOk hornbookref01_Get.T18.2 hornbookref01_Get.B18=true:=by kernel_rfl
set_option maxHeartbeats 8000000 in
set_option maxRecDepth 100000 in
theorem hornbookref01_Get.calls(k:Nat)(A0:Option Addr)(c0:Nat)(l0:List Int)(a1:Int)(r1:Int)(r2:Int)(r3:Int)(w:World)(hr0:Kd.C (Kd.int .u8) w A0 l0.length l0)(hc0:l0.length≤c0)(h:hornbookref01_Get.f k l0 a1=some (r1,r2,r3)):
  Calls Tryd.prog 40 #[.slice A0 l0.length c0, .int .i64 a1] w fun e w'=>e= .returned (.tuple #[.int .i64 r1, .int .i64 r2, .int .i64 r3])∧Below w.heap.size w w':=by
 have HR0:=Aside0.mk hr0
 have HC0:=Aside0.mk hc0
 clear hr0 hc0
 have HB:=Aside0.mk (Below.refl w.heap.size w)
 have H:(if a1<0 then(hornbookref01_Get.j0 k l0 a1 true)else(hornbookref01_Get.j0 k l0 a1 (decide (a1>(l0.length:Int)))))=some (r1,r2,r3):=h;clear h
 have HC3:=Aside0.mk H
 clear H
 go_enter Tryd.func40,Tryd.ntmps40
 go_upto_region 1 with(fail)
 go_cut [18] (fun v18 wc=> ∃(kq:Nat) (x18_2:Bool),v18= .bool x18_2∧Aside0 (hornbookref01_Get.j0 kq l0 a1 x18_2=some (r1,r2,r3))∧Aside0 (kq≤k)∧Aside0 (Below w.heap.size w wc))
 case first=>
  have H:=HC3.out
  clear HC3
  by_cases c4:a1<0
  ·rw[if_pos c4]at H
   have c4b0:decide (a1<0)=true:=decide_eq_true c4;clear c4;(first|rw [c4b0]|(simp only[i64_w,i32_w];rw[c4b0])|skip);have H':=Aside0.mk H;clear H;go_wp2;go_meet
   case rel=>exact⟨_,(true),(by first|rfl|(simp;done)|(simp[*];done)),H',⟨by first|omega|exact Nat.le_refl _⟩,⟨by repeat (first|(with_reducible first|exact HB.out|apply below_alloc|apply pw_below_drewN|apply below_drew1)|exact HB.out)⟩⟩
  ·rw[if_neg c4]at H
   have c4b0:decide (a1<0)=false:=decide_eq_false c4;clear c4;(first|rw [c4b0]|(simp only[i64_w,i32_w];rw[c4b0])|skip);have H':=Aside0.mk H;clear H;go_wp2;go_meet
   case rel=>exact⟨_,(decide (a1>(l0.length:Int))),(by first|rfl|(simp;done)|(simp[*];done)),H',⟨by first|omega|exact Nat.le_refl _⟩,⟨by repeat (first|(with_reducible first|exact HB.out|apply below_alloc|apply pw_below_drewN|apply below_drew1)|exact HB.out)⟩⟩
 case rest=>
  clear HC3;(try clear p2);(try clear c4);(try clear c4b0);obtain⟨kq,x18_2,rfl,HA,HJ2,HB⟩:=hcut
  cases kq with
  |zero=>exact absurd HA.out (by simp[hornbookref01_Get.j0])
  |succ kj2=>
   have H:=HA.out
   clear HA;simp only[hornbookref01_Get.j0]at H
   by_cases c5:x18_2=true
   ·subst c5
    have H1:(some (0,0,3))=some (r1,r2,r3):=by rw[if_pos rfl]at H;exact H
    clear H
    have H:=H1
    clear H1;simp only[Option.some.injEq,Prod.mk.injEq]at H;obtain⟨rfl,rfl,rfl⟩:=H;go_wp2
    all_goals go_ret3
    all_goals exact⟨by first|rfl|(simp[errW_none,errW_some]<;>rfl)|(simp[*,errW_none,errW_some]<;>rfl),by repeat (first|(with_reducible first|exact HB.out|apply below_alloc|apply pw_below_drewN|apply below_drew1)|exact HB.out)⟩
   ·replace c5:=Bool.eq_false_iff.mpr c5
    subst c5
    have H1:(hornbookref01_Get.l0 kj2 l0 a1 a1)=some (r1,r2,r3):=by rw[if_neg (show¬(false=true) by decide)]at H;exact H
    clear H
    have H:=H1
    clear H1
    have HC6:=Aside0.mk H
    clear H
    go_upto_block 0 with(fail)
    go_cut [7] (fun v7 wc=> ∃(kq:Nat) (x7_5:Int),v7= .int .i64 x7_5∧Aside0 (hornbookref01_Get.j2 kq l0 a1 x7_5=some (r1,r2,r3))∧Aside0 (kq≤kj2)∧Aside0 (Below w.heap.size w wc))
    case first=>
     have H:=HC6.out
     clear HC6;have H':=Aside0.mk H;clear H;go_wp2
     go_loopg [7] kj2 (fun kq v7 w'=> ∃(x7_2:Int),v7= .int .i64 x7_2∧Aside0 (hornbookref01_Get.l0 kq l0 a1 x7_2=some (r1,r2,r3))∧Aside0 (kq≤kj2)∧Aside0 (Below w.heap.size w w'))
     case atStart=>exact⟨(a1),(by first|rfl|(simp;done)|(simp[*];done)),H',⟨Nat.le_refl _⟩,⟨by repeat (first|(with_reducible first|exact HB.out|apply below_alloc|apply pw_below_drewN|apply below_drew1)|exact HB.out)⟩⟩
     case round=>
      clear H';(try clear p2);(try clear c4);(try clear c4b0);(try clear c5);(try clear p2);obtain⟨x7_2,rfl,HA,HK2,HB⟩:=hrel
      cases gk with
      |zero=>exact absurd HA.out (by simp[hornbookref01_Get.l0])
      |succ k2=>
       have H:=HA.out
       clear HA;simp only[hornbookref01_Get.l0]at H
       by_cases c7:x7_2<(l0.length:Int)
       ·rw[if_pos c7]at H
        have c7b0:decide (x7_2<(l0.length:Int))=true:=decide_eq_true c7;clear c7;(first|rw [c7b0]|(simp only[i64_w,i32_w];rw[c7b0])|skip)
        by_cases c8:0≤x7_2
        ·rw[if_pos c8]at H
         have c8b0:decide (0≤x7_2)=true:=decide_eq_true c8;clear c8
         by_cases c9:(rd l0 x7_2)≥128
         ·rw[if_pos c9]at H
          have c9b0:decide (128≤(rd l0 x7_2))=true:=decide_eq_true c9;clear c9
          by_cases c10:(wrap64 (x7_2-a1))<10
          ·rw[if_pos c10]at H
           have c10b0:decide ((wrap64 (x7_2-a1))<10)=true:=decide_eq_true c10;clear c10;have H':=Aside0.mk H;clear H;have p112:0≤(x7_2:Int):=of_decide_eq_true (by first|(with_reducible assumption)|assumption);have q112:x7_2<(l0.length:Int):=of_decide_eq_true (by first|(with_reducible assumption)|assumption);obtain⟨ad112,e112,hx112_0⟩:=Kd.at_int HR0.out x7_2 p112 q112;cases e112;replace hx112_0:=(HB.out.cell (World.block_lt_of_cell? w _ hx112_0)).trans hx112_0;replace p112:=eq_true p112;replace q112:=eq_true q112;go_wp2
           go_roundg k2
           case measure=>have:=HJ2.out;have:=HK2.out;omega
           case rel=>exact⟨(wrap64 (x7_2+1)),(by first|rfl|(simp;done)|(simp[*];done)),H',⟨by have:=HJ2.out;have:=HK2.out;omega⟩,⟨by repeat (first|(with_reducible first|exact HB.out|apply below_alloc|apply pw_below_drewN|apply below_drew1)|exact HB.out)⟩⟩
          ·rw[if_neg c10]at H
           have c10b0:decide ((wrap64 (x7_2-a1))<10)=false:=decide_eq_false c10;clear c10;have H':=Aside0.mk H;clear H;have p112:0≤(x7_2:Int):=of_decide_eq_true (by first|(with_reducible assumption)|assumption);have q112:x7_2<(l0.length:Int):=of_decide_eq_true (by first|(with_reducible assumption)|assumption);obtain⟨ad112,e112,hx112_0⟩:=Kd.at_int HR0.out x7_2 p112 q112;cases e112;replace hx112_0:=(HB.out.cell (World.block_lt_of_cell? w _ hx112_0)).trans hx112_0;replace p112:=eq_true p112;replace q112:=eq_true q112;go_wp2;go_meet
           case rel=>exact⟨_,(x7_2),(by first|rfl|(simp;done)|(simp[*];done)),H',⟨by have:=HJ2.out;have:=HK2.out;first|omega|exact Nat.le_refl _⟩,⟨by repeat (first|(with_reducible first|exact HB.out|apply below_alloc|apply pw_below_drewN|apply below_drew1)|exact HB.out)⟩⟩
         ·rw[if_neg c9]at H
          have c9b0:decide (128≤(rd l0 x7_2))=false:=decide_eq_false c9;clear c9;have H':=Aside0.mk H;clear H;have p112:0≤(x7_2:Int):=of_decide_eq_true (by first|(with_reducible assumption)|assumption);have q112:x7_2<(l0.length:Int):=of_decide_eq_true (by first|(with_reducible assumption)|assumption);obtain⟨ad112,e112,hx112_0⟩:=Kd.at_int HR0.out x7_2 p112 q112;cases e112;replace hx112_0:=(HB.out.cell (World.block_lt_of_cell? w _ hx112_0)).trans hx112_0;replace p112:=eq_true p112;replace q112:=eq_true q112;go_wp2;go_meet
          case rel=>exact⟨_,(x7_2),(by first|rfl|(simp;done)|(simp[*];done)),H',⟨by have:=HJ2.out;have:=HK2.out;first|omega|exact Nat.le_refl _⟩,⟨by repeat (first|(with_reducible first|exact HB.out|apply below_alloc|apply pw_below_drewN|apply below_drew1)|exact HB.out)⟩⟩
        ·rw[if_neg c8]at H
         exact absurd H (by simp)
       ·rw[if_neg c7]at H
        have c7b0:decide (x7_2<(l0.length:Int))=false:=decide_eq_false c7;clear c7;(first|rw [c7b0]|(simp only[i64_w,i32_w];rw[c7b0])|skip);have H':=Aside0.mk H;clear H;go_wp2;go_meet
        case rel=>exact⟨_,(x7_2),(by first|rfl|(simp;done)|(simp[*];done)),H',⟨by have:=HJ2.out;have:=HK2.out;first|omega|exact Nat.le_refl _⟩,⟨by repeat (first|(with_reducible first|exact HB.out|apply below_alloc|apply pw_below_drewN|apply below_drew1)|exact HB.out)⟩⟩
    case rest=>
     clear HC6;(try clear c1);(try clear p1);(try clear q1);(try clear hx1);(try clear p2);(try clear c4);(try clear c4b0);(try clear c5);(try clear p6);(try clear c7);(try clear c7b0);(try clear c8);(try clear c8b0);(try clear c9);(try clear c9b0);(try clear c10);(try clear c10b0);(try clear hx112_0);(try clear p112);(try clear p2);(try clear q112);obtain⟨kq,x7_5,rfl,HA,HJ5,HB⟩:=hcut
     cases kq with
     |zero=>exact absurd HA.out (by simp[hornbookref01_Get.j2])
     |succ kj5=>
      have H:=HA.out
      clear HA;simp only[hornbookref01_Get.j2]at H
      by_cases c11:(wrap64 (x7_5-a1))≥10
      ·rw[if_pos c11]at H
       have c11b0:decide (10≤(wrap64 (x7_5-a1)))=true:=decide_eq_true c11;clear c11;simp only[Option.some.injEq,Prod.mk.injEq]at H;obtain⟨rfl,rfl,rfl⟩:=H;go_wp2
       all_goals go_ret3
       all_goals exact⟨by first|rfl|(simp[errW_none,errW_some]<;>rfl)|(simp[*,errW_none,errW_some]<;>rfl),by repeat (first|(with_reducible first|exact HB.out|apply below_alloc|apply pw_below_drewN|apply below_drew1)|exact HB.out)⟩
      ·rw[if_neg c11]at H
       have c11b0:decide (10≤(wrap64 (x7_5-a1)))=false:=decide_eq_false c11;clear c11
       by_cases c12:x7_5≥(l0.length:Int)
       ·rw[if_pos c12]at H
        have c12b0:decide ((l0.length:Int)≤x7_5)=true:=decide_eq_true c12;clear c12;simp only[Option.some.injEq,Prod.mk.injEq]at H;obtain⟨rfl,rfl,rfl⟩:=H;go_wp2
        all_goals go_ret3
        all_goals exact⟨by first|rfl|(simp[errW_none,errW_some]<;>rfl)|(simp[*,errW_none,errW_some]<;>rfl),by repeat (first|(with_reducible first|exact HB.out|apply below_alloc|apply pw_below_drewN|apply below_drew1)|exact HB.out)⟩
       ·rw[if_neg c12]at H
        have c12b0:decide ((l0.length:Int)≤x7_5)=false:=decide_eq_false c12;clear c12;have H':=Aside0.mk H;clear H;go_wp2
        go_loopg [8,9] kj5 (fun kq v8 v9 w'=> ∃(x8_3:Int) (x9_3:Int),v8= .int .u64 x8_3∧v9= .int .i64 x9_3∧Aside0 (hornbookref01_Get.l1 kq l0 a1 x7_5 x8_3 x9_3=some (r1,r2,r3))∧Aside0 (kq≤kj5)∧Aside0 (Below w.heap.size w w'))
        case atStart=>exact⟨(0),(x7_5),(by first|rfl|(simp;done)|(simp[*];done)),(by first|rfl|(simp;done)|(simp[*];done)),H',⟨Nat.le_refl _⟩,⟨by repeat (first|(with_reducible first|exact HB.out|apply below_alloc|apply pw_below_drewN|apply below_drew1)|exact HB.out)⟩⟩
        case round=>
         clear H';(try clear c1);(try clear p1);(try clear q1);(try clear hx1);(try clear p2);(try clear c4);(try clear c4b0);(try clear c5);(try clear p6);(try clear c7);(try clear c7b0);(try clear c8);(try clear c8b0);(try clear c9);(try clear c9b0);(try clear c10);(try clear c10b0);(try clear c11);(try clear c11b0);(try clear p11);(try clear q11);(try clear hx11);(try clear c12);(try clear c12b0);(try clear hx112_0);(try clear p1);(try clear p112);(try clear p2);(try clear p6);(try clear q1);(try clear q112);obtain⟨x8_3,x9_3,rfl,rfl,HA,HK3,HB⟩:=hrel
         cases gk with
         |zero=>exact absurd HA.out (by simp[hornbookref01_Get.l1])
         |succ k3=>
          have H:=HA.out
          clear HA;simp only[hornbookref01_Get.l1]at H
          by_cases c13:x9_3≥a1
          ·rw[if_pos c13]at H
           have c13b0:decide (a1≤x9_3)=true:=decide_eq_true c13;clear c13
           by_cases c14:0≤x9_3
           ·rw[if_pos c14]at H
            have c14b0:decide (0≤x9_3)=true:=decide_eq_true c14;clear c14
            by_cases c15:x9_3<(l0.length:Int)
            ·rw[if_pos c15]at H
             have c15b0:decide (x9_3<(l0.length:Int))=true:=decide_eq_true c15;clear c15;have H':=Aside0.mk H;clear H;have p113:0≤(x9_3:Int):=of_decide_eq_true (by first|(with_reducible assumption)|assumption);have q113:x9_3<(l0.length:Int):=of_decide_eq_true (by first|(with_reducible assumption)|assumption);obtain⟨ad113,e113,hx113_0⟩:=Kd.at_int HR0.out x9_3 p113 q113;cases e113;replace hx113_0:=(HB.out.cell (World.block_lt_of_cell? w _ hx113_0)).trans hx113_0;replace p113:=eq_true p113;replace q113:=eq_true q113;go_wp2
             go_roundg k3
             case measure=>have:=HJ2.out;have:=HJ5.out;have:=HK3.out;omega
             case rel=>exact⟨(IntKind.u64.wrap ((IntKind.u64.wrap (x8_3*128))+(IntKind.u64.wrap (Int.tmod (rd l0 x9_3) 128)))),(wrap64 (x9_3-1)),(by first|rfl|(simp;done)|(simp[*];done)),(by first|rfl|(simp;done)|(simp[*];done)),H',⟨by have:=HJ2.out;have:=HJ5.out;have:=HK3.out;omega⟩,⟨by repeat (first|(with_reducible first|exact HB.out|apply below_alloc|apply pw_below_drewN|apply below_drew1)|exact HB.out)⟩⟩
            ·rw[if_neg c15]at H
             exact absurd H (by simp)
           ·rw[if_neg c14]at H
            exact absurd H (by simp)
          ·rw[if_neg c13]at H
           have c13b0:decide (a1≤x9_3)=false:=decide_eq_false c13;clear c13
           by_cases c16:(Int.tmod x8_3 2)=1
           ·rw[if_pos c16]at H
            have c16b0:((Int.tmod x8_3 2)==1)=true:=beq_iff_eq.mpr c16;have c16b1:((Int.tmod x8_3 2) !=1)=false:=bne_eq_false_iff_eq.mpr c16;clear c16;replace H:=Option.bind_eq_some_iff.mp H;obtain⟨t114,A170,H⟩:=H;replace H:(if 0≤a1 then(if a1≤(wrap64 (x7_5+1))then(if(wrap64 (x7_5+1))≤(l0.length:Int)then(if(strOfNums t114).toList=(strOfNums ((l0.take ((wrap64 (x7_5+1)):Int).toNat).drop (a1:Int).toNat)).toList then(some (wrap64 ((wrap64 (-(wrap64 (IntKind.u64.wrap (Int.tdiv x8_3 2)))))-1),wrap64 (x7_5+1),0))else(some (0,0,5)))else(none))else(none))else(none))=some (r1,r2,r3):=H
            have A17:=Aside0.mk A170
            clear A170
            by_cases c18:0≤a1
            ·rw[if_pos c18]at H
             have c18b0:=eq_true c18
             have c18b1:decide (0≤a1)=true:=decide_eq_true c18;clear c18
             by_cases c19:a1≤(wrap64 (x7_5+1))
             ·rw[if_pos c19]at H
              have c19b0:=eq_true c19
              have c19b1:decide (a1≤(wrap64 (x7_5+1)))=true:=decide_eq_true c19
              by_cases c20:(wrap64 (x7_5+1))≤(l0.length:Int)
              ·rw[if_pos c20]at H
               have c20b0:=eq_true c20
               have c20b1:decide ((wrap64 (x7_5+1))≤(l0.length:Int))=true:=decide_eq_true c20
               by_cases c21:(strOfNums t114).toList=(strOfNums ((l0.take ((wrap64 (x7_5+1)):Int).toNat).drop (a1:Int).toNat)).toList
               ·rw[if_pos c21]at H
                have c21b0:((strOfNums t114).toList==(strOfNums ((l0.take ((wrap64 (x7_5+1)):Int).toNat).drop (a1:Int).toNat)).toList)=true:=beq_iff_eq.mpr c21;have c21b1:((strOfNums t114).toList !=(strOfNums ((l0.take ((wrap64 (x7_5+1)):Int).toNat).drop (a1:Int).toNat)).toList)=false:=bne_eq_false_iff_eq.mpr c21;clear c21;simp only[Option.some.injEq,Prod.mk.injEq]at H;obtain⟨rfl,rfl,rfl⟩:=H
                try go_wp2
                have n0_:=Aside0.mk (below_drew1 HB.out)
                clear HB
                have HB:=n0_
                clear n0_;obtain⟨i023,hi023,_,hsz23,_⟩:=info_parts info5;obtain⟨A23,hcut23,hA23,hC23⟩:=print_mid_of (P:=Tryd.prog) (Value.int .u8) 0 22 5 .i64 .i64 Tryd.underlying22 hi023 hsz23 A0 c0 l0 a1 (wrap64 (x7_5+1)) (of_decide_eq_true (by first|(with_reducible assumption)|assumption)) (by first|omega|exact of_decide_eq_true (by first|(with_reducible assumption)|assumption)) (of_decide_eq_true (by first|(with_reducible assumption)|assumption)) HC0.out;have HR117:=Aside0.mk (Kd.C_of_reads (h1:=fun _=>rfl) (hA23 _ (Kd.reads_of_C HR0.out)))
                have HC117:=Aside0.mk hC23
                clear hA23 hC23 hi023 hsz23;refine start_ (n:=10) (S:=fun w'=>Below w.heap.size w w') (ds:= []) #[false,false,false,false,false,false,false,false,false,false] (by kernel_rfl) rfl rfl HB.out (fun hHeld=>?_);refine with_tabW hornbookref01_Get.tab18 hornbookref01_Get.bits18 (fun HT_ HW_=>?_)
                generalize wr.drew=w22 at HB HR117 hHeld ⊢
                refine pure_ (i:=0) (N:=some 71) (v:=?_) (a':=?_) #[true,false,false,false,false,false,false,false,false,false] rfl rfl (any_of HT_.out (by kernel_rfl)) (fun _ _ _ h=>h) (Or.inl ⟨by rfl,?_⟩) ?_ ?_
                rotate_left
                ·intro w'
                 go_simp
                 with_reducible rfl
                rotate_left
                ·simp only[Act.put,List.setIfInBounds_toArray,List.set_cons_zero,List.set_cons_succ,i64_w,i32_w]
                 rfl
                refine pure_ (i:=3) (N:=some 74) (v:=?_) (a':=?_) #[true,false,false,true,false,false,false,false,false,false] rfl rfl (any_of HT_.out (by kernel_rfl)) (fun _ _ _ h=>h) (Or.inl ⟨by rfl,?_⟩) ?_ ?_
                rotate_left
                ·intro w'
                 go_simp
                 with_reducible rfl
                rotate_left
                ·simp only[Act.put,List.setIfInBounds_toArray,List.set_cons_zero,List.set_cons_succ,i64_w,i32_w]
                 rfl
                refine pure_ (i:=4) (N:=some 75) (v:=?_) (a':=?_) #[true,false,false,true,true,false,false,false,false,false] rfl rfl (any_of HT_.out (by kernel_rfl)) (fun _ _ _ h=>h) (Or.inl ⟨by rfl,?_⟩) ?_ ?_
                rotate_left
                ·intro w'
                 go_simp
                 with_reducible rfl
                rotate_left
                ·simp only[Act.put,List.setIfInBounds_toArray,List.set_cons_zero,List.set_cons_succ,i64_w,i32_w]
                 rfl
                refine pure_ (i:=5) (N:=some 76) (v:=?_) (a':=?_) #[true,false,false,true,true,true,false,false,false,false] rfl rfl (any_of HT_.out (by kernel_rfl)) (fun _ _ _ h=>h) (Or.inl ⟨by rfl,?_⟩) ?_ ?_
                rotate_left
                ·intro w'
                 go_simp
                 with_reducible rfl
                rotate_left
                ·simp only[Act.put,List.setIfInBounds_toArray,List.set_cons_zero,List.set_cons_succ,i64_w,i32_w]
                 rfl
                refine pure_ (i:=6) (N:=some 77) (v:=?_) (a':=?_) #[true,false,false,true,true,true,true,false,false,false] rfl rfl (any_of HT_.out (by kernel_rfl)) (fun _ _ _ h=>h) (Or.inl ⟨by rfl,?_⟩) ?_ ?_
                rotate_left
                ·intro w'
                 go_simp
                 with_reducible rfl
                rotate_left
                ·simp only[Act.put,List.setIfInBounds_toArray,List.set_cons_zero,List.set_cons_succ,i64_w,i32_w]
                 rfl
                refine pure_ (i:=7) (N:=some 78) (v:=?_) (a':=?_) #[true,false,false,true,true,true,true,true,false,false] rfl rfl (any_of HT_.out (by kernel_rfl)) (fun _ _ _ h=>h) (Or.inl ⟨by rfl,?_⟩) ?_ ?_
                rotate_left
                ·intro w'
                 go_simp
                 with_reducible rfl
                rotate_left
                ·simp only[Act.put,List.setIfInBounds_toArray,List.set_cons_zero,List.set_cons_succ,i64_w,i32_w]
                 rfl
                refine take_ (i:=8) (N:=some 79) (v:=?_) (a':=?_) #[true,false,false,true,true,true,true,true,true,false] rfl rfl (by kernel_rfl) (fun _ _ _ h=>h) (Or.inl ⟨by rfl,?_⟩) hHeld ?_ ?_
                rotate_left
                ·intro w' hw'
                 have hcvx:=Kd.C_string (P:=Tryd.prog) (A:=_) (c:=(c0-a1.toNat)) Tryd.underlying22 Tryd.underlying5 Tryd.underlying9 (Kd.C_below (by first|exact HR117.out|exact HR121.out) hw')
                 go_simp
                 with_reducible rfl
                rotate_left
                ·simp only[Act.put,List.setIfInBounds_toArray,List.set_cons_zero,List.set_cons_succ,i64_w,i32_w]
                 rfl
                refine one_ (i:=1) (N:=some 72) #[true,true,false,true,true,true,true,true,true,false] rfl rfl (one_of HT_.out (by kernel_rfl)) (by decide) (fun K hK=>?_)
                refine goes_ Tryd.func23 (by kernel_rfl) rfl #[.slice none 0 0, .int .i64 (wrap64 ((wrap64 (-(wrap64 (IntKind.u64.wrap (Int.tdiv x8_3 2)))))-1))] (by rfl) rfl rfl (by(try simp only[List.map_toArray,List.map_cons,List.map_nil]);first|done|rfl|(simp only[List.length_drop,List.length_take];rfl)) ?_
                refine(hornbookref01_Put.calls k3 _ _ ([]:List Int) (wrap64 ((wrap64 (-(wrap64 (IntKind.u64.wrap (Int.tdiv x8_3 2)))))-1)) t114 _ ?side1 ?side2 A17.out).mono ?_
                (case side1=>exact Kd.C_nil _ _)
                (case side2=>exact Nat.le_refl _)
                rintro e w24 ⟨v115,rfl,ho0,hb⟩;refine⟨_,rfl,?_⟩
                have n0_:=Aside0.mk (Kd.R_lower ho0 (below_size (by repeat (first|(with_reducible first|exact HB.out|apply below_alloc|apply pw_below_drewN|apply below_drew1)|exact HB.out))))
                have n1_:=Aside0.mk (below_step (by repeat (first|(with_reducible first|exact HB.out|apply below_alloc|apply pw_below_drewN|apply below_drew1)|exact HB.out)) hb)
                clear HB
                have HO116:=n0_
                have HB:=n1_
                clear n0_ n1_
                (try clear hb)
                (try clear hb2)
                (try clear hk)
                (try clear hi)
                (try clear ho0)
                have hcv26:=Kd.C_string (P:=Tryd.prog) (A:=A23) (c:=(c0-a1.toNat)) Tryd.underlying22 Tryd.underlying5 Tryd.underlying9 (Kd.C_below HR117.out HB.out);refine hK.out _ _ HB.out (fun hHeld=>?_);clear hK K
                refine norm_ (a':=?_) ?_ ?_
                rotate_left
                ·show Act.put _ (some 72) _=_
                 simp only[Act.put,List.setIfInBounds_toArray,List.set_cons_zero,List.set_cons_succ,i64_w,i32_w];rfl
                refine one_ (i:=2) (N:=some 73) #[true,true,true,true,true,true,true,true,true,false] rfl rfl (one_of HT_.out (by kernel_rfl)) (by decide) (fun K hK=>?_);have hcv25:=own_string (P:=Tryd.prog) Tryd.underlying22 Tryd.underlying5 Tryd.underlying9 (Kd.own_of_R HO116.out)
                refine value_ (w1:=?_) (v:=?_) (by rfl) rfl ?_ ?_
                rotate_left 2
                ·go_simp
                 constructor
                 ·rfl
                 ·rfl
                clear hcv25;refine hK.out _ _ HB.out (fun hHeld=>?_);clear hK K
                refine norm_ (a':=?_) ?_ ?_
                rotate_left
                ·show Act.put _ (some 73) _=_
                 simp only[Act.put,List.setIfInBounds_toArray,List.set_cons_zero,List.set_cons_succ,i64_w,i32_w];rfl
                refine pure_ (i:=9) (N:=some 80) (v:=?_) (a':=?_) #[true,true,true,true,true,true,true,true,true,true] rfl rfl (any_of HT_.out (by kernel_rfl)) (fun _ _ _ h=>h) (Or.inl ⟨by rfl,?_⟩) ?_ ?_
                rotate_left
                ·intro w'
                 go_simp
                 with_reducible rfl
                rotate_left
                ·simp only[Act.put,List.setIfInBounds_toArray,List.set_cons_zero,List.set_cons_succ,i64_w,i32_w]
                 rfl
                refine done_ (done_of HT_.out (by kernel_rfl)) ?_
                try go_wp2
                all_goals go_ret3
                all_goals exact⟨by first|rfl|(simp[errW_none,errW_some]<;>rfl)|(simp[*,errW_none,errW_some]<;>rfl),by repeat (first|(with_reducible first|exact HB.out|apply below_alloc|apply pw_below_drewN|apply below_drew1)|exact HB.out)⟩
               ·rw[if_neg c21]at H
                have c21b0:((strOfNums t114).toList==(strOfNums ((l0.take ((wrap64 (x7_5+1)):Int).toNat).drop (a1:Int).toNat)).toList)=false:=beq_eq_false_iff_ne.mpr c21;have c21b1:((strOfNums t114).toList !=(strOfNums ((l0.take ((wrap64 (x7_5+1)):Int).toNat).drop (a1:Int).toNat)).toList)=true:=bne_iff_ne.mpr c21;simp only[Option.some.injEq,Prod.mk.injEq]at H;obtain⟨rfl,rfl,rfl⟩:=H
                try go_wp2
                have n0_:=Aside0.mk (below_drew1 HB.out)
                clear HB
                have HB:=n0_
                clear n0_;obtain⟨i029,hi029,_,hsz29,_⟩:=info_parts info5;obtain⟨A29,hcut29,hA29,hC29⟩:=print_mid_of (P:=Tryd.prog) (Value.int .u8) 0 22 5 .i64 .i64 Tryd.underlying22 hi029 hsz29 A0 c0 l0 a1 (wrap64 (x7_5+1)) (of_decide_eq_true (by first|(with_reducible assumption)|assumption)) (by first|omega|exact of_decide_eq_true (by first|(with_reducible assumption)|assumption)) (of_decide_eq_true (by first|(with_reducible assumption)|assumption)) HC0.out;have HR117:=Aside0.mk (Kd.C_of_reads (h1:=fun _=>rfl) (hA29 _ (Kd.reads_of_C HR0.out)))
                have HC117:=Aside0.mk hC29
                clear hA29 hC29 hi029 hsz29;refine start_ (n:=10) (S:=fun w'=>Below w.heap.size w w') (ds:= []) #[false,false,false,false,false,false,false,false,false,false] (by kernel_rfl) rfl rfl HB.out (fun hHeld=>?_);refine with_tabW hornbookref01_Get.tab18 hornbookref01_Get.bits18 (fun HT_ HW_=>?_)
                generalize wr.drew=w28 at HB HR117 hHeld ⊢
                refine pure_ (i:=0) (N:=some 71) (v:=?_) (a':=?_) #[true,false,false,false,false,false,false,false,false,false] rfl rfl (any_of HT_.out (by kernel_rfl)) (fun _ _ _ h=>h) (Or.inl ⟨by rfl,?_⟩) ?_ ?_
                rotate_left
                ·intro w'
                 go_simp
                 with_reducible rfl
                rotate_left
                ·simp only[Act.put,List.setIfInBounds_toArray,List.set_cons_zero,List.set_cons_succ,i64_w,i32_w]
                 rfl
                refine pure_ (i:=3) (N:=some 74) (v:=?_) (a':=?_) #[true,false,false,true,false,false,false,false,false,false] rfl rfl (any_of HT_.out (by kernel_rfl)) (fun _ _ _ h=>h) (Or.inl ⟨by rfl,?_⟩) ?_ ?_
                rotate_left
                ·intro w'
                 go_simp
                 with_reducible rfl
                rotate_left
                ·simp only[Act.put,List.setIfInBounds_toArray,List.set_cons_zero,List.set_cons_succ,i64_w,i32_w]
                 rfl
                refine pure_ (i:=4) (N:=some 75) (v:=?_) (a':=?_) #[true,false,false,true,true,false,false,false,false,false] rfl rfl (any_of HT_.out (by kernel_rfl)) (fun _ _ _ h=>h) (Or.inl ⟨by rfl,?_⟩) ?_ ?_
                rotate_left
                ·intro w'
                 go_simp
                 with_reducible rfl
                rotate_left
                ·simp only[Act.put,List.setIfInBounds_toArray,List.set_cons_zero,List.set_cons_succ,i64_w,i32_w]
                 rfl
                refine pure_ (i:=5) (N:=some 76) (v:=?_) (a':=?_) #[true,false,false,true,true,true,false,false,false,false] rfl rfl (any_of HT_.out (by kernel_rfl)) (fun _ _ _ h=>h) (Or.inl ⟨by rfl,?_⟩) ?_ ?_
                rotate_left
                ·intro w'
                 go_simp
                 with_reducible rfl
                rotate_left
                ·simp only[Act.put,List.setIfInBounds_toArray,List.set_cons_zero,List.set_cons_succ,i64_w,i32_w]
                 rfl
                refine pure_ (i:=6) (N:=some 77) (v:=?_) (a':=?_) #[true,false,false,true,true,true,true,false,false,false] rfl rfl (any_of HT_.out (by kernel_rfl)) (fun _ _ _ h=>h) (Or.inl ⟨by rfl,?_⟩) ?_ ?_
                rotate_left
                ·intro w'
                 go_simp
                 with_reducible rfl
                rotate_left
                ·simp only[Act.put,List.setIfInBounds_toArray,List.set_cons_zero,List.set_cons_succ,i64_w,i32_w]
                 rfl
                refine pure_ (i:=7) (N:=some 78) (v:=?_) (a':=?_) #[true,false,false,true,true,true,true,true,false,false] rfl rfl (any_of HT_.out (by kernel_rfl)) (fun _ _ _ h=>h) (Or.inl ⟨by rfl,?_⟩) ?_ ?_
                rotate_left
                ·intro w'
                 go_simp
                 with_reducible rfl
                rotate_left
                ·simp only[Act.put,List.setIfInBounds_toArray,List.set_cons_zero,List.set_cons_succ,i64_w,i32_w]
                 rfl
                refine take_ (i:=8) (N:=some 79) (v:=?_) (a':=?_) #[true,false,false,true,true,true,true,true,true,false] rfl rfl (by kernel_rfl) (fun _ _ _ h=>h) (Or.inl ⟨by rfl,?_⟩) hHeld ?_ ?_
                rotate_left
                ·intro w' hw'
                 have hcvx:=Kd.C_string (P:=Tryd.prog) (A:=_) (c:=(c0-a1.toNat)) Tryd.underlying22 Tryd.underlying5 Tryd.underlying9 (Kd.C_below (by first|exact HR117.out|exact HR121.out) hw')
                 go_simp
                 with_reducible rfl
                rotate_left
                ·simp only[Act.put,List.setIfInBounds_toArray,List.set_cons_zero,List.set_cons_succ,i64_w,i32_w]
                 rfl
                refine one_ (i:=1) (N:=some 72) #[true,true,false,true,true,true,true,true,true,false] rfl rfl (one_of HT_.out (by kernel_rfl)) (by decide) (fun K hK=>?_)
                refine goes_ Tryd.func23 (by kernel_rfl) rfl #[.slice none 0 0, .int .i64 (wrap64 ((wrap64 (-(wrap64 (IntKind.u64.wrap (Int.tdiv x8_3 2)))))-1))] (by rfl) rfl rfl (by(try simp only[List.map_toArray,List.map_cons,List.map_nil]);first|done|rfl|(simp only[List.length_drop,List.length_take];rfl)) ?_
                refine(hornbookref01_Put.calls k3 _ _ ([]:List Int) (wrap64 ((wrap64 (-(wrap64 (IntKind.u64.wrap (Int.tdiv x8_3 2)))))-1)) t114 _ ?side1 ?side2 A17.out).mono ?_
                (case side1=>exact Kd.C_nil _ _)
                (case side2=>exact Nat.le_refl _)
                rintro e w30 ⟨v115,rfl,ho0,hb⟩;refine⟨_,rfl,?_⟩
                have n0_:=Aside0.mk (Kd.R_lower ho0 (below_size (by repeat (first|(with_reducible first|exact HB.out|apply below_alloc|apply pw_below_drewN|apply below_drew1)|exact HB.out))))
                have n1_:=Aside0.mk (below_step (by repeat (first|(with_reducible first|exact HB.out|apply below_alloc|apply pw_below_drewN|apply below_drew1)|exact HB.out)) hb)
                clear HB
                have HO116:=n0_
                have HB:=n1_
                clear n0_ n1_
                (try clear hb)
                (try clear hb2)
                (try clear hk)
                (try clear hi)
                (try clear ho0)
                have hcv32:=Kd.C_string (P:=Tryd.prog) (A:=A29) (c:=(c0-a1.toNat)) Tryd.underlying22 Tryd.underlying5 Tryd.underlying9 (Kd.C_below HR117.out HB.out);refine hK.out _ _ HB.out (fun hHeld=>?_);clear hK K
                refine norm_ (a':=?_) ?_ ?_
                rotate_left
                ·show Act.put _ (some 72) _=_
                 simp only[Act.put,List.setIfInBounds_toArray,List.set_cons_zero,List.set_cons_succ,i64_w,i32_w];rfl
                refine one_ (i:=2) (N:=some 73) #[true,true,true,true,true,true,true,true,true,false] rfl rfl (one_of HT_.out (by kernel_rfl)) (by decide) (fun K hK=>?_);have hcv31:=own_string (P:=Tryd.prog) Tryd.underlying22 Tryd.underlying5 Tryd.underlying9 (Kd.own_of_R HO116.out)
                refine value_ (w1:=?_) (v:=?_) (by rfl) rfl ?_ ?_
                rotate_left 2
                ·go_simp
                 constructor
                 ·rfl
                 ·rfl
                clear hcv31;refine hK.out _ _ HB.out (fun hHeld=>?_);clear hK K
                refine norm_ (a':=?_) ?_ ?_
                rotate_left
                ·show Act.put _ (some 73) _=_
                 simp only[Act.put,List.setIfInBounds_toArray,List.set_cons_zero,List.set_cons_succ,i64_w,i32_w];rfl
                refine pure_ (i:=9) (N:=some 80) (v:=?_) (a':=?_) #[true,true,true,true,true,true,true,true,true,true] rfl rfl (any_of HT_.out (by kernel_rfl)) (fun _ _ _ h=>h) (Or.inl ⟨by rfl,?_⟩) ?_ ?_
                rotate_left
                ·intro w'
                 go_simp
                 with_reducible rfl
                rotate_left
                ·simp only[Act.put,List.setIfInBounds_toArray,List.set_cons_zero,List.set_cons_succ,i64_w,i32_w]
                 rfl
                refine done_ (done_of HT_.out (by kernel_rfl)) ?_
                try go_wp2
                all_goals go_ret3
                all_goals exact⟨by first|rfl|(simp[errW_none,errW_some]<;>rfl)|(simp[*,errW_none,errW_some]<;>rfl),by repeat (first|(with_reducible first|exact HB.out|apply below_alloc|apply pw_below_drewN|apply below_drew1)|exact HB.out)⟩
              ·rw[if_neg c20]at H
               exact absurd H (by simp)
             ·rw[if_neg c19]at H
              exact absurd H (by simp)
            ·rw[if_neg c18]at H
             exact absurd H (by simp)
           ·rw[if_neg c16]at H
            have c16b0:((Int.tmod x8_3 2)==1)=false:=beq_eq_false_iff_ne.mpr c16;have c16b1:((Int.tmod x8_3 2) !=1)=true:=bne_iff_ne.mpr c16;replace H:=Option.bind_eq_some_iff.mp H;obtain⟨t118,A340,H⟩:=H;replace H:(if 0≤a1 then(if a1≤(wrap64 (x7_5+1))then(if(wrap64 (x7_5+1))≤(l0.length:Int)then(if(strOfNums t118).toList=(strOfNums ((l0.take ((wrap64 (x7_5+1)):Int).toNat).drop (a1:Int).toNat)).toList then(some (wrap64 (IntKind.u64.wrap (Int.tdiv x8_3 2)),wrap64 (x7_5+1),0))else(some (0,0,5)))else(none))else(none))else(none))=some (r1,r2,r3):=H
            have A34:=Aside0.mk A340
            clear A340
            by_cases c35:0≤a1
            ·rw[if_pos c35]at H
             have c35b0:=eq_true c35
             have c35b1:decide (0≤a1)=true:=decide_eq_true c35;clear c35
             by_cases c36:a1≤(wrap64 (x7_5+1))
             ·rw[if_pos c36]at H
              have c36b0:=eq_true c36
              have c36b1:decide (a1≤(wrap64 (x7_5+1)))=true:=decide_eq_true c36
              by_cases c37:(wrap64 (x7_5+1))≤(l0.length:Int)
              ·rw[if_pos c37]at H
               have c37b0:=eq_true c37
               have c37b1:decide ((wrap64 (x7_5+1))≤(l0.length:Int))=true:=decide_eq_true c37
               by_cases c38:(strOfNums t118).toList=(strOfNums ((l0.take ((wrap64 (x7_5+1)):Int).toNat).drop (a1:Int).toNat)).toList
               ·rw[if_pos c38]at H
                have c38b0:((strOfNums t118).toList==(strOfNums ((l0.take ((wrap64 (x7_5+1)):Int).toNat).drop (a1:Int).toNat)).toList)=true:=beq_iff_eq.mpr c38;have c38b1:((strOfNums t118).toList !=(strOfNums ((l0.take ((wrap64 (x7_5+1)):Int).toNat).drop (a1:Int).toNat)).toList)=false:=bne_eq_false_iff_eq.mpr c38;clear c38;simp only[Option.some.injEq,Prod.mk.injEq]at H;obtain⟨rfl,rfl,rfl⟩:=H
                try go_wp2
                have n0_:=Aside0.mk (below_drew1 HB.out)
                clear HB
                have HB:=n0_
                clear n0_;obtain⟨i040,hi040,_,hsz40,_⟩:=info_parts info5;obtain⟨A40,hcut40,hA40,hC40⟩:=print_mid_of (P:=Tryd.prog) (Value.int .u8) 0 22 5 .i64 .i64 Tryd.underlying22 hi040 hsz40 A0 c0 l0 a1 (wrap64 (x7_5+1)) (of_decide_eq_true (by first|(with_reducible assumption)|assumption)) (by first|omega|exact of_decide_eq_true (by first|(with_reducible assumption)|assumption)) (of_decide_eq_true (by first|(with_reducible assumption)|assumption)) HC0.out;have HR121:=Aside0.mk (Kd.C_of_reads (h1:=fun _=>rfl) (hA40 _ (Kd.reads_of_C HR0.out)))
                have HC121:=Aside0.mk hC40
                clear hA40 hC40 hi040 hsz40;refine start_ (n:=10) (S:=fun w'=>Below w.heap.size w w') (ds:= []) #[false,false,false,false,false,false,false,false,false,false] (by kernel_rfl) rfl rfl HB.out (fun hHeld=>?_);refine with_tabW hornbookref01_Get.tab18 hornbookref01_Get.bits18 (fun HT_ HW_=>?_)
                generalize wr.drew=w39 at HB HR121 hHeld ⊢
                refine pure_ (i:=0) (N:=some 71) (v:=?_) (a':=?_) #[true,false,false,false,false,false,false,false,false,false] rfl rfl (any_of HT_.out (by kernel_rfl)) (fun _ _ _ h=>h) (Or.inl ⟨by rfl,?_⟩) ?_ ?_
                rotate_left
                ·intro w'
                 go_simp
                 with_reducible rfl
                rotate_left
                ·simp only[Act.put,List.setIfInBounds_toArray,List.set_cons_zero,List.set_cons_succ,i64_w,i32_w]
                 rfl
                refine pure_ (i:=3) (N:=some 74) (v:=?_) (a':=?_) #[true,false,false,true,false,false,false,false,false,false] rfl rfl (any_of HT_.out (by kernel_rfl)) (fun _ _ _ h=>h) (Or.inl ⟨by rfl,?_⟩) ?_ ?_
                rotate_left
                ·intro w'
                 go_simp
                 with_reducible rfl
                rotate_left
                ·simp only[Act.put,List.setIfInBounds_toArray,List.set_cons_zero,List.set_cons_succ,i64_w,i32_w]
                 rfl
                refine pure_ (i:=4) (N:=some 75) (v:=?_) (a':=?_) #[true,false,false,true,true,false,false,false,false,false] rfl rfl (any_of HT_.out (by kernel_rfl)) (fun _ _ _ h=>h) (Or.inl ⟨by rfl,?_⟩) ?_ ?_
                rotate_left
                ·intro w'
                 go_simp
                 with_reducible rfl
                rotate_left
                ·simp only[Act.put,List.setIfInBounds_toArray,List.set_cons_zero,List.set_cons_succ,i64_w,i32_w]
                 rfl
                refine pure_ (i:=5) (N:=some 76) (v:=?_) (a':=?_) #[true,false,false,true,true,true,false,false,false,false] rfl rfl (any_of HT_.out (by kernel_rfl)) (fun _ _ _ h=>h) (Or.inl ⟨by rfl,?_⟩) ?_ ?_
                rotate_left
                ·intro w'
                 go_simp
                 with_reducible rfl
                rotate_left
                ·simp only[Act.put,List.setIfInBounds_toArray,List.set_cons_zero,List.set_cons_succ,i64_w,i32_w]
                 rfl
                refine pure_ (i:=6) (N:=some 77) (v:=?_) (a':=?_) #[true,false,false,true,true,true,true,false,false,false] rfl rfl (any_of HT_.out (by kernel_rfl)) (fun _ _ _ h=>h) (Or.inl ⟨by rfl,?_⟩) ?_ ?_
                rotate_left
                ·intro w'
                 go_simp
                 with_reducible rfl
                rotate_left
                ·simp only[Act.put,List.setIfInBounds_toArray,List.set_cons_zero,List.set_cons_succ,i64_w,i32_w]
                 rfl
                refine pure_ (i:=7) (N:=some 78) (v:=?_) (a':=?_) #[true,false,false,true,true,true,true,true,false,false] rfl rfl (any_of HT_.out (by kernel_rfl)) (fun _ _ _ h=>h) (Or.inl ⟨by rfl,?_⟩) ?_ ?_
                rotate_left
                ·intro w'
                 go_simp
                 with_reducible rfl
                rotate_left
                ·simp only[Act.put,List.setIfInBounds_toArray,List.set_cons_zero,List.set_cons_succ,i64_w,i32_w]
                 rfl
                refine take_ (i:=8) (N:=some 79) (v:=?_) (a':=?_) #[true,false,false,true,true,true,true,true,true,false] rfl rfl (by kernel_rfl) (fun _ _ _ h=>h) (Or.inl ⟨by rfl,?_⟩) hHeld ?_ ?_
                rotate_left
                ·intro w' hw'
                 have hcvx:=Kd.C_string (P:=Tryd.prog) (A:=_) (c:=(c0-a1.toNat)) Tryd.underlying22 Tryd.underlying5 Tryd.underlying9 (Kd.C_below (by first|exact HR117.out|exact HR121.out) hw')
                 go_simp
                 with_reducible rfl
                rotate_left
                ·simp only[Act.put,List.setIfInBounds_toArray,List.set_cons_zero,List.set_cons_succ,i64_w,i32_w]
                 rfl
                refine one_ (i:=1) (N:=some 72) #[true,true,false,true,true,true,true,true,true,false] rfl rfl (one_of HT_.out (by kernel_rfl)) (by decide) (fun K hK=>?_)
                refine goes_ Tryd.func23 (by kernel_rfl) rfl #[.slice none 0 0, .int .i64 (wrap64 (IntKind.u64.wrap (Int.tdiv x8_3 2)))] (by rfl) rfl rfl (by(try simp only[List.map_toArray,List.map_cons,List.map_nil]);first|done|rfl|(simp only[List.length_drop,List.length_take];rfl)) ?_
                refine(hornbookref01_Put.calls k3 _ _ ([]:List Int) (wrap64 (IntKind.u64.wrap (Int.tdiv x8_3 2))) t118 _ ?side1 ?side2 A34.out).mono ?_
                (case side1=>exact Kd.C_nil _ _)
                (case side2=>exact Nat.le_refl _)
                rintro e w41 ⟨v119,rfl,ho0,hb⟩;refine⟨_,rfl,?_⟩
                have n0_:=Aside0.mk (Kd.R_lower ho0 (below_size (by repeat (first|(with_reducible first|exact HB.out|apply below_alloc|apply pw_below_drewN|apply below_drew1)|exact HB.out))))
                have n1_:=Aside0.mk (below_step (by repeat (first|(with_reducible first|exact HB.out|apply below_alloc|apply pw_below_drewN|apply below_drew1)|exact HB.out)) hb)
                clear HB
                have HO120:=n0_
                have HB:=n1_
                clear n0_ n1_
                (try clear hb)
                (try clear hb2)
                (try clear hk)
                (try clear hi)
                (try clear ho0)
                have hcv43:=Kd.C_string (P:=Tryd.prog) (A:=A40) (c:=(c0-a1.toNat)) Tryd.underlying22 Tryd.underlying5 Tryd.underlying9 (Kd.C_below HR121.out HB.out);refine hK.out _ _ HB.out (fun hHeld=>?_);clear hK K
                refine norm_ (a':=?_) ?_ ?_
                rotate_left
                ·show Act.put _ (some 72) _=_
                 simp only[Act.put,List.setIfInBounds_toArray,List.set_cons_zero,List.set_cons_succ,i64_w,i32_w];rfl
                refine one_ (i:=2) (N:=some 73) #[true,true,true,true,true,true,true,true,true,false] rfl rfl (one_of HT_.out (by kernel_rfl)) (by decide) (fun K hK=>?_);have hcv42:=own_string (P:=Tryd.prog) Tryd.underlying22 Tryd.underlying5 Tryd.underlying9 (Kd.own_of_R HO120.out)
                refine value_ (w1:=?_) (v:=?_) (by rfl) rfl ?_ ?_
                rotate_left 2
                ·go_simp
                 constructor
                 ·rfl
                 ·rfl
                clear hcv42;refine hK.out _ _ HB.out (fun hHeld=>?_);clear hK K
                refine norm_ (a':=?_) ?_ ?_
                rotate_left
                ·show Act.put _ (some 73) _=_
                 simp only[Act.put,List.setIfInBounds_toArray,List.set_cons_zero,List.set_cons_succ,i64_w,i32_w];rfl
                refine pure_ (i:=9) (N:=some 80) (v:=?_) (a':=?_) #[true,true,true,true,true,true,true,true,true,true] rfl rfl (any_of HT_.out (by kernel_rfl)) (fun _ _ _ h=>h) (Or.inl ⟨by rfl,?_⟩) ?_ ?_
                rotate_left
                ·intro w'
                 go_simp
                 with_reducible rfl
                rotate_left
                ·simp only[Act.put,List.setIfInBounds_toArray,List.set_cons_zero,List.set_cons_succ,i64_w,i32_w]
                 rfl
                refine done_ (done_of HT_.out (by kernel_rfl)) ?_
                try go_wp2
                all_goals go_ret3
                all_goals exact⟨by first|rfl|(simp[errW_none,errW_some]<;>rfl)|(simp[*,errW_none,errW_some]<;>rfl),by repeat (first|(with_reducible first|exact HB.out|apply below_alloc|apply pw_below_drewN|apply below_drew1)|exact HB.out)⟩
               ·rw[if_neg c38]at H
                have c38b0:((strOfNums t118).toList==(strOfNums ((l0.take ((wrap64 (x7_5+1)):Int).toNat).drop (a1:Int).toNat)).toList)=false:=beq_eq_false_iff_ne.mpr c38;have c38b1:((strOfNums t118).toList !=(strOfNums ((l0.take ((wrap64 (x7_5+1)):Int).toNat).drop (a1:Int).toNat)).toList)=true:=bne_iff_ne.mpr c38;simp only[Option.some.injEq,Prod.mk.injEq]at H;obtain⟨rfl,rfl,rfl⟩:=H
                try go_wp2
                have n0_:=Aside0.mk (below_drew1 HB.out)
                clear HB
                have HB:=n0_
                clear n0_;obtain⟨i046,hi046,_,hsz46,_⟩:=info_parts info5;obtain⟨A46,hcut46,hA46,hC46⟩:=print_mid_of (P:=Tryd.prog) (Value.int .u8) 0 22 5 .i64 .i64 Tryd.underlying22 hi046 hsz46 A0 c0 l0 a1 (wrap64 (x7_5+1)) (of_decide_eq_true (by first|(with_reducible assumption)|assumption)) (by first|omega|exact of_decide_eq_true (by first|(with_reducible assumption)|assumption)) (of_decide_eq_true (by first|(with_reducible assumption)|assumption)) HC0.out;have HR121:=Aside0.mk (Kd.C_of_reads (h1:=fun _=>rfl) (hA46 _ (Kd.reads_of_C HR0.out)))
                have HC121:=Aside0.mk hC46
                clear hA46 hC46 hi046 hsz46;refine start_ (n:=10) (S:=fun w'=>Below w.heap.size w w') (ds:= []) #[false,false,false,false,false,false,false,false,false,false] (by kernel_rfl) rfl rfl HB.out (fun hHeld=>?_);refine with_tabW hornbookref01_Get.tab18 hornbookref01_Get.bits18 (fun HT_ HW_=>?_)
                generalize wr.drew=w45 at HB HR121 hHeld ⊢
                refine pure_ (i:=0) (N:=some 71) (v:=?_) (a':=?_) #[true,false,false,false,false,false,false,false,false,false] rfl rfl (any_of HT_.out (by kernel_rfl)) (fun _ _ _ h=>h) (Or.inl ⟨by rfl,?_⟩) ?_ ?_
                rotate_left
                ·intro w'
                 go_simp
                 with_reducible rfl
                rotate_left
                ·simp only[Act.put,List.setIfInBounds_toArray,List.set_cons_zero,List.set_cons_succ,i64_w,i32_w]
                 rfl
                refine pure_ (i:=3) (N:=some 74) (v:=?_) (a':=?_) #[true,false,false,true,false,false,false,false,false,false] rfl rfl (any_of HT_.out (by kernel_rfl)) (fun _ _ _ h=>h) (Or.inl ⟨by rfl,?_⟩) ?_ ?_
                rotate_left
                ·intro w'
                 go_simp
                 with_reducible rfl
                rotate_left
                ·simp only[Act.put,List.setIfInBounds_toArray,List.set_cons_zero,List.set_cons_succ,i64_w,i32_w]
                 rfl
                refine pure_ (i:=4) (N:=some 75) (v:=?_) (a':=?_) #[true,false,false,true,true,false,false,false,false,false] rfl rfl (any_of HT_.out (by kernel_rfl)) (fun _ _ _ h=>h) (Or.inl ⟨by rfl,?_⟩) ?_ ?_
                rotate_left
                ·intro w'
                 go_simp
                 with_reducible rfl
                rotate_left
                ·simp only[Act.put,List.setIfInBounds_toArray,List.set_cons_zero,List.set_cons_succ,i64_w,i32_w]
                 rfl
                refine pure_ (i:=5) (N:=some 76) (v:=?_) (a':=?_) #[true,false,false,true,true,true,false,false,false,false] rfl rfl (any_of HT_.out (by kernel_rfl)) (fun _ _ _ h=>h) (Or.inl ⟨by rfl,?_⟩) ?_ ?_
                rotate_left
                ·intro w'
                 go_simp
                 with_reducible rfl
                rotate_left
                ·simp only[Act.put,List.setIfInBounds_toArray,List.set_cons_zero,List.set_cons_succ,i64_w,i32_w]
                 rfl
                refine pure_ (i:=6) (N:=some 77) (v:=?_) (a':=?_) #[true,false,false,true,true,true,true,false,false,false] rfl rfl (any_of HT_.out (by kernel_rfl)) (fun _ _ _ h=>h) (Or.inl ⟨by rfl,?_⟩) ?_ ?_
                rotate_left
                ·intro w'
                 go_simp
                 with_reducible rfl
                rotate_left
                ·simp only[Act.put,List.setIfInBounds_toArray,List.set_cons_zero,List.set_cons_succ,i64_w,i32_w]
                 rfl
                refine pure_ (i:=7) (N:=some 78) (v:=?_) (a':=?_) #[true,false,false,true,true,true,true,true,false,false] rfl rfl (any_of HT_.out (by kernel_rfl)) (fun _ _ _ h=>h) (Or.inl ⟨by rfl,?_⟩) ?_ ?_
                rotate_left
                ·intro w'
                 go_simp
                 with_reducible rfl
                rotate_left
                ·simp only[Act.put,List.setIfInBounds_toArray,List.set_cons_zero,List.set_cons_succ,i64_w,i32_w]
                 rfl
                refine take_ (i:=8) (N:=some 79) (v:=?_) (a':=?_) #[true,false,false,true,true,true,true,true,true,false] rfl rfl (by kernel_rfl) (fun _ _ _ h=>h) (Or.inl ⟨by rfl,?_⟩) hHeld ?_ ?_
                rotate_left
                ·intro w' hw'
                 have hcvx:=Kd.C_string (P:=Tryd.prog) (A:=_) (c:=(c0-a1.toNat)) Tryd.underlying22 Tryd.underlying5 Tryd.underlying9 (Kd.C_below (by first|exact HR117.out|exact HR121.out) hw')
                 go_simp
                 with_reducible rfl
                rotate_left
                ·simp only[Act.put,List.setIfInBounds_toArray,List.set_cons_zero,List.set_cons_succ,i64_w,i32_w]
                 rfl
                refine one_ (i:=1) (N:=some 72) #[true,true,false,true,true,true,true,true,true,false] rfl rfl (one_of HT_.out (by kernel_rfl)) (by decide) (fun K hK=>?_)
                refine goes_ Tryd.func23 (by kernel_rfl) rfl #[.slice none 0 0, .int .i64 (wrap64 (IntKind.u64.wrap (Int.tdiv x8_3 2)))] (by rfl) rfl rfl (by(try simp only[List.map_toArray,List.map_cons,List.map_nil]);first|done|rfl|(simp only[List.length_drop,List.length_take];rfl)) ?_
                refine(hornbookref01_Put.calls k3 _ _ ([]:List Int) (wrap64 (IntKind.u64.wrap (Int.tdiv x8_3 2))) t118 _ ?side1 ?side2 A34.out).mono ?_
                (case side1=>exact Kd.C_nil _ _)
                (case side2=>exact Nat.le_refl _)
                rintro e w47 ⟨v119,rfl,ho0,hb⟩;refine⟨_,rfl,?_⟩
                have n0_:=Aside0.mk (Kd.R_lower ho0 (below_size (by repeat (first|(with_reducible first|exact HB.out|apply below_alloc|apply pw_below_drewN|apply below_drew1)|exact HB.out))))
                have n1_:=Aside0.mk (below_step (by repeat (first|(with_reducible first|exact HB.out|apply below_alloc|apply pw_below_drewN|apply below_drew1)|exact HB.out)) hb)
                clear HB
                have HO120:=n0_
                have HB:=n1_
                clear n0_ n1_
                (try clear hb)
                (try clear hb2)
                (try clear hk)
                (try clear hi)
                (try clear ho0)
                have hcv49:=Kd.C_string (P:=Tryd.prog) (A:=A46) (c:=(c0-a1.toNat)) Tryd.underlying22 Tryd.underlying5 Tryd.underlying9 (Kd.C_below HR121.out HB.out);refine hK.out _ _ HB.out (fun hHeld=>?_);clear hK K
                refine norm_ (a':=?_) ?_ ?_
                rotate_left
                ·show Act.put _ (some 72) _=_
                 simp only[Act.put,List.setIfInBounds_toArray,List.set_cons_zero,List.set_cons_succ,i64_w,i32_w];rfl
                refine one_ (i:=2) (N:=some 73) #[true,true,true,true,true,true,true,true,true,false] rfl rfl (one_of HT_.out (by kernel_rfl)) (by decide) (fun K hK=>?_);have hcv48:=own_string (P:=Tryd.prog) Tryd.underlying22 Tryd.underlying5 Tryd.underlying9 (Kd.own_of_R HO120.out)
                refine value_ (w1:=?_) (v:=?_) (by rfl) rfl ?_ ?_
                rotate_left 2
                ·go_simp
                 constructor
                 ·rfl
                 ·rfl
                clear hcv48;refine hK.out _ _ HB.out (fun hHeld=>?_);clear hK K
                refine norm_ (a':=?_) ?_ ?_
                rotate_left
                ·show Act.put _ (some 73) _=_
                 simp only[Act.put,List.setIfInBounds_toArray,List.set_cons_zero,List.set_cons_succ,i64_w,i32_w];rfl
                refine pure_ (i:=9) (N:=some 80) (v:=?_) (a':=?_) #[true,true,true,true,true,true,true,true,true,true] rfl rfl (any_of HT_.out (by kernel_rfl)) (fun _ _ _ h=>h) (Or.inl ⟨by rfl,?_⟩) ?_ ?_
                rotate_left
                ·intro w'
                 go_simp
                 with_reducible rfl
                rotate_left
                ·simp only[Act.put,List.setIfInBounds_toArray,List.set_cons_zero,List.set_cons_succ,i64_w,i32_w]
                 rfl
                refine done_ (done_of HT_.out (by kernel_rfl)) ?_
                try go_wp2
                all_goals go_ret3
                all_goals exact⟨by first|rfl|(simp[errW_none,errW_some]<;>rfl)|(simp[*,errW_none,errW_some]<;>rfl),by repeat (first|(with_reducible first|exact HB.out|apply below_alloc|apply pw_below_drewN|apply below_drew1)|exact HB.out)⟩
              ·rw[if_neg c37]at H
               exact absurd H (by simp)
             ·rw[if_neg c36]at H
              exact absurd H (by simp)
            ·rw[if_neg c35]at H
             exact absurd H (by simp)
attribute [simp] List.length_drop List.length_take
end Go.Proofs.YthnajefdiljneaaDoor.R
end
section
-- SQUEEZED
/- Layer 1: a number out of bytes, by the program and by the document. -/
set_option linter.unusedVariables false
set_option linter.unusedSimpArgs false
namespace Go.Proofs.PL
open Go.RowKit Go.Proofs.YthnajefdiljneaaDoorW.PrintWords Go.Proofs.YthnajefdiljneaaDoor.R
def encN(n:Int):List Int:=(vb (zg n)).map (fun d:Nat=>(d:Int))
def i64(n:Int):Prop:= -9223372036854775808≤n∧n≤9223372036854775807
def byt(l:List Int):Prop:= ∀x∈l,0≤x∧x<256
theorem vb_byte: ∀(m u:Nat),u≤m→ ∀x∈(vb u).map (fun d:Nat=>(d:Int)),0≤x∧x<256
 |m,u,hm=>by
  by_cases h:u<128
  ·rw[vb_small h];intro x hx;simp at hx;omega
  ·rw[vb_big (by omega)]
   intro x hx;simp only[List.map_cons,List.mem_cons]at hx
   rcases hx with rfl|hx
   ·omega
   ·match m with
    |0=>omega
    |m+1=>exact vb_byte m (u / 128) (by omega) x hx
theorem encN_byte(n:Int):byt (encN n):=fun x hx=>vb_byte _ _ (Nat.le_refl _) x hx
theorem encN_ten{n:Int}(h:i64 n):(encN n).length≤10:=by unfold encN;rw[List.length_map];exact vb_ten h.1 h.2
theorem unz_zg{n:Int}:unz (zg n)=n:=by
 unfold zg unz
 by_cases h:0≤n
 ·rw[if_pos h,if_pos (by omega)];omega
 ·rw[if_neg h,if_neg (by omega)];omega
theorem lp_enc(rest:List Int)(a1:Int)(t:List Int): ∀(m u k acc:Nat),u≤m→k+(vb u).length≤10→acc+u*2 ^ (7*k)<18446744073709551616→
  bin_Get.lp rest a1 ((vb u).map (fun d:Nat=>(d:Int))++t) k acc=
   if encN (unz (acc+u*2 ^ (7*k)))=rest.take (k+(vb u).length)then(unz (acc+u*2 ^ (7*k)),a1+((k+(vb u).length:Nat):Int),0)else(0,0,5)
 |m,u,k,acc,hm,hk,hu=>by
  by_cases h:u<128
  ·rw[vb_small h]at hk ⊢
   simp only[List.map_cons,List.map_nil,List.cons_append,List.nil_append,List.length_singleton]at hk ⊢
   unfold bin_Get.lp;rw[if_neg (by omega),if_neg (by omega),Int.toNat_natCast,Nat.mod_eq_of_lt h,Nat.mod_eq_of_lt hu]
   have e:a1+(k:Int)+1=a1+((k+1:Nat):Int):=by push_cast;omega
   rw[e];rfl
  ·have hp:=vb_pos (u / 128)
   rw[vb_big (by omega)]at hk ⊢
   simp only[List.map_cons,List.cons_append,List.length_cons]at hk ⊢
   unfold bin_Get.lp
   have hmod:(((u%128+128:Nat):Int)).toNat%128=u%128:=by rw[Int.toNat_natCast];omega
   have hpow:2 ^ (7*(k+1))=128*2 ^ (7*k):=by rw[show 7*(k+1)=7+7*k by omega,Nat.pow_add]
   have hsum:acc+u%128*2 ^ (7*k)+u / 128*2 ^ (7*(k+1))=acc+u*2 ^ (7*k):=by
    rw[hpow,←Nat.mul_assoc,Nat.add_assoc,←Nat.add_mul]
    congr 2
    omega
   have hlt:acc+u%128*2 ^ (7*k)<18446744073709551616:=by
    refine Nat.lt_of_le_of_lt ?_ hu
    rw[←hsum];omega
   rw[if_neg (by omega),if_pos (by omega),hmod,Nat.mod_eq_of_lt hlt]
   match m with
   |0=>omega
   |m+1=>
    rw[lp_enc rest a1 t m (u / 128) (k+1) _ (by omega) (by omega) (by rw[hsum];exact hu),hsum];rw[show k+1+(vb (u / 128)).length=k+((vb (u / 128)).length+1) by omega]
theorem get_enc{n:Int}(hn:i64 n)(l t:List Int)(hb:byt (l++(encN n++t)))(hl:(l++(encN n++t)).length<281474976710656):
  bin_Get.f (l++(encN n++t)) l.length=some (n,((l.length+(encN n).length:Nat):Int),0):=by
 unfold bin_Get.f;rw[if_pos ⟨hb,hl⟩,if_neg (by simp;omega),Int.toNat_natCast,List.drop_left]
 have h10:=encN_ten hn
 have hz:=zg_lt hn.1 hn.2
 have e:=lp_enc (encN n++t) l.length t (zg n) (zg n) 0 0 (Nat.le_refl _) (by unfold encN at h10;rw[List.length_map]at h10;omega) (by simpa using hz)
 simp only[Nat.mul_zero,Nat.pow_zero,Nat.mul_one,Nat.zero_add]at e;rw[unz_zg]at e
 have hlen:(vb (zg n)).length=(encN n).length:=by unfold encN;rw[List.length_map]
 rw[hlen,List.take_left,if_pos rfl]at e;show some (bin_Get.lp (encN n++t) l.length (encN n++t) 0 0)=_
 rw[show encN n++t=(vb (zg n)).map (fun d:Nat=>(d:Int))++t from rfl]at e ⊢
 rw[e]
 push_cast
 rfl
theorem wr(n:Int)(h0: -9223372036854775808≤n)(h1:n≤9223372036854775807):wrap64 n=n:=wrap_in n h0 h1
theorem u64_nat{n:Int}(h0:0≤n)(h1:n<18446744073709551616):IntKind.u64.wrap n=n:=PlainAid.u64_nonneg h0 (by omega)
theorem rput_ev: ∀(m u:Nat) (acc:List Int),u≤m→u<18446744073709551616→acc.length+(vb u).length<140737488355328→Ev (fun k=>hornbookref01_Put.l0 k acc (u:Int)) (acc++(vb u).map (fun d:Nat=>(d:Int)))
 |m,u,acc,hm,hu,hl=>by
  have hp:=vb_pos u
  refine Ev.step (fun k=>by rw[hornbookref01_Put.l0]) ?_
  by_cases h:u<128
  ·refine Ev.neg (by omega) (Ev.pos (by omega) (Ev.pure ?_))
   rw[vb_small h,show(u:Int)%256=u by omega];rfl
  ·refine Ev.pos (by omega) (Ev.pos (by omega) ?_)
   have e1:((u:Int).tmod 128+128)%256=((u%128+128:Nat):Int):=by
    rw[Int.tmod_eq_emod_of_nonneg (by omega)];omega
   have e2:IntKind.u64.wrap ((u:Int).tdiv 128)=((u / 128:Nat):Int):=by
    rw[Int.tdiv_eq_ediv_of_nonneg (by omega),u64_nat (by omega) (by omega)];omega
   rw[e1,e2]
   match m with
   |0=>omega
   |m+1=>
    rw[vb_big (by omega)]at hl ⊢
    simp only[List.length_cons]at hl
    have ih:=rput_ev m (u / 128) (acc++ [((u%128+128:Nat):Int)]) (by omega) (by omega) (by rw[List.length_append,List.length_singleton];omega)
    rw[List.append_assoc]at ih;exact ih
theorem refPut_ev{n:Int}(hn:i64 n):Ev (fun k=>hornbookref01_Put.f k [] n) (encN n):=by
 obtain⟨h0,h1⟩:=hn
 have hz:=zg_lt h0 h1
 have h10:=vb_ten h0 h1
 unfold hornbookref01_Put.f encN;refine Ev.pos (by decide) (Ev.then rfl (Ev.ite (fun h=>?_) (fun h=>?_)))
 ·have e:IntKind.u64.wrap ((IntKind.u64.wrap ((IntKind.u64.wrap (wrap64 (-(wrap64 (n+1)))))*2))+1)=((zg n:Nat):Int):=by
   rw[wr (n+1) (by omega) (by omega),wr _ (by omega) (by omega),u64_nat (n:= -(n+1)) (by omega) (by omega),u64_nat (n:= -(n+1)*2) (by omega) (by omega),u64_nat (by omega) (by omega)];unfold zg;rw[if_neg (by omega)];omega
  rw[e];exact Ev.step (fun k=>by rw[hornbookref01_Put.j0];rfl) (rput_ev _ _ [] (Nat.le_refl _) hz (by rw[List.length_nil];omega))
 ·have e:IntKind.u64.wrap ((IntKind.u64.wrap n)*2)=((zg n:Nat):Int):=by
   rw[u64_nat (n:=n) (by omega) (by omega),u64_nat (by omega) (by omega)];unfold zg;rw[if_pos (by omega)];omega
  rw[e];exact Ev.step (fun k=>by rw[hornbookref01_Put.j0];rfl) (rput_ev _ _ [] (Nat.le_refl _) hz (by rw[List.length_nil];omega))
def val:List Int→Nat
 | []=>0
 |c::t=>c.toNat%128+128*val t
theorem val_snoc: ∀(l:List Int) (c:Int),val (l++ [c])=val l+c.toNat%128*2 ^ (7*l.length)
 | [],c=>by simp[val]
 |x::l,c=>by
  simp only[List.cons_append,val,val_snoc l c,List.length_cons];rw[show 7*(l.length+1)=7+7*l.length by omega,Nat.pow_add,Nat.mul_add,show(2:Nat) ^ 7=128 from rfl,←Nat.mul_assoc,←Nat.mul_assoc,Nat.mul_comm 128 (c.toNat%128),Nat.add_assoc]
theorem str_inj{a b:List Int}(ha:byt a)(hb:byt b):(strOfNums a).toList=(strOfNums b).toList↔a=b:=by
 have key: ∀l:List Int,(strOfNums l).toList=l.map fun x=>UInt8.ofNat x.toNat:=fun l=>by rw[ByteArray.toList_eq];simp[strOfNums]
 rw[key,key];constructor
 ·intro h
  have inj: ∀(a b:List Int),byt a→byt b→(a.map fun x=>UInt8.ofNat x.toNat)=(b.map fun x=>UInt8.ofNat x.toNat)→a=b:=by
   intro a
   induction a with
   |nil=>intro b _ _ h;cases b with
    |nil=>rfl
    |cons y b=>simp at h
   |cons x a ih=>
    intro b ha hb h
    cases b with
    |nil=>simp at h
    |cons y b=>
     simp only[List.map_cons,List.cons.injEq]at h
     have h1:=ha x List.mem_cons_self
     have h2:=hb y List.mem_cons_self
     have h3:=congrArg UInt8.toNat h.1
     rw[UInt8.toNat_ofNat_of_lt' (by simp[UInt8.size];omega),UInt8.toNat_ofNat_of_lt' (by simp[UInt8.size];omega)]at h3;rw[ih b (fun z hz=>ha z (List.mem_cons_of_mem _ hz)) (fun z hz=>hb z (List.mem_cons_of_mem _ hz)) h.2]
     congr 1;omega
  exact inj a b ha hb h
 ·intro h;rw[h]
theorem rd_drop{l:List Int}{a i:Nat}(h:a+i<l.length):rd l ((a+i:Nat):Int)=(l.drop a).getD i 0:=by
 unfold rd;rw[Int.toNat_natCast,List.getD_eq_getElem?_getD,List.getD_eq_getElem?_getD,List.getElem?_drop]
theorem fold_ev{l:List Int}{a m:Nat}(hb:byt l)(hm:a+m<l.length)(hl:l.length<281474976710656){R:Int×Int×Int}
  (hfin:Ev (fun k=>hornbookref01_Get.l1 k l a ((a+m:Nat):Int) ((val ((l.drop a).take (m+1))%18446744073709551616:Nat):Int) ((a:Int)-1)) R):
  ∀i:Nat,i≤m+1→Ev (fun k=>hornbookref01_Get.l1 k l a ((a+m:Nat):Int) ((val (((l.drop a).take (m+1)).drop i)%18446744073709551616:Nat):Int) ((a:Int)+i-1)) R
 |0,_=>by simpa using hfin
 |i+1,hi=>by
  have ih:=fold_ev hb hm hl hfin i (by omega)
  have hlt:i<((l.drop a).take (m+1)).length:=by rw[List.length_take,List.length_drop];omega
  have hd:((l.drop a).take (m+1)).drop i=((l.drop a).take (m+1)).getD i 0::((l.drop a).take (m+1)).drop (i+1):=by
   rw[List.drop_eq_getElem_cons hlt,List.getD_eq_getElem?_getD,List.getElem?_eq_getElem hlt];rfl
  have hg:((l.drop a).take (m+1)).getD i 0=rd l ((a+i:Nat):Int):=by
   rw[rd_drop (by omega),List.getD_eq_getElem?_getD,List.getD_eq_getElem?_getD,List.getElem?_take,if_pos (by omega)]
  have hr:0≤rd l ((a+i:Nat):Int)∧rd l ((a+i:Nat):Int)<256:=by
   rw[←hg];refine hb _ (List.mem_of_mem_drop (List.mem_of_mem_take (List.mem_of_mem_drop (i:=i) (by rw[hd];exact List.mem_cons_self))))
  rw[hd,hg]at ih
  generalize ((l.drop a).take (m+1)).drop (i+1)=t at*
  have e0:(a:Int)+((i+1:Nat):Int)-1=((a+i:Nat):Int):=by push_cast;omega
  rw[e0]
  refine Ev.step (fun k=>by rw[hornbookref01_Get.l1]) ?_
  refine Ev.pos (by omega) (Ev.pos (by omega) (Ev.pos (by omega) ?_))
  generalize rd l ((a+i:Nat):Int)=c at*
  have hv:val t%18446744073709551616<18446744073709551616:=Nat.mod_lt _ (by decide)
  have e1:IntKind.u64.wrap ((IntKind.u64.wrap (((val t%18446744073709551616:Nat):Int)*128))+(IntKind.u64.wrap (c.tmod 128)))=((val (c::t)%18446744073709551616:Nat):Int):=by
   rw[Int.tmod_eq_emod_of_nonneg hr.1,u64_nat (n:=c%128) (by omega) (by omega)];simp only[val,IntKind.wrap_u64];omega
  have e2:wrap64 (((a+i:Nat):Int)-1)=(a:Int)+i-1:=by rw[wr _ (by omega) (by omega)];push_cast;rfl
  rw[e1,e2];exact ih
theorem unz_of{U:Nat}(hU:U<18446744073709551616):((U:Int).tmod 2=1→wrap64 ((wrap64 (-(wrap64 (IntKind.u64.wrap ((U:Int).tdiv 2)))))-1)=unz U)∧(¬(U:Int).tmod 2=1→wrap64 (IntKind.u64.wrap ((U:Int).tdiv 2))=unz U):=by
 have e:(U:Int).tdiv 2=((U / 2:Nat):Int):=by rw[Int.tdiv_eq_ediv_of_nonneg (by omega)];omega
 have e2:(U:Int).tmod 2=((U%2:Nat):Int):=by rw[Int.tmod_eq_emod_of_nonneg (by omega)];omega
 rw[e,e2,u64_nat (n:=((U / 2:Nat):Int)) (by omega) (by omega),wr ((U / 2:Nat):Int) (by omega) (by omega)];unfold unz;constructor
 ·intro h;rw[if_neg (by omega),wr (-((U / 2:Nat):Int)) (by omega) (by omega),wr _ (by omega) (by omega)]
 ·intro h;rw[if_pos (by omega)]
theorem fin_ev{l:List Int}{a m:Nat}(hb:byt l)(hm:a+m<l.length)(hl:l.length<281474976710656){U:Nat}(hU:U<18446744073709551616):
  Ev (fun k=>hornbookref01_Get.l1 k l a ((a+m:Nat):Int) ((U:Nat):Int) ((a:Int)-1)) (if encN (unz U)=(l.drop a).take (m+1)then(unz U,(a:Int)+m+1,0)else(0,0,5)):=by
 obtain⟨hodd,heven⟩:=unz_of hU
 have hin:=unz_in hU
 have ew:wrap64 (((a+m:Nat):Int)+1)=(a:Int)+m+1:=by rw[wr _ (by omega) (by omega)];push_cast;rfl
 have et:(l.take ((a:Int)+m+1).toNat).drop (a:Int).toNat=(l.drop a).take (m+1):=by
  rw[show((a:Int)+m+1).toNat=a+(m+1) by omega,Int.toNat_natCast,List.drop_take];congr 1;omega
 have hbt:byt ((l.drop a).take (m+1)):=fun x hx=>hb x (List.mem_of_mem_drop (List.mem_of_mem_take hx))
 refine Ev.step (fun k=>by rw[hornbookref01_Get.l1]) ?_
 refine Ev.neg (by omega) (Ev.ite (fun h=>?_) (fun h=>?_))
 ·rw[hodd h,ew,et]
  refine Ev.bind (refPut_ev hin) (Ev.pos (by omega) (Ev.pos (by omega) (Ev.pos (by omega) ?_)))
  have hs:=str_inj (encN_byte (unz U)) hbt
  by_cases hq:encN (unz U)=(l.drop a).take (m+1)
  ·rw[if_pos hq];exact Ev.pos (hs.2 hq) (Ev.pure rfl)
  ·rw[if_neg hq];exact Ev.neg (fun h'=>hq (hs.1 h')) (Ev.pure rfl)
 ·rw[heven h,ew,et]
  refine Ev.bind (refPut_ev hin) (Ev.pos (by omega) (Ev.pos (by omega) (Ev.pos (by omega) ?_)))
  have hs:=str_inj (encN_byte (unz U)) hbt
  by_cases hq:encN (unz U)=(l.drop a).take (m+1)
  ·rw[if_pos hq];exact Ev.pos (hs.2 hq) (Ev.pure rfl)
  ·rw[if_neg hq];exact Ev.neg (fun h'=>hq (hs.1 h')) (Ev.pure rfl)
theorem walk_ev{l:List Int}{a:Nat}(hb:byt l)(ha:a≤l.length)(hl:l.length<281474976710656): ∀(t:List Int) (k:Nat),k≤10→(l.drop a).drop k=t→a+k+t.length=l.length→
  Ev (fun n=>hornbookref01_Get.l0 n l a ((a+k:Nat):Int)) (bin_Get.lp (l.drop a) a t k (val ((l.drop a).take k)%18446744073709551616))
 | [],k,hk,hd,hn=>by
   simp only[List.length_nil,Nat.add_zero]at hn;unfold bin_Get.lp;refine Ev.step (fun n=>by rw[hornbookref01_Get.l0]) (Ev.neg (by omega) (Ev.step (fun n=>by rw[hornbookref01_Get.j2]) ?_))
   have e:wrap64 (((a+k:Nat):Int)-(a:Int))=k:=by rw[wr _ (by omega) (by omega)];omega
   have hr:(l.drop a).length=k:=by rw[List.length_drop];omega
   rw[e,hr]
   by_cases h:10≤k
   ·rw[if_pos h];exact Ev.pos (by omega) (Ev.pure rfl)
   ·rw[if_neg h];exact Ev.neg (by omega) (Ev.pos (by omega) (Ev.pure rfl))
 |c::t,k,hk,hd,hn=>by
  simp only[List.length_cons]at hn
  have hlt:k<(l.drop a).length:=by rw[List.length_drop];omega
  have hc:rd l ((a+k:Nat):Int)=c:=by
   rw[rd_drop (by omega),List.getD_eq_getElem?_getD,List.getElem?_eq_getElem hlt];have:=List.drop_eq_getElem_cons hlt;rw[hd]at this;simp only[List.cons.injEq]at this;rw[this.1];rfl
  have hd2:(l.drop a).drop (k+1)=t:=by
   have:=List.drop_eq_getElem_cons hlt;rw[hd]at this;simp only[List.cons.injEq]at this;exact this.2.symm
  have hcb:0≤c∧c<256:=hb c (List.mem_of_mem_drop (List.mem_of_mem_drop (i:=k) (by rw[hd];exact List.mem_cons_self)))
  have htk:(l.drop a).take (k+1)=(l.drop a).take k++ [c]:=by
   rw[List.take_succ_eq_append_getElem hlt];have:=List.drop_eq_getElem_cons hlt;rw[hd]at this;simp only[List.cons.injEq]at this;rw[this.1]
  have hval:(val ((l.drop a).take k)%18446744073709551616+c.toNat%128*2 ^ (7*k))%18446744073709551616=val ((l.drop a).take (k+1))%18446744073709551616:=by
   rw[htk,val_snoc,List.length_take,Nat.min_eq_left (by omega),Nat.mod_add_mod]
  have e:wrap64 (((a+k:Nat):Int)-(a:Int))=k:=by rw[wr _ (by omega) (by omega)];omega
  have j2: ¬c≥128∨ ¬k<10→Ev (fun n=>hornbookref01_Get.j2 n l a ((a+k:Nat):Int)) (bin_Get.lp (l.drop a) a (c::t) k (val ((l.drop a).take k)%18446744073709551616)):=by
   intro hor;unfold bin_Get.lp
   refine Ev.step (fun n=>by rw[hornbookref01_Get.j2]) ?_
   rw[e]
   by_cases h10:k=10
   ·rw[if_pos h10];exact Ev.pos (by omega) (Ev.pure rfl)
   ·rw[if_neg h10,if_neg (by omega),hval]
    refine Ev.neg (by omega) (Ev.neg (by omega) ?_);have hz:((l.drop a).take (k+1)).drop (k+1)= []:=List.drop_eq_nil_of_le (by rw[List.length_take];omega);have h:=fold_ev (a:=a) (m:=k) hb (by omega) hl (fin_ev hb (by omega) hl (Nat.mod_lt _ (by decide))) (k+1) (Nat.le_refl _);rw[hz]at h
    have e0:(a:Int)+((k+1:Nat):Int)-1=((a+k:Nat):Int):=by push_cast;omega
    rw[e0]at h;exact h
  refine Ev.step (fun n=>by rw[hornbookref01_Get.l0]) (Ev.pos (by omega) (Ev.pos (by omega) ?_));rw[hc,e]
  by_cases h:c≥128
  ·refine Ev.pos h ?_
   by_cases hk10:k<10
   ·refine Ev.pos (by omega) ?_
    have ew:wrap64 (((a+k:Nat):Int)+1)=((a+(k+1):Nat):Int):=by rw[wr _ (by omega) (by omega)];push_cast;omega
    rw[ew]
    have ih:=walk_ev hb ha hl t (k+1) (by omega) hd2 (by omega)
    unfold bin_Get.lp;rw[if_neg (by omega),if_pos h,hval];exact ih
   ·exact Ev.neg (by omega) (j2 (.inr hk10))
  ·exact Ev.neg h (j2 (.inl h))
theorem refGet_ev{l:List Int}(hb:byt l)(hl:l.length<281474976710656)(a:Int): ∃r,bin_Get.f l a=some r∧Ev (fun k=>hornbookref01_Get.f k l a) r:=by
 unfold bin_Get.f hornbookref01_Get.f;rw[if_pos ⟨hb,hl⟩];refine⟨_,rfl,?_⟩
 by_cases h:a<0
 ·rw[if_pos (.inl h)]
  refine Ev.pos h (Ev.step (fun n=>by rw[hornbookref01_Get.j0]) (Ev.pos rfl (Ev.pure rfl)))
 ·refine Ev.neg h (Ev.step (fun n=>by rw[hornbookref01_Get.j0]) ?_)
  by_cases h2:(l.length:Int)<a
  ·rw[if_pos (.inr h2)]
   exact Ev.pos (by simpa using h2) (Ev.pure rfl)
  ·rw[if_neg (by omega)]
   refine Ev.neg (by simpa using h2) ?_
   obtain⟨n,rfl⟩:=Int.eq_ofNat_of_zero_le (show 0≤a by omega);rw[Int.toNat_natCast];have:=walk_ev (a:=n) hb (by omega) hl (l.drop n) 0 (by omega) rfl (by rw[List.length_drop];omega)
   simpa [val]using this
theorem lp_res(rest:List Int)(a1:Int): ∀(t:List Int) (k u:Nat),k+t.length=rest.length→u<18446744073709551616→
  (∃e,bin_Get.lp rest a1 t k u=(0,0,e)∧(e=4∨e=5))∨ ∃(n:Int) (m:Nat),bin_Get.lp rest a1 t k u=(n,a1+m,0)∧i64 n∧encN n=rest.take m∧m≤rest.length
 | [],k,u,_,_=>by
   unfold bin_Get.lp;split
   ·exact .inl ⟨5,rfl, .inr rfl⟩
   ·exact .inl ⟨4,rfl, .inl rfl⟩
 |c::t,k,u,hk,hu=>by
  simp only[List.length_cons]at hk;unfold bin_Get.lp;split
  ·exact .inl ⟨5,rfl, .inr rfl⟩
  ·split
   ·exact lp_res rest a1 t (k+1) _ (by omega) (Nat.mod_lt _ (by decide))
   ·split
    ·rename_i h
     refine .inr ⟨_,k+1,?_,unz_in (Nat.mod_lt _ (by decide)),h,by omega⟩;rw[show a1+(k:Int)+1=a1+((k+1:Nat):Int) by push_cast;omega]
    ·exact .inl ⟨5,rfl, .inr rfl⟩
theorem get_res{l:List Int}(hb:byt l)(hl:l.length<281474976710656)(a:Int):
  (∃e,bin_Get.f l a=some (0,0,e)∧(e=3∨e=4∨e=5))∨ ∃(i:Nat) (n:Int) (t:List Int),a=i∧i≤l.length∧i64 n∧bin_Get.f l a=some (n,((i+(encN n).length:Nat):Int),0)∧l=l.take i++(encN n++t):=by
 unfold bin_Get.f;rw[if_pos ⟨hb,hl⟩]
 by_cases h:a<0∨(l.length:Int)<a
 ·rw[if_pos h];exact .inl ⟨3,rfl, .inl rfl⟩
 ·rw[if_neg h]
  obtain⟨i,rfl⟩:=Int.eq_ofNat_of_zero_le (show 0≤a by omega);rw[Int.toNat_natCast]
  rcases lp_res (l.drop i) i (l.drop i) 0 0 (by omega) (by decide)with⟨e,h1,h2⟩|⟨n,m,h1,h2,h3,h4⟩
  ·rw[h1];exact .inl ⟨e,rfl, .inr h2⟩
  ·rw[h1]
   have hlen:(encN n).length=m:=by rw[h3,List.length_take];omega
   refine .inr ⟨i,n,(l.drop i).drop m,rfl,by omega,h2,?_,?_⟩
   ·rw[hlen];push_cast;rfl
   ·rw[h3,List.take_append_drop,List.take_append_drop]
end Go.Proofs.PL
end
