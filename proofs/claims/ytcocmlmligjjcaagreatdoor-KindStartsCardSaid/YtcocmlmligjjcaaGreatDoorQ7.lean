-- SQUEEZED
-- Written by the program wip/tools/mp.py of this work, which drives the print of the kit; hand texts of this session among it.
import Derived.Test.YtcocmlmligjjcaaGreatDoorQ0
import Derived.Test.YtcocmlmligjjcaaGreatDoorQ1
import Derived.Test.YtcocmlmligjjcaaGreatDoorQ3
import Derived.Test.YtcocmlmligjjcaaGreatDoorQ5
import Derived.Test.YtcocmlmligjjcaaGreatDoorQ6
namespace Go.Proofs.YtcocmlmligjjcaaGreatDoor.Q
open Go.RowKit Go.Proofs.HW Go.Proofs.YtcocmlmligjjcaaGreatDoorW.PrintWords Go.Proofs.YtcocmlmligjjcaaGreatDoorW.PrintLast
set_option linter.unusedVariables false
set_option linter.unusedSimpArgs false
def desc_Sig.l0:Nat→ByteArray→List ByteArray→List ByteArray→Int→Int→Option (ByteArray×Int)
 |0,_,_,_,_,_=>none
 |k+1,x0,x1,x11,x12,x13=>if x13<x12 then(if 0≤x13 then(if x13<(x11.length:Int)then((desc_Right.f k (rdOf ByteArray.empty x11 x13)).bind fun t130=>(if t130=true then(desc_Sig.l0 k x0 x1 x11 x12 (wrap64 (x13+1)))else(some ((⟨#[]⟩:ByteArray),10))))else(none))else(none))else(if x0.toList=([86]:List UInt8)then((strings_Join.f x1 (⟨#[]⟩:ByteArray)).bind fun t131=>(if 1+t131.size≤9223372036854775807 then(if((⟨#[40]⟩:ByteArray)++t131).size+1≤9223372036854775807 then(if(((⟨#[40]⟩:ByteArray)++t131)++(⟨#[41]⟩:ByteArray)).size+x0.size≤9223372036854775807 then(some ((((⟨#[40]⟩:ByteArray)++t131)++(⟨#[41]⟩:ByteArray))++x0,0))else(none))else(none))else(none)))else((desc_Right.f k x0).bind fun t132=>(if t132=true then((strings_Join.f x1 (⟨#[]⟩:ByteArray)).bind fun t133=>(if 1+t133.size≤9223372036854775807 then(if((⟨#[40]⟩:ByteArray)++t133).size+1≤9223372036854775807 then(if(((⟨#[40]⟩:ByteArray)++t133)++(⟨#[41]⟩:ByteArray)).size+x0.size≤9223372036854775807 then(some ((((⟨#[40]⟩:ByteArray)++t133)++(⟨#[41]⟩:ByteArray))++x0,0))else(none))else(none))else(none)))else(some ((⟨#[]⟩:ByteArray),10)))))
def desc_Sig.f(k:Nat)(a0:ByteArray)(l1:List ByteArray):Option (ByteArray×Int):=if(l1.length:Int)>6 then(some ((⟨#[]⟩:ByteArray),2))else(desc_Sig.l0 k a0 l1 l1 (l1.length:Int) 0)
set_option maxHeartbeats 8000000 in
set_option maxRecDepth 100000 in
theorem desc_Sig.calls(k:Nat)(a0:ByteArray)(A1:Option Addr)(c1:Nat)(l1:List ByteArray)(r1:ByteArray)(r2:Int)(w:World)(hr1:Kd.C Kd.string w A1 l1.length l1)(hc1:l1.length≤c1)(h:desc_Sig.f k a0 l1=some (r1,r2)):
  Calls Tryz.prog 182 #[.string a0, .slice A1 l1.length c1] w fun e w'=>e= .returned (.tuple #[.string r1, .int .i64 r2])∧Below w.heap.size w w':=by
 have HR1:=Aside0.mk hr1
 have HC1:=Aside0.mk hc1
 clear hr1 hc1
 have HB:=Aside0.mk (Below.refl w.heap.size w)
 have H:(if(l1.length:Int)>6 then(some ((⟨#[]⟩:ByteArray),2))else(desc_Sig.l0 k a0 l1 l1 (l1.length:Int) 0))=some (r1,r2):=h;clear h
 by_cases c3:(l1.length:Int)>6
 ·rw[if_pos c3]at H
  have c3b0:decide (6<(l1.length:Int))=true:=decide_eq_true c3;have c3b1:decide (6<l1.length)=true:=decide_eq_true (by omega);clear c3;simp only[Option.some.injEq,Prod.mk.injEq]at H;obtain⟨rfl,rfl⟩:=H
  go_enter Tryz.func182,Tryz.ntmps182
  go_wp2
  all_goals go_ret2
  all_goals exact⟨by first|rfl|(simp[errW_none,errW_some]<;>rfl)|(simp[*,errW_none,errW_some]<;>rfl),by repeat (first|(with_reducible first|exact HB.out|apply below_alloc|apply pw_below_drewN|apply below_drew1)|exact HB.out)⟩
 ·rw[if_neg c3]at H
  have c3b0:decide (6<(l1.length:Int))=false:=decide_eq_false c3;have c3b1:decide (6<l1.length)=false:=decide_eq_false (by omega);clear c3;have H':=Aside0.mk H;clear H
  go_enter Tryz.func182,Tryz.ntmps182
  go_wp2
  go_loopg [13] k (fun kq v13 w'=> ∃(x13_1:Int),v13= .int .i64 x13_1∧Aside0 (desc_Sig.l0 kq a0 l1 l1 (l1.length:Int) x13_1=some (r1,r2))∧Aside0 (kq≤k)∧Aside0 (Below w.heap.size w w'))
  case atStart=>exact⟨(0),(by first|rfl|(simp;done)|(simp[*];done)),H',⟨Nat.le_refl _⟩,⟨by repeat (first|(with_reducible first|exact HB.out|apply below_alloc|apply pw_below_drewN|apply below_drew1)|exact HB.out)⟩⟩
  case round=>
   clear H';(try clear c1);(try clear p2);(try clear c3);(try clear c3b0);(try clear c3b1);obtain⟨x13_1,rfl,HA,HK1,HB⟩:=hrel
   cases gk with
   |zero=>exact absurd HA.out (by simp[desc_Sig.l0])
   |succ k1=>
    have H:=HA.out
    clear HA;simp only[desc_Sig.l0]at H
    by_cases c4:x13_1<(l1.length:Int)
    ·rw[if_pos c4]at H
     have c4b0:decide (x13_1<(l1.length:Int))=true:=decide_eq_true c4;clear c4
     by_cases c5:0≤x13_1
     ·rw[if_pos c5]at H
      have c5b0:decide (0≤x13_1)=true:=decide_eq_true c5;clear c5
      by_cases c6:x13_1<(l1.length:Int)
      ·rw[if_pos c6]at H
       have c6b0:decide (x13_1<(l1.length:Int))=true:=decide_eq_true c6;clear c6;replace H:=Option.bind_eq_some_iff.mp H;obtain⟨t130,A70,H⟩:=H;replace H:(if t130=true then(desc_Sig.l0 k1 a0 l1 l1 (l1.length:Int) (wrap64 (x13_1+1)))else(some ((⟨#[]⟩:ByteArray),10)))=some (r1,r2):=H
       have A7:=Aside0.mk A70
       clear A70
       by_cases c8:t130=true
       ·subst c8
        have H1:(desc_Sig.l0 k1 a0 l1 l1 (l1.length:Int) (wrap64 (x13_1+1)))=some (r1,r2):=by rw[if_pos rfl]at H;exact H
        clear H
        have H:=H1
        clear H1;have H':=Aside0.mk H;clear H;have p129:0≤(x13_1:Int):=of_decide_eq_true (by first|(with_reducible assumption)|assumption);have q129:x13_1<(l1.length:Int):=of_decide_eq_true (by first|(with_reducible assumption)|assumption);obtain⟨ad129,e129,hx129_0⟩:=Kd.at_string HR1.out x13_1 p129 q129;cases e129;replace hx129_0:=(HB.out.cell (World.block_lt_of_cell? w _ hx129_0)).trans hx129_0;replace p129:=eq_true p129;replace q129:=eq_true q129
        go_wp2_with (first|((with_reducible refine gate_callee (f:=222) rfl ?_);refine goesL_ (some 18) rfl rfl Tryz.func222 (by kernel_rfl) rfl #[.string (rdOf ByteArray.empty l1 x13_1)] rfl (by(try simp only[List.map_toArray,List.map_cons,List.map_nil]);first|done|rfl|(simp only[List.length_drop,List.length_take];rfl)) ?_;(with_reducible refine(desc_Right.calls k1 (rdOf ByteArray.empty l1 x13_1) true _ A7.out).mono ?_);rintro e w' ⟨rfl,⟨nd,rfl⟩⟩;refine⟨_,rfl,?_⟩))
        go_roundg k1
        case measure=>have:=HK1.out;omega
        case rel=>exact⟨(wrap64 (x13_1+1)),(by first|rfl|(simp;done)|(simp[*];done)),H',⟨by have:=HK1.out;omega⟩,⟨by repeat (first|(with_reducible first|exact HB.out|apply below_alloc|apply pw_below_drewN|apply below_drew1)|exact HB.out)⟩⟩
       ·replace c8:=Bool.eq_false_iff.mpr c8
        subst c8
        have H1:(some ((⟨#[]⟩:ByteArray),10))=some (r1,r2):=by rw[if_neg (show¬(false=true) by decide)]at H;exact H
        clear H
        have H:=H1
        clear H1;simp only[Option.some.injEq,Prod.mk.injEq]at H;obtain⟨rfl,rfl⟩:=H;have p129:0≤(x13_1:Int):=of_decide_eq_true (by first|(with_reducible assumption)|assumption);have q129:x13_1<(l1.length:Int):=of_decide_eq_true (by first|(with_reducible assumption)|assumption);obtain⟨ad129,e129,hx129_0⟩:=Kd.at_string HR1.out x13_1 p129 q129;cases e129;replace hx129_0:=(HB.out.cell (World.block_lt_of_cell? w _ hx129_0)).trans hx129_0;replace p129:=eq_true p129;replace q129:=eq_true q129
        go_wp2_with (first|((with_reducible refine gate_callee (f:=222) rfl ?_);refine goesL_ (some 18) rfl rfl Tryz.func222 (by kernel_rfl) rfl #[.string (rdOf ByteArray.empty l1 x13_1)] rfl (by(try simp only[List.map_toArray,List.map_cons,List.map_nil]);first|done|rfl|(simp only[List.length_drop,List.length_take];rfl)) ?_;(with_reducible refine(desc_Right.calls k1 (rdOf ByteArray.empty l1 x13_1) false _ A7.out).mono ?_);rintro e w' ⟨rfl,⟨nd,rfl⟩⟩;refine⟨_,rfl,?_⟩))
        all_goals go_ret2
        all_goals exact⟨by first|rfl|(simp[errW_none,errW_some]<;>rfl)|(simp[*,errW_none,errW_some]<;>rfl),by repeat (first|(with_reducible first|exact HB.out|apply below_alloc|apply pw_below_drewN|apply below_drew1)|exact HB.out)⟩
      ·rw[if_neg c6]at H
       exact absurd H (by simp)
     ·rw[if_neg c5]at H
      exact absurd H (by simp)
    ·rw[if_neg c4]at H
     have c4b0:decide (x13_1<(l1.length:Int))=false:=decide_eq_false c4;clear c4
     by_cases c9:a0.toList=([86]:List UInt8)
     ·rw[if_pos c9]at H
      have c9b0:(a0.toList==([86]:List UInt8))=true:=beq_iff_eq.mpr c9;have c9b1:(a0.toList !=([86]:List UInt8))=false:=bne_eq_false_iff_eq.mpr c9;clear c9;replace H:=Option.bind_eq_some_iff.mp H;obtain⟨t131,A100,H⟩:=H;replace H:(if 1+t131.size≤9223372036854775807 then(if((⟨#[40]⟩:ByteArray)++t131).size+1≤9223372036854775807 then(if(((⟨#[40]⟩:ByteArray)++t131)++(⟨#[41]⟩:ByteArray)).size+a0.size≤9223372036854775807 then(some ((((⟨#[40]⟩:ByteArray)++t131)++(⟨#[41]⟩:ByteArray))++a0,0))else(none))else(none))else(none))=some (r1,r2):=H
      have A10:=Aside0.mk A100
      clear A100
      by_cases c11:1+t131.size≤9223372036854775807
      ·rw[if_pos c11]at H
       have c11b0:=eq_true c11
       have c11b1:decide (1+t131.size≤9223372036854775807)=true:=decide_eq_true c11
       try have c11b2:(9223372036854775807<1+t131.size)=False:=eq_false (Nat.not_lt.2 c11)
       by_cases c12:((⟨#[40]⟩:ByteArray)++t131).size+1≤9223372036854775807
       ·rw[if_pos c12]at H
        have c12b0:=eq_true c12
        have c12b1:decide (((⟨#[40]⟩:ByteArray)++t131).size+1≤9223372036854775807)=true:=decide_eq_true c12
        try have c12b2:(9223372036854775807<((⟨#[40]⟩:ByteArray)++t131).size+1)=False:=eq_false (Nat.not_lt.2 c12)
        try have c12bx:(9223372036854775807<1+t131.size+1)=False:=eq_false (Nat.not_lt.2 (by have h_:=c12;simp only[ByteArray.size_append]at h_;exact h_))
        by_cases c13:(((⟨#[40]⟩:ByteArray)++t131)++(⟨#[41]⟩:ByteArray)).size+a0.size≤9223372036854775807
        ·rw[if_pos c13]at H
         have c13b0:=eq_true c13
         have c13b1:decide ((((⟨#[40]⟩:ByteArray)++t131)++(⟨#[41]⟩:ByteArray)).size+a0.size≤9223372036854775807)=true:=decide_eq_true c13
         try have c13b2:(9223372036854775807<(((⟨#[40]⟩:ByteArray)++t131)++(⟨#[41]⟩:ByteArray)).size+a0.size)=False:=eq_false (Nat.not_lt.2 c13)
         try have c13bx:(9223372036854775807<1+t131.size+1+a0.size)=False:=eq_false (Nat.not_lt.2 (by have h_:=c13;simp only[ByteArray.size_append]at h_;exact h_))
         simp only[Option.some.injEq,Prod.mk.injEq]at H;obtain⟨rfl,rfl⟩:=H
         go_wp2_with (first|((with_reducible refine gate_callee (f:=261) rfl ?_);refine goesL_ (some 29) rfl rfl Tryz.func261 (by kernel_rfl) rfl #[.slice A1 l1.length c1, .string (⟨#[]⟩:ByteArray)] rfl (by(try simp only[List.map_toArray,List.map_cons,List.map_nil]);first|done|rfl|(simp only[List.length_drop,List.length_take];rfl)) ?_;(with_reducible refine(strings_Join.calls _ _ l1 (⟨#[]⟩:ByteArray) t131 _ ?side1 ?side2 A10.out).mono ?_);(case side1=>repeat (first|exact(Kd.C_below HR1.out HB.out)|(with_reducible refine Kd.C_alloc ?_ _)|(with_reducible refine Kd.C_drewN ?_ _)|(with_reducible refine Kd.C_drew ?_)));(case side2=>exact HC1.out);rintro e w14 ⟨rfl,hb⟩;refine⟨_,rfl,?_⟩;have n0_:=Aside0.mk (below_step (by repeat (first|(with_reducible first|exact HB.out|apply below_alloc|apply pw_below_drewN|apply below_drew1)|exact HB.out)) hb);clear HB;have HB:=n0_;clear n0_;(try clear hb);(try clear hb2);(try clear hk);(try clear hi)))
         all_goals go_ret2
         all_goals exact⟨by first|rfl|(simp[errW_none,errW_some]<;>rfl)|(simp[*,errW_none,errW_some]<;>rfl),by repeat (first|(with_reducible first|exact HB.out|apply below_alloc|apply pw_below_drewN|apply below_drew1)|exact HB.out)⟩
        ·rw[if_neg c13]at H
         exact absurd H (by simp)
       ·rw[if_neg c12]at H
        exact absurd H (by simp)
      ·rw[if_neg c11]at H
       exact absurd H (by simp)
     ·rw[if_neg c9]at H
      have c9b0:(a0.toList==([86]:List UInt8))=false:=beq_eq_false_iff_ne.mpr c9;have c9b1:(a0.toList !=([86]:List UInt8))=true:=bne_iff_ne.mpr c9;replace H:=Option.bind_eq_some_iff.mp H;obtain⟨t132,A150,H⟩:=H;replace H:(if t132=true then((strings_Join.f l1 (⟨#[]⟩:ByteArray)).bind fun t133=>(if 1+t133.size≤9223372036854775807 then(if((⟨#[40]⟩:ByteArray)++t133).size+1≤9223372036854775807 then(if(((⟨#[40]⟩:ByteArray)++t133)++(⟨#[41]⟩:ByteArray)).size+a0.size≤9223372036854775807 then(some ((((⟨#[40]⟩:ByteArray)++t133)++(⟨#[41]⟩:ByteArray))++a0,0))else(none))else(none))else(none)))else(some ((⟨#[]⟩:ByteArray),10)))=some (r1,r2):=H
      have A15:=Aside0.mk A150
      clear A150
      by_cases c16:t132=true
      ·subst c16
       have H1:((strings_Join.f l1 (⟨#[]⟩:ByteArray)).bind fun t133=>(if 1+t133.size≤9223372036854775807 then(if((⟨#[40]⟩:ByteArray)++t133).size+1≤9223372036854775807 then(if(((⟨#[40]⟩:ByteArray)++t133)++(⟨#[41]⟩:ByteArray)).size+a0.size≤9223372036854775807 then(some ((((⟨#[40]⟩:ByteArray)++t133)++(⟨#[41]⟩:ByteArray))++a0,0))else(none))else(none))else(none)))=some (r1,r2):=by rw[if_pos rfl]at H;exact H
       clear H
       have H:=H1
       clear H1;replace H:=Option.bind_eq_some_iff.mp H;obtain⟨t133,A170,H⟩:=H;replace H:(if 1+t133.size≤9223372036854775807 then(if((⟨#[40]⟩:ByteArray)++t133).size+1≤9223372036854775807 then(if(((⟨#[40]⟩:ByteArray)++t133)++(⟨#[41]⟩:ByteArray)).size+a0.size≤9223372036854775807 then(some ((((⟨#[40]⟩:ByteArray)++t133)++(⟨#[41]⟩:ByteArray))++a0,0))else(none))else(none))else(none))=some (r1,r2):=H
       have A17:=Aside0.mk A170
       clear A170
       by_cases c18:1+t133.size≤9223372036854775807
       ·rw[if_pos c18]at H
        have c18b0:=eq_true c18
        have c18b1:decide (1+t133.size≤9223372036854775807)=true:=decide_eq_true c18
        try have c18b2:(9223372036854775807<1+t133.size)=False:=eq_false (Nat.not_lt.2 c18)
        by_cases c19:((⟨#[40]⟩:ByteArray)++t133).size+1≤9223372036854775807
        ·rw[if_pos c19]at H
         have c19b0:=eq_true c19
         have c19b1:decide (((⟨#[40]⟩:ByteArray)++t133).size+1≤9223372036854775807)=true:=decide_eq_true c19
         try have c19b2:(9223372036854775807<((⟨#[40]⟩:ByteArray)++t133).size+1)=False:=eq_false (Nat.not_lt.2 c19)
         try have c19bx:(9223372036854775807<1+t133.size+1)=False:=eq_false (Nat.not_lt.2 (by have h_:=c19;simp only[ByteArray.size_append]at h_;exact h_))
         by_cases c20:(((⟨#[40]⟩:ByteArray)++t133)++(⟨#[41]⟩:ByteArray)).size+a0.size≤9223372036854775807
         ·rw[if_pos c20]at H
          have c20b0:=eq_true c20
          have c20b1:decide ((((⟨#[40]⟩:ByteArray)++t133)++(⟨#[41]⟩:ByteArray)).size+a0.size≤9223372036854775807)=true:=decide_eq_true c20
          try have c20b2:(9223372036854775807<(((⟨#[40]⟩:ByteArray)++t133)++(⟨#[41]⟩:ByteArray)).size+a0.size)=False:=eq_false (Nat.not_lt.2 c20)
          try have c20bx:(9223372036854775807<1+t133.size+1+a0.size)=False:=eq_false (Nat.not_lt.2 (by have h_:=c20;simp only[ByteArray.size_append]at h_;exact h_))
          simp only[Option.some.injEq,Prod.mk.injEq]at H;obtain⟨rfl,rfl⟩:=H
          go_wp2_with (first|(go_at_call 222;(with_reducible refine(desc_Right.calls k1 a0 true _ A15.out).mono ?_);rintro e w' ⟨rfl,⟨nd,rfl⟩⟩)|((with_reducible refine gate_callee (f:=261) rfl ?_);refine goesL_ (some 29) rfl rfl Tryz.func261 (by kernel_rfl) rfl #[.slice A1 l1.length c1, .string (⟨#[]⟩:ByteArray)] rfl (by(try simp only[List.map_toArray,List.map_cons,List.map_nil]);first|done|rfl|(simp only[List.length_drop,List.length_take];rfl)) ?_;(with_reducible refine(strings_Join.calls _ _ l1 (⟨#[]⟩:ByteArray) t133 _ ?side1 ?side2 A17.out).mono ?_);(case side1=>repeat (first|exact(Kd.C_below HR1.out (by repeat (first|(with_reducible first|exact HB.out|apply below_alloc|apply pw_below_drewN|apply below_drew1)|exact HB.out)))|(with_reducible refine Kd.C_alloc ?_ _)|(with_reducible refine Kd.C_drewN ?_ _)|(with_reducible refine Kd.C_drew ?_)));(case side2=>exact HC1.out);rintro e w21 ⟨rfl,hb⟩;refine⟨_,rfl,?_⟩;have n0_:=Aside0.mk (below_step (by repeat (first|(with_reducible first|exact HB.out|apply below_alloc|apply pw_below_drewN|apply below_drew1)|exact HB.out)) hb);clear HB;have HB:=n0_;clear n0_;(try clear hb);(try clear hb2);(try clear hk);(try clear hi)))
          all_goals go_ret2
          all_goals exact⟨by first|rfl|(simp[errW_none,errW_some]<;>rfl)|(simp[*,errW_none,errW_some]<;>rfl),by repeat (first|(with_reducible first|exact HB.out|apply below_alloc|apply pw_below_drewN|apply below_drew1)|exact HB.out)⟩
         ·rw[if_neg c20]at H
          exact absurd H (by simp)
        ·rw[if_neg c19]at H
         exact absurd H (by simp)
       ·rw[if_neg c18]at H
        exact absurd H (by simp)
      ·replace c16:=Bool.eq_false_iff.mpr c16
       subst c16
       have H1:(some ((⟨#[]⟩:ByteArray),10))=some (r1,r2):=by rw[if_neg (show¬(false=true) by decide)]at H;exact H
       clear H
       have H:=H1
       clear H1;simp only[Option.some.injEq,Prod.mk.injEq]at H;obtain⟨rfl,rfl⟩:=H
       go_wp2_with (first|(go_at_call 222;(with_reducible refine(desc_Right.calls k1 a0 false _ A15.out).mono ?_);rintro e w' ⟨rfl,⟨nd,rfl⟩⟩))
       all_goals go_ret2
       all_goals exact⟨by first|rfl|(simp[errW_none,errW_some]<;>rfl)|(simp[*,errW_none,errW_some]<;>rfl),by repeat (first|(with_reducible first|exact HB.out|apply below_alloc|apply pw_below_drewN|apply below_drew1)|exact HB.out)⟩
mutual
def desc_Split.l0:Nat→ByteArray→Bool→List ByteArray→Option (ByteArray×List ByteArray×Int)
 |0,_,_,_=>none
 |k+1,x5,x6,x7=>if x6=true then((strings_HasPrefix.f x5 (⟨#[41]⟩:ByteArray)).bind fun t136=>(if t136=true then(desc_Split.j1 k x5 x6 x7 false)else(desc_Split.j1 k x5 x6 x7 (decide ((x7.length:Int)≤6)))))else(desc_Split.j1 k x5 x6 x7 false)
def desc_Split.j1:Nat→ByteArray→Bool→List ByteArray→Bool→Option (ByteArray×List ByteArray×Int)
 |0,_,_,_,_=>none
 |k+1,x5,x6,x7,x28=>if x28=true then((desc_first.f k x5).bind fun bt137=>(if bt137.2.2=true then(if x7.length<8796093022208 then(desc_Split.l0 k bt137.2.1 bt137.2.2 (x7++ [bt137.1]))else(none))else(desc_Split.l0 k bt137.2.1 bt137.2.2 x7)))else((strings_CutPrefix.f x5 (⟨#[41]⟩:ByteArray)).bind fun bt143=>(if x6=true then(desc_Split.j2 k x7 bt143.1 (!bt143.2))else(desc_Split.j2 k x7 bt143.1 true)))
def desc_Split.j2:Nat→List ByteArray→ByteArray→Bool→Option (ByteArray×List ByteArray×Int)
 |0,_,_,_=>none
 |k+1,x7,x9,x50=>if x50=true then(some ((⟨#[]⟩:ByteArray),([]:List ByteArray),5))else((desc_Sig.f k x9 x7).bind fun bt145=>(if bt145.2=0 then(some (x9,x7,0))else(some ((⟨#[]⟩:ByteArray),([]:List ByteArray),5))))
end
def desc_Split.f(k:Nat)(a0:ByteArray):Option (ByteArray×List ByteArray×Int):=(strings_CutPrefix.f a0 (⟨#[40]⟩:ByteArray)).bind fun bt134=>(desc_Split.l0 k bt134.1 bt134.2 ([]:List ByteArray))
set_option maxHeartbeats 8000000 in
set_option maxRecDepth 100000 in
theorem desc_Split.calls(k:Nat)(a0:ByteArray)(r1:ByteArray)(r2:List ByteArray)(r3:Int)(w:World)(h:desc_Split.f k a0=some (r1,r2,r3)):
  Calls Tryz.prog 108 #[.string a0] w fun e w'=> ∃v1_:Value,e= .returned (.tuple #[.string r1,v1_, .int .i64 r3])∧Kd.R Kd.string 9 w' w.heap.size (fun _=>True) v1_ r2∧Below w.heap.size w w':=by
 have HB:=Aside0.mk (Below.refl w.heap.size w)
 have H:((strings_CutPrefix.f a0 (⟨#[40]⟩:ByteArray)).bind fun bt134=>(desc_Split.l0 k bt134.1 bt134.2 ([]:List ByteArray)))=some (r1,r2,r3):=h;clear h;replace H:=Option.bind_eq_some_iff.mp H;obtain⟨⟨t134,t135⟩,A20,H⟩:=H;replace H:(desc_Split.l0 k t134 t135 ([]:List ByteArray))=some (r1,r2,r3):=H
 have A2:=Aside0.mk A20
 clear A20;have H':=Aside0.mk H;clear H
 go_enter Tryz.func108,Tryz.ntmps108
 go_wp2_with (first|((with_reducible refine gate_callee (f:=179) rfl ?_);refine goesL_ (some 15) rfl rfl Tryz.func179 (by kernel_rfl) rfl #[.string a0, .string (⟨#[40]⟩:ByteArray)] rfl (by(try simp only[List.map_toArray,List.map_cons,List.map_nil]);first|done|rfl|(simp only[List.length_drop,List.length_take];rfl)) ?_;(with_reducible refine(strings_CutPrefix.calls a0 (⟨#[40]⟩:ByteArray) t134 t135 _ A2.out).mono ?_);rintro e w' ⟨rfl,⟨nd,rfl⟩⟩;refine⟨_,rfl,?_⟩))
 go_loopg [5,6,7] k (fun kq v5 v6 v7 w'=> ∃(x5_1:ByteArray) (x6_1:Bool) (x7_1:List ByteArray),v5= .string x5_1∧v6= .bool x6_1∧Aside0 (desc_Split.l0 kq x5_1 x6_1 x7_1=some (r1,r2,r3))∧Aside0 (kq≤k)∧Aside0 (Kd.R Kd.string 9 w' w.heap.size (fun _=>True) v7 x7_1)∧Aside0 (Below w.heap.size w w'))
 case atStart=>exact⟨(t134),(t135),(([]:List ByteArray)),(by first|rfl|(simp;done)|(simp[*];done)),(by first|rfl|(simp;done)|(simp[*];done)),H',⟨Nat.le_refl _⟩,⟨by first|exact Kd.R_nil _ _ _ _ _|exact Kd.N_nil _ _ _ _ _|exact Kd.V_nil _ _ _ _ _|exact Kd.Q_nil _ _ _ _ _|exact Kd.S_nil _ _ _ _ _⟩,⟨by repeat (first|(with_reducible first|exact HB.out|apply below_alloc|apply pw_below_drewN|apply below_drew1)|exact HB.out)⟩⟩
 case round=>
  clear H';(try clear c1);(try clear p2);obtain⟨x5_1,x6_1,x7_1,rfl,rfl,HA,HK1,HO_7,HB⟩:=hrel
  cases gk with
  |zero=>exact absurd HA.out (by simp[desc_Split.l0])
  |succ k1=>
   have H:=HA.out
   clear HA;simp only[desc_Split.l0]at H
   have HC3:=Aside0.mk H
   clear H
   go_upto_region 3 with(fail)
   go_cut [28] (fun v28 wc=> ∃(kq:Nat) (x28_2:Bool),v28= .bool x28_2∧Aside0 (desc_Split.j1 kq x5_1 x6_1 x7_1 x28_2=some (r1,r2,r3))∧Aside0 (kq≤k1)∧Aside0 (Kd.R Kd.string 9 wc w.heap.size (fun _=>True) u7 x7_1)∧Aside0 (Below w.heap.size w wc))
   case first=>
    have H:=HC3.out
    clear HC3
    by_cases c4:x6_1=true
    ·subst c4
     have H1:((strings_HasPrefix.f x5_1 (⟨#[41]⟩:ByteArray)).bind fun t136=>(if t136=true then(desc_Split.j1 k1 x5_1 true x7_1 false)else(desc_Split.j1 k1 x5_1 true x7_1 (decide ((x7_1.length:Int)≤6)))))=some (r1,r2,r3):=by rw[if_pos rfl]at H;exact H
     clear H
     have H:=H1
     clear H1;replace H:=Option.bind_eq_some_iff.mp H;obtain⟨t136,A50,H⟩:=H;replace H:(if t136=true then(desc_Split.j1 k1 x5_1 true x7_1 false)else(desc_Split.j1 k1 x5_1 true x7_1 (decide ((x7_1.length:Int)≤6))))=some (r1,r2,r3):=H
     have A5:=Aside0.mk A50
     clear A50
     by_cases c6:t136=true
     ·subst c6
      have H1:(desc_Split.j1 k1 x5_1 true x7_1 false)=some (r1,r2,r3):=by rw[if_pos rfl]at H;exact H
      clear H
      have H:=H1
      clear H1;have H':=Aside0.mk H;clear H
      go_wp2_with (first|(go_at_call 180;(with_reducible refine(strings_HasPrefix.calls x5_1 (⟨#[41]⟩:ByteArray) true _ A5.out).mono ?_);rintro e w' ⟨rfl,⟨nd,rfl⟩⟩))
      go_meet
      case rel=>exact⟨_,(false),(by first|rfl|(simp;done)|(simp[*];done)),H',⟨by have:=HK1.out;first|omega|exact Nat.le_refl _⟩,⟨by(with_reducible repeat (first|apply Kd.R_alloc|apply Kd.R_drewN|apply Kd.R_drew));exact HO_7.out⟩,⟨by repeat (first|(with_reducible first|exact HB.out|apply below_alloc|apply pw_below_drewN|apply below_drew1)|exact HB.out)⟩⟩
     ·replace c6:=Bool.eq_false_iff.mpr c6
      subst c6
      have H1:(desc_Split.j1 k1 x5_1 true x7_1 (decide ((x7_1.length:Int)≤6)))=some (r1,r2,r3):=by rw[if_neg (show¬(false=true) by decide)]at H;exact H
      clear H
      have H:=H1
      clear H1;have H':=Aside0.mk H;clear H
      go_wp2_with (first|(go_at_call 180;(with_reducible refine(strings_HasPrefix.calls x5_1 (⟨#[41]⟩:ByteArray) false _ A5.out).mono ?_);rintro e w' ⟨rfl,⟨nd,rfl⟩⟩;obtain⟨Ao7,co7,eo7⟩:=Kd.R_slice HO_7.out;subst eo7))
      go_meet
      case rel=>exact⟨_,(decide ((x7_1.length:Int)≤6)),(by first|rfl|(simp;done)|(simp[*];done)),H',⟨by have:=HK1.out;first|omega|exact Nat.le_refl _⟩,⟨by(with_reducible repeat (first|apply Kd.R_alloc|apply Kd.R_drewN|apply Kd.R_drew));exact HO_7.out⟩,⟨by repeat (first|(with_reducible first|exact HB.out|apply below_alloc|apply pw_below_drewN|apply below_drew1)|exact HB.out)⟩⟩
    ·replace c4:=Bool.eq_false_iff.mpr c4
     subst c4
     have H1:(desc_Split.j1 k1 x5_1 false x7_1 false)=some (r1,r2,r3):=by rw[if_neg (show¬(false=true) by decide)]at H;exact H
     clear H
     have H:=H1
     clear H1;have H':=Aside0.mk H;clear H;go_wp2;go_meet
     case rel=>exact⟨_,(false),(by first|rfl|(simp;done)|(simp[*];done)),H',⟨by have:=HK1.out;first|omega|exact Nat.le_refl _⟩,⟨by(with_reducible repeat (first|apply Kd.R_alloc|apply Kd.R_drewN|apply Kd.R_drew));exact HO_7.out⟩,⟨by repeat (first|(with_reducible first|exact HB.out|apply below_alloc|apply pw_below_drewN|apply below_drew1)|exact HB.out)⟩⟩
   case rest=>
    clear HC3;(try clear c1);(try clear p2);(try clear c4);(try clear c6);(try clear p2);obtain⟨kq,x28_2,rfl,HA,HJ2,HO_7,HB⟩:=hcut
    cases kq with
    |zero=>exact absurd HA.out (by simp[desc_Split.j1])
    |succ kj2=>
     have H:=HA.out
     clear HA;simp only[desc_Split.j1]at H
     by_cases c8:x28_2=true
     ·subst c8
      have H1:((desc_first.f kj2 x5_1).bind fun bt137=>(if bt137.2.2=true then(if x7_1.length<8796093022208 then(desc_Split.l0 kj2 bt137.2.1 bt137.2.2 (x7_1++ [bt137.1]))else(none))else(desc_Split.l0 kj2 bt137.2.1 bt137.2.2 x7_1)))=some (r1,r2,r3):=by rw[if_pos rfl]at H;exact H
      clear H
      have H:=H1
      clear H1;replace H:=Option.bind_eq_some_iff.mp H;obtain⟨⟨t137,t138,t139⟩,A90,H⟩:=H;replace H:(if t139=true then(if x7_1.length<8796093022208 then(desc_Split.l0 kj2 t138 t139 (x7_1++ [t137]))else(none))else(desc_Split.l0 kj2 t138 t139 x7_1))=some (r1,r2,r3):=H
      have A9:=Aside0.mk A90
      clear A90
      by_cases c10:t139=true
      ·subst c10
       have H1:(if x7_1.length<8796093022208 then(desc_Split.l0 kj2 t138 true (x7_1++ [t137]))else(none))=some (r1,r2,r3):=by rw[if_pos rfl]at H;exact H
       clear H
       have H:=H1
       clear H1
       by_cases c11:x7_1.length<8796093022208
       ·rw[if_pos c11]at H
        have LMc11:=Aside0.mk c11
        clear c11;obtain⟨y140,hy140⟩: ∃y_:List ByteArray,y_=(x7_1++ [t137]):=⟨_,rfl⟩
        replace H:(desc_Split.l0 kj2 t138 true y140)=some (r1,r2,r3):=by first|(rw[hy140];with_reducible exact H)|(have H2_:=(Option.bind_some _ _).symm.trans H;rw[hy140];with_reducible exact H2_)|(have H2_:=(Option.bind_some _ _).symm.trans H;with_reducible exact H2_)|with_reducible exact H|(rw[hy140];exact H)|exact H
        have Ny140:=Aside0.mk hy140
        clear hy140;have H':=Aside0.mk H;clear H
        go_wp2_with (first|((with_reducible refine gate_callee (f:=181) rfl ?_);refine goesL_ (some 31) rfl rfl Tryz.func181 (by kernel_rfl) rfl #[.string x5_1] rfl (by(try simp only[List.map_toArray,List.map_cons,List.map_nil]);first|done|rfl|(simp only[List.length_drop,List.length_take];rfl)) ?_;(with_reducible refine(desc_first.calls kj2 x5_1 t137 t138 true _ A9.out).mono ?_);rintro e w' ⟨rfl,⟨nd,rfl⟩⟩;refine⟨_,rfl,?_⟩)|((with_reducible refine gate_builtin (b:= .append) (xs:= #[.tmp 36, .tmp 38]) rfl ?_);(try (refine gate_guard (by rfl) ?_;dsimp only));at_builtin;refine Kd.R_append Kd.string (w0:=w) w.heap.size rfl (.tmp 36) (.tmp 38) 91 9 (.string ⟨#[]⟩) 16 rfl Tryz.underlying91 info9 rfl (by decide) (by omega) u7 x7_1 t137 [.string t137] (fun _=>True) (fun _=>False) rfl rfl ?aP (fun _ hk=>hk.elim) ?aF ?aO ?aB ?aS ?aL ?_;(case aP=>exact rfl);(case aB=>exact(by repeat (first|(with_reducible first|exact HB.out|apply below_alloc|apply pw_below_drewN|apply below_drew1)|exact HB.out)));(case aF=>exact(fun _ _=>trivial));(case aO=>exact(by(with_reducible repeat (first|apply Kd.R_alloc|apply Kd.R_drewN|apply Kd.R_drew));exact HO_7.out));(case aS=>exact(below_size (by repeat (first|(with_reducible first|exact HB.out|apply below_alloc|apply pw_below_drewN|apply below_drew1)|exact HB.out))));(case aL=>have:=LMc11.out;omega);intro v141 w12 ho hb hg hat;rw[←Ny140.out]at ho;have n0_:=Aside0.mk (hb);have n1_:=Aside0.mk (ho);clear HB;clear HO_7;have HB:=n0_;have HO142:=n1_;clear n0_ n1_;clear ho hb hg hat))
        go_roundg kj2
        case measure=>have:=HK1.out;have:=HJ2.out;omega
        case rel=>exact⟨(t138),(true),(y140),(by first|rfl|(simp;done)|(simp[*];done)),(by first|rfl|(simp;done)|(simp[*];done)),H',⟨by have:=HK1.out;have:=HJ2.out;omega⟩,⟨by(with_reducible repeat (first|apply Kd.R_alloc|apply Kd.R_drewN|apply Kd.R_drew));exact HO142.out⟩,⟨by repeat (first|(with_reducible first|exact HB.out|apply below_alloc|apply pw_below_drewN|apply below_drew1)|exact HB.out)⟩⟩
       ·rw[if_neg c11]at H
        exact absurd H (by simp)
      ·replace c10:=Bool.eq_false_iff.mpr c10
       subst c10
       have H1:(desc_Split.l0 kj2 t138 false x7_1)=some (r1,r2,r3):=by rw[if_neg (show¬(false=true) by decide)]at H;exact H
       clear H
       have H:=H1
       clear H1;have H':=Aside0.mk H;clear H
       go_wp2_with (first|((with_reducible refine gate_callee (f:=181) rfl ?_);refine goesL_ (some 31) rfl rfl Tryz.func181 (by kernel_rfl) rfl #[.string x5_1] rfl (by(try simp only[List.map_toArray,List.map_cons,List.map_nil]);first|done|rfl|(simp only[List.length_drop,List.length_take];rfl)) ?_;(with_reducible refine(desc_first.calls kj2 x5_1 t137 t138 false _ A9.out).mono ?_);rintro e w' ⟨rfl,⟨nd,rfl⟩⟩;refine⟨_,rfl,?_⟩))
       go_roundg kj2
       case measure=>have:=HK1.out;have:=HJ2.out;omega
       case rel=>exact⟨(t138),(false),(x7_1),(by first|rfl|(simp;done)|(simp[*];done)),(by first|rfl|(simp;done)|(simp[*];done)),H',⟨by have:=HK1.out;have:=HJ2.out;omega⟩,⟨by(with_reducible repeat (first|apply Kd.R_alloc|apply Kd.R_drewN|apply Kd.R_drew));exact HO_7.out⟩,⟨by repeat (first|(with_reducible first|exact HB.out|apply below_alloc|apply pw_below_drewN|apply below_drew1)|exact HB.out)⟩⟩
     ·replace c8:=Bool.eq_false_iff.mpr c8
      subst c8
      have H1:((strings_CutPrefix.f x5_1 (⟨#[41]⟩:ByteArray)).bind fun bt143=>(if x6_1=true then(desc_Split.j2 kj2 x7_1 bt143.1 (!bt143.2))else(desc_Split.j2 kj2 x7_1 bt143.1 true)))=some (r1,r2,r3):=by rw[if_neg (show¬(false=true) by decide)]at H;exact H
      clear H
      have H:=H1
      clear H1;replace H:=Option.bind_eq_some_iff.mp H;obtain⟨⟨t143,t144⟩,A130,H⟩:=H;replace H:(if x6_1=true then(desc_Split.j2 kj2 x7_1 t143 (!t144))else(desc_Split.j2 kj2 x7_1 t143 true))=some (r1,r2,r3):=H
      have A13:=Aside0.mk A130
      clear A130
      have HC14:=Aside0.mk H
      clear H
      go_upto_region 9 with(first|((with_reducible refine gate_callee (f:=179) rfl ?_);refine goesL_ (some 42) rfl rfl Tryz.func179 (by kernel_rfl) rfl #[.string x5_1, .string (⟨#[41]⟩:ByteArray)] rfl (by(try simp only[List.map_toArray,List.map_cons,List.map_nil]);first|done|rfl|(simp only[List.length_drop,List.length_take];rfl)) ?_;(with_reducible refine(strings_CutPrefix.calls x5_1 (⟨#[41]⟩:ByteArray) t143 t144 _ A13.out).mono ?_);rintro e w' ⟨rfl,⟨nd,rfl⟩⟩;refine⟨_,rfl,?_⟩))
      (try simp only[Act.put,List.setIfInBounds_toArray,List.set_cons_zero,List.set_cons_succ])
      go_cut [50] (fun v50 wc=> ∃(kq:Nat) (x50_13:Bool),v50= .bool x50_13∧Aside0 (desc_Split.j2 kq x7_1 t143 x50_13=some (r1,r2,r3))∧Aside0 (kq≤kj2)∧Aside0 (Kd.R Kd.string 9 wc w.heap.size (fun _=>True) u7 x7_1)∧Aside0 (Below w.heap.size w wc))
      case first=>
       have H:=HC14.out
       clear HC14
       by_cases c15:x6_1=true
       ·subst c15
        have H1:(desc_Split.j2 kj2 x7_1 t143 (!t144))=some (r1,r2,r3):=by rw[if_pos rfl]at H;exact H
        clear H
        have H:=H1
        clear H1;have H':=Aside0.mk H;clear H;go_wp2;go_meet
        case rel=>exact⟨_,(!t144),(by first|rfl|(simp;done)|(simp[*];done)),H',⟨by have:=HK1.out;have:=HJ2.out;first|omega|exact Nat.le_refl _⟩,⟨by(with_reducible repeat (first|apply Kd.R_alloc|apply Kd.R_drewN|apply Kd.R_drew));exact HO_7.out⟩,⟨by repeat (first|(with_reducible first|exact HB.out|apply below_alloc|apply pw_below_drewN|apply below_drew1)|exact HB.out)⟩⟩
       ·replace c15:=Bool.eq_false_iff.mpr c15
        subst c15
        have H1:(desc_Split.j2 kj2 x7_1 t143 true)=some (r1,r2,r3):=by rw[if_neg (show¬(false=true) by decide)]at H;exact H
        clear H
        have H:=H1
        clear H1;have H':=Aside0.mk H;clear H;go_wp2;go_meet
        case rel=>exact⟨_,(true),(by first|rfl|(simp;done)|(simp[*];done)),H',⟨by have:=HK1.out;have:=HJ2.out;first|omega|exact Nat.le_refl _⟩,⟨by(with_reducible repeat (first|apply Kd.R_alloc|apply Kd.R_drewN|apply Kd.R_drew));exact HO_7.out⟩,⟨by repeat (first|(with_reducible first|exact HB.out|apply below_alloc|apply pw_below_drewN|apply below_drew1)|exact HB.out)⟩⟩
      case rest=>
       clear HC14;(try clear c1);(try clear p2);(try clear c4);(try clear c6);(try clear c8);(try clear c10);(try clear c11);(try clear c15);(try clear p2);obtain⟨kq,x50_13,rfl,HA,HJ13,HO_7,HB⟩:=hcut
       cases kq with
       |zero=>exact absurd HA.out (by simp[desc_Split.j2])
       |succ kj13=>
        have H:=HA.out
        clear HA;simp only[desc_Split.j2]at H
        by_cases c16:x50_13=true
        ·subst c16
         have H1:(some ((⟨#[]⟩:ByteArray),([]:List ByteArray),5))=some (r1,r2,r3):=by rw[if_pos rfl]at H;exact H
         clear H
         have H:=H1
         clear H1;simp only[Option.some.injEq,Prod.mk.injEq]at H;obtain⟨rfl,rfl,rfl⟩:=H;go_wp2;go_ret3;exact⟨_,by first|rfl|(simp[errW_none,errW_some]<;>rfl)|(simp[*,errW_none,errW_some]<;>rfl),by first|exact Kd.R_nil _ _ _ _ _|exact Kd.N_nil _ _ _ _ _|exact Kd.V_nil _ _ _ _ _|exact Kd.Q_nil _ _ _ _ _|exact Kd.S_nil _ _ _ _ _,by repeat (first|(with_reducible first|exact HB.out|apply below_alloc|apply pw_below_drewN|apply below_drew1)|exact HB.out)⟩
        ·replace c16:=Bool.eq_false_iff.mpr c16
         subst c16
         have H1:((desc_Sig.f kj13 t143 x7_1).bind fun bt145=>(if bt145.2=0 then(some (t143,x7_1,0))else(some ((⟨#[]⟩:ByteArray),([]:List ByteArray),5))))=some (r1,r2,r3):=by rw[if_neg (show¬(false=true) by decide)]at H;exact H
         clear H
         have H:=H1
         clear H1;replace H:=Option.bind_eq_some_iff.mp H;obtain⟨⟨t145,t146⟩,A170,H⟩:=H;replace H:(if t146=0 then(some (t143,x7_1,0))else(some ((⟨#[]⟩:ByteArray),([]:List ByteArray),5)))=some (r1,r2,r3):=H
         have A17:=Aside0.mk A170
         clear A170
         by_cases c18:t146=0
         ·rw[if_pos c18]at H
          have c18b0:(t146==0)=true:=beq_iff_eq.mpr c18;have c18b1:(t146 !=0)=false:=bne_eq_false_iff_eq.mpr c18;clear c18;simp only[Option.some.injEq,Prod.mk.injEq]at H;obtain⟨rfl,rfl,rfl⟩:=H;obtain⟨Ao19,co19,eo19⟩:=Kd.R_slice HO_7.out;subst eo19
          go_wp2_with (first|((with_reducible refine gate_callee (f:=182) rfl ?_);refine goesL_ (some 54) rfl rfl Tryz.func182 (by kernel_rfl) rfl #[.string t143, .slice Ao19 x7_1.length co19] rfl (by(try simp only[List.map_toArray,List.map_cons,List.map_nil]);first|done|rfl|(simp only[List.length_drop,List.length_take];rfl)) ?_;(with_reducible refine(desc_Sig.calls kj13 t143 _ _ x7_1 t145 t146 _ ?side1 ?side2 A17.out).mono ?_);(case side1=>repeat (first|exact(Kd.R_reads' HO_7.out).2.2|(with_reducible refine Kd.C_alloc ?_ _)|(with_reducible refine Kd.C_drewN ?_ _)|(with_reducible refine Kd.C_drew ?_)));(case side2=>exact(Kd.R_reads' HO_7.out).2.1);rintro e w20 ⟨rfl,hb⟩;refine⟨_,rfl,?_⟩;have n0_:=Aside0.mk (Kd.R_below (by(with_reducible repeat (first|apply Kd.R_alloc|apply Kd.R_drewN|apply Kd.R_drew));exact HO_7.out) hb);have n1_:=Aside0.mk (below_step (by repeat (first|(with_reducible first|exact HB.out|apply below_alloc|apply pw_below_drewN|apply below_drew1)|exact HB.out)) hb);clear HO_7;clear HB;have HO_7:=n0_;have HB:=n1_;clear n0_ n1_;(try clear hb);(try clear hb2);(try clear hk);(try clear hi)))
          go_ret3;exact⟨_,by first|rfl|(simp[errW_none,errW_some]<;>rfl)|(simp[*,errW_none,errW_some]<;>rfl),by(with_reducible repeat (first|apply Kd.R_alloc|apply Kd.R_drewN|apply Kd.R_drew));exact HO_7.out,by repeat (first|(with_reducible first|exact HB.out|apply below_alloc|apply pw_below_drewN|apply below_drew1)|exact HB.out)⟩
         ·rw[if_neg c18]at H
          have c18b0:(t146==0)=false:=beq_eq_false_iff_ne.mpr c18;have c18b1:(t146 !=0)=true:=bne_iff_ne.mpr c18;simp only[Option.some.injEq,Prod.mk.injEq]at H;obtain⟨rfl,rfl,rfl⟩:=H;obtain⟨Ao21,co21,eo21⟩:=Kd.R_slice HO_7.out;subst eo21
          go_wp2_with (first|((with_reducible refine gate_callee (f:=182) rfl ?_);refine goesL_ (some 54) rfl rfl Tryz.func182 (by kernel_rfl) rfl #[.string t143, .slice Ao21 x7_1.length co21] rfl (by(try simp only[List.map_toArray,List.map_cons,List.map_nil]);first|done|rfl|(simp only[List.length_drop,List.length_take];rfl)) ?_;(with_reducible refine(desc_Sig.calls kj13 t143 _ _ x7_1 t145 t146 _ ?side1 ?side2 A17.out).mono ?_);(case side1=>repeat (first|exact(Kd.R_reads' HO_7.out).2.2|(with_reducible refine Kd.C_alloc ?_ _)|(with_reducible refine Kd.C_drewN ?_ _)|(with_reducible refine Kd.C_drew ?_)));(case side2=>exact(Kd.R_reads' HO_7.out).2.1);rintro e w22 ⟨rfl,hb⟩;refine⟨_,rfl,?_⟩;have n0_:=Aside0.mk (Kd.R_below (by(with_reducible repeat (first|apply Kd.R_alloc|apply Kd.R_drewN|apply Kd.R_drew));exact HO_7.out) hb);have n1_:=Aside0.mk (below_step (by repeat (first|(with_reducible first|exact HB.out|apply below_alloc|apply pw_below_drewN|apply below_drew1)|exact HB.out)) hb);clear HO_7;clear HB;have HO_7:=n0_;have HB:=n1_;clear n0_ n1_;(try clear hb);(try clear hb2);(try clear hk);(try clear hi)))
          go_ret3;exact⟨_,by first|rfl|(simp[errW_none,errW_some]<;>rfl)|(simp[*,errW_none,errW_some]<;>rfl),by first|exact Kd.R_nil _ _ _ _ _|exact Kd.N_nil _ _ _ _ _|exact Kd.V_nil _ _ _ _ _|exact Kd.Q_nil _ _ _ _ _|exact Kd.S_nil _ _ _ _ _,by repeat (first|(with_reducible first|exact HB.out|apply below_alloc|apply pw_below_drewN|apply below_drew1)|exact HB.out)⟩
mutual
def hornbookref02_end.l0:Nat→ByteArray→Int→Option (Int)
 |0,_,_=>none
 |k+1,x0,x3=>if x3≤(x0.size:Int)then(hornbookref02_end.j1 k x0 x3 (decide (x3≤30)))else(hornbookref02_end.j1 k x0 x3 false)
def hornbookref02_end.j1:Nat→ByteArray→Int→Bool→Option (Int)
 |0,_,_,_=>none
 |k+1,x0,x3,x11=>if x11=true then(if 0≤x3 then(if x3≤(x0.size:Int)then((hornbookref02_Right.f k (x0.extract 0 (x3:Int).toNat)).bind fun t147=>(if t147=true then(some x3)else(hornbookref02_end.l0 k x0 (wrap64 (x3+1)))))else(none))else(none))else(some 0)
end
def hornbookref02_end.f(k:Nat)(a0:ByteArray):Option (Int):=hornbookref02_end.l0 k a0 1
set_option maxHeartbeats 8000000 in
set_option maxRecDepth 100000 in
theorem hornbookref02_end.calls(k:Nat)(a0:ByteArray)(r:Int)(w:World)(h:hornbookref02_end.f k a0=some r):
  Calls Tryz.prog 183 #[.string a0] w fun e w'=>e= .returned (.int .i64 r)∧Drawn0 w w':=by
 have H:(hornbookref02_end.l0 k a0 1)=some r:=h;clear h;have H':=Aside0.mk H;clear H
 go_enter Tryz.func183,Tryz.ntmps183
 go_wp2
 go_loopg [3] k (fun kq v3 w'=> ∃(x3_1:Int),v3= .int .i64 x3_1∧Aside0 (hornbookref02_end.l0 kq a0 x3_1=some r)∧Aside0 (kq≤k)∧Drawn0 w w')
 case atStart=>exact⟨(1),(by first|rfl|(simp;done)|(simp[*];done)),H',⟨Nat.le_refl _⟩,by repeat (first|exact Drawn0.refl _|apply Drawn0.step)⟩
 case round=>
  clear H';(try clear c1);obtain⟨x3_1,rfl,HA,HK1,⟨m1,rfl⟩⟩:=hrel
  cases gk with
  |zero=>exact absurd HA.out (by simp[hornbookref02_end.l0])
  |succ k1=>
   have H:=HA.out
   clear HA;simp only[hornbookref02_end.l0]at H
   have HC2:=Aside0.mk H
   clear H
   go_upto_region 2 with(fail)
   go_cut [11] (fun v11 wc=> ∃(kq:Nat) (x11_1:Bool),v11= .bool x11_1∧Aside0 (hornbookref02_end.j1 kq a0 x3_1 x11_1=some r)∧Aside0 (kq≤k1)∧Drawn0 w wc)
   case first=>
    have H:=HC2.out
    clear HC2
    by_cases c3:x3_1≤(a0.size:Int)
    ·rw[if_pos c3]at H
     have c3b0:decide (x3_1≤(a0.size:Int))=true:=decide_eq_true c3;clear c3;(first|rw [c3b0]|(simp only[i64_w,i32_w];rw[c3b0])|skip);have H':=Aside0.mk H;clear H;go_wp2;go_meet
     case rel=>exact⟨_,(decide (x3_1≤30)),(by first|rfl|(simp;done)|(simp[*];done)),H',⟨by have:=HK1.out;first|omega|exact Nat.le_refl _⟩,by repeat (first|exact Drawn0.refl _|apply Drawn0.step)⟩
    ·rw[if_neg c3]at H
     have c3b0:decide (x3_1≤(a0.size:Int))=false:=decide_eq_false c3;clear c3;(first|rw [c3b0]|(simp only[i64_w,i32_w];rw[c3b0])|skip);have H':=Aside0.mk H;clear H;go_wp2;go_meet
     case rel=>exact⟨_,(false),(by first|rfl|(simp;done)|(simp[*];done)),H',⟨by have:=HK1.out;first|omega|exact Nat.le_refl _⟩,by repeat (first|exact Drawn0.refl _|apply Drawn0.step)⟩
   case rest=>
    clear HC2;(try clear c1);(try clear p2);(try clear c3);(try clear c3b0);obtain⟨kq,x11_1,rfl,HA,HJ1,⟨mc1,rfl⟩⟩:=hcut
    cases kq with
    |zero=>exact absurd HA.out (by simp[hornbookref02_end.j1])
    |succ kj1=>
     have H:=HA.out
     clear HA;simp only[hornbookref02_end.j1]at H
     by_cases c4:x11_1=true
     ·subst c4
      have H1:(if 0≤x3_1 then(if x3_1≤(a0.size:Int)then((hornbookref02_Right.f kj1 (a0.extract 0 (x3_1:Int).toNat)).bind fun t147=>(if t147=true then(some x3_1)else(hornbookref02_end.l0 kj1 a0 (wrap64 (x3_1+1)))))else(none))else(none))=some r:=by rw[if_pos rfl]at H;exact H
      clear H
      have H:=H1
      clear H1
      by_cases c5:0≤x3_1
      ·rw[if_pos c5]at H
       have c5b0:=eq_true c5
       have c5b1:decide (0≤x3_1)=true:=decide_eq_true c5;clear c5
       by_cases c6:x3_1≤(a0.size:Int)
       ·rw[if_pos c6]at H
        have c6b0:=eq_true c6
        have c6b1:decide (x3_1≤(a0.size:Int))=true:=decide_eq_true c6;clear c6;replace H:=Option.bind_eq_some_iff.mp H;obtain⟨t147,A70,H⟩:=H;replace H:(if t147=true then(some x3_1)else(hornbookref02_end.l0 kj1 a0 (wrap64 (x3_1+1))))=some r:=H
        have A7:=Aside0.mk A70
        clear A70
        by_cases c8:t147=true
        ·subst c8
         have H1:(some x3_1)=some r:=by rw[if_pos rfl]at H;exact H
         clear H
         have H:=H1
         clear H1;obtain rfl:=Option.some.inj H
         go_wp2_with (first|((with_reducible refine gate_callee (f:=205) rfl ?_);refine goesL_ (some 17) rfl rfl Tryz.func205 (by kernel_rfl) rfl #[.string (a0.extract 0 (x3_1:Int).toNat)] rfl (by(try simp only[List.map_toArray,List.map_cons,List.map_nil]);first|done|rfl|(simp only[List.length_drop,List.length_take];rfl)) ?_;(with_reducible refine(hornbookref02_Right.calls kj1 (a0.extract 0 (x3_1:Int).toNat) true _ A7.out).mono ?_);rintro e w' ⟨rfl,⟨nd,rfl⟩⟩;refine⟨_,rfl,?_⟩))
         all_goals go_ret
         all_goals exact⟨by first|rfl|(simp;done)|(simp[*];done),by repeat (first|exact Drawn0.refl _|apply Drawn0.step)⟩
        ·replace c8:=Bool.eq_false_iff.mpr c8
         subst c8
         have H1:(hornbookref02_end.l0 kj1 a0 (wrap64 (x3_1+1)))=some r:=by rw[if_neg (show¬(false=true) by decide)]at H;exact H
         clear H
         have H:=H1
         clear H1;have H':=Aside0.mk H;clear H
         go_wp2_with (first|((with_reducible refine gate_callee (f:=205) rfl ?_);refine goesL_ (some 17) rfl rfl Tryz.func205 (by kernel_rfl) rfl #[.string (a0.extract 0 (x3_1:Int).toNat)] rfl (by(try simp only[List.map_toArray,List.map_cons,List.map_nil]);first|done|rfl|(simp only[List.length_drop,List.length_take];rfl)) ?_;(with_reducible refine(hornbookref02_Right.calls kj1 (a0.extract 0 (x3_1:Int).toNat) false _ A7.out).mono ?_);rintro e w' ⟨rfl,⟨nd,rfl⟩⟩;refine⟨_,rfl,?_⟩))
         go_roundg kj1
         case measure=>have:=HK1.out;have:=HJ1.out;omega
         case rel=>exact⟨(wrap64 (x3_1+1)),(by first|rfl|(simp;done)|(simp[*];done)),H',⟨by have:=HK1.out;have:=HJ1.out;omega⟩,by repeat (first|exact Drawn0.refl _|apply Drawn0.step)⟩
       ·rw[if_neg c6]at H
        exact absurd H (by simp)
      ·rw[if_neg c5]at H
       exact absurd H (by simp)
     ·replace c4:=Bool.eq_false_iff.mpr c4
      subst c4
      have H1:(some 0)=some r:=by rw[if_neg (show¬(false=true) by decide)]at H;exact H
      clear H
      have H:=H1
      clear H1;obtain rfl:=Option.some.inj H;go_wp2
      all_goals go_ret
      all_goals exact⟨by first|rfl|(simp;done)|(simp[*];done),by repeat (first|exact Drawn0.refl _|apply Drawn0.step)⟩
def hornbookref02_Sig.l0:Nat→ByteArray→List ByteArray→ByteArray→Int→Option (ByteArray×Int)
 |0,_,_,_,_=>none
 |k+1,x0,x1,x6,x7=>if x7<(x1.length:Int)then(if 0≤x7 then((hornbookref02_Right.f k (rdOf ByteArray.empty x1 x7)).bind fun t149=>(if t149=true then(if x6.size+(rdOf ByteArray.empty x1 x7).size≤9223372036854775807 then(hornbookref02_Sig.l0 k x0 x1 (x6++(rdOf ByteArray.empty x1 x7)) (wrap64 (x7+1)))else(none))else(some ((⟨#[]⟩:ByteArray),10))))else(none))else(if x0.toList=([86]:List UInt8)then(if x6.size+1≤9223372036854775807 then(if(x6++(⟨#[41]⟩:ByteArray)).size+x0.size≤9223372036854775807 then(some ((x6++(⟨#[41]⟩:ByteArray))++x0,0))else(none))else(none))else((hornbookref02_Right.f k x0).bind fun t151=>(if t151=true then(if x6.size+1≤9223372036854775807 then(if(x6++(⟨#[41]⟩:ByteArray)).size+x0.size≤9223372036854775807 then(some ((x6++(⟨#[41]⟩:ByteArray))++x0,0))else(none))else(none))else(some ((⟨#[]⟩:ByteArray),10)))))
def hornbookref02_Sig.f(k:Nat)(a0:ByteArray)(l1:List ByteArray):Option (ByteArray×Int):=if(l1.length:Int)>6 then(some ((⟨#[]⟩:ByteArray),2))else(hornbookref02_Sig.l0 k a0 l1 (⟨#[40]⟩:ByteArray) 0)
set_option maxHeartbeats 8000000 in
set_option maxRecDepth 100000 in
theorem hornbookref02_Sig.calls(k:Nat)(a0:ByteArray)(A1:Option Addr)(c1:Nat)(l1:List ByteArray)(r1:ByteArray)(r2:Int)(w:World)(hr1:Kd.C Kd.string w A1 l1.length l1)(hc1:l1.length≤c1)(h:hornbookref02_Sig.f k a0 l1=some (r1,r2)):
  Calls Tryz.prog 184 #[.string a0, .slice A1 l1.length c1] w fun e w'=>e= .returned (.tuple #[.string r1, .int .i64 r2])∧Drawn0 w w':=by
 have HR1:=Aside0.mk hr1
 have HC1:=Aside0.mk hc1
 clear hr1 hc1;have H:(if(l1.length:Int)>6 then(some ((⟨#[]⟩:ByteArray),2))else(hornbookref02_Sig.l0 k a0 l1 (⟨#[40]⟩:ByteArray) 0))=some (r1,r2):=h;clear h
 by_cases c3:(l1.length:Int)>6
 ·rw[if_pos c3]at H
  have c3b0:decide (6<(l1.length:Int))=true:=decide_eq_true c3;have c3b1:decide (6<l1.length)=true:=decide_eq_true (by omega);clear c3;simp only[Option.some.injEq,Prod.mk.injEq]at H;obtain⟨rfl,rfl⟩:=H
  go_enter Tryz.func184,Tryz.ntmps184
  go_wp2
  all_goals go_ret2
  all_goals exact⟨by first|rfl|(simp;done)|(simp[*];done),by repeat (first|exact Drawn0.refl _|apply Drawn0.step)⟩
 ·rw[if_neg c3]at H
  have c3b0:decide (6<(l1.length:Int))=false:=decide_eq_false c3;have c3b1:decide (6<l1.length)=false:=decide_eq_false (by omega);clear c3;have H':=Aside0.mk H;clear H
  go_enter Tryz.func184,Tryz.ntmps184
  go_wp2
  go_loopg [6,7] k (fun kq v6 v7 w'=> ∃(x6_1:ByteArray) (x7_1:Int),v6= .string x6_1∧v7= .int .i64 x7_1∧Aside0 (hornbookref02_Sig.l0 kq a0 l1 x6_1 x7_1=some (r1,r2))∧Aside0 (kq≤k)∧Drawn0 w w')
  case atStart=>exact⟨((⟨#[40]⟩:ByteArray)),(0),(by first|rfl|(simp;done)|(simp[*];done)),(by first|rfl|(simp;done)|(simp[*];done)),H',⟨Nat.le_refl _⟩,by repeat (first|exact Drawn0.refl _|apply Drawn0.step)⟩
  case round=>
   clear H';(try clear c1);(try clear p2);(try clear c3);(try clear c3b0);(try clear c3b1);obtain⟨x6_1,x7_1,rfl,rfl,HA,HK1,⟨m1,rfl⟩⟩:=hrel
   cases gk with
   |zero=>exact absurd HA.out (by simp[hornbookref02_Sig.l0])
   |succ k1=>
    have H:=HA.out
    clear HA;simp only[hornbookref02_Sig.l0]at H
    by_cases c4:x7_1<(l1.length:Int)
    ·rw[if_pos c4]at H
     have c4b0:decide (x7_1<(l1.length:Int))=true:=decide_eq_true c4;clear c4
     by_cases c5:0≤x7_1
     ·rw[if_pos c5]at H
      have c5b0:decide (0≤x7_1)=true:=decide_eq_true c5;clear c5;replace H:=Option.bind_eq_some_iff.mp H;obtain⟨t149,A60,H⟩:=H;replace H:(if t149=true then(if x6_1.size+(rdOf ByteArray.empty l1 x7_1).size≤9223372036854775807 then(hornbookref02_Sig.l0 k1 a0 l1 (x6_1++(rdOf ByteArray.empty l1 x7_1)) (wrap64 (x7_1+1)))else(none))else(some ((⟨#[]⟩:ByteArray),10)))=some (r1,r2):=H
      have A6:=Aside0.mk A60
      clear A60
      by_cases c7:t149=true
      ·subst c7
       have H1:(if x6_1.size+(rdOf ByteArray.empty l1 x7_1).size≤9223372036854775807 then(hornbookref02_Sig.l0 k1 a0 l1 (x6_1++(rdOf ByteArray.empty l1 x7_1)) (wrap64 (x7_1+1)))else(none))=some (r1,r2):=by rw[if_pos rfl]at H;exact H
       clear H
       have H:=H1
       clear H1
       by_cases c8:x6_1.size+(rdOf ByteArray.empty l1 x7_1).size≤9223372036854775807
       ·rw[if_pos c8]at H
        have c8b0:=eq_true c8
        have c8b1:decide (x6_1.size+(rdOf ByteArray.empty l1 x7_1).size≤9223372036854775807)=true:=decide_eq_true c8
        try have c8b2:(9223372036854775807<x6_1.size+(rdOf ByteArray.empty l1 x7_1).size)=False:=eq_false (Nat.not_lt.2 c8)
        have H':=Aside0.mk H;clear H;have p148:0≤(x7_1:Int):=of_decide_eq_true (by first|(with_reducible assumption)|assumption);have q148:x7_1<(l1.length:Int):=of_decide_eq_true (by first|(with_reducible assumption)|assumption);obtain⟨ad148,e148,hx148_0⟩:=Kd.at_string HR1.out x7_1 p148 q148;cases e148;replace p148:=eq_true p148;replace q148:=eq_true q148
        go_wp2_with (first|((with_reducible refine gate_callee (f:=205) rfl ?_);refine goesL_ (some 21) rfl rfl Tryz.func205 (by kernel_rfl) rfl #[.string (rdOf ByteArray.empty l1 x7_1)] rfl (by(try simp only[List.map_toArray,List.map_cons,List.map_nil]);first|done|rfl|(simp only[List.length_drop,List.length_take];rfl)) ?_;(with_reducible refine(hornbookref02_Right.calls k1 (rdOf ByteArray.empty l1 x7_1) true _ A6.out).mono ?_);rintro e w' ⟨rfl,⟨nd,rfl⟩⟩;refine⟨_,rfl,?_⟩;have p150:0≤(x7_1:Int):=of_decide_eq_true (by first|(with_reducible assumption)|assumption);have q150:x7_1<(l1.length:Int):=of_decide_eq_true (by first|(with_reducible assumption)|assumption);obtain⟨ad150,e150,hx150_0⟩:=Kd.at_string HR1.out x7_1 p150 q150;obtain rfl:ad148=ad150:=(by injection e150);replace p150:=eq_true p150;replace q150:=eq_true q150))
        go_roundg k1
        case measure=>have:=HK1.out;omega
        case rel=>exact⟨(x6_1++(rdOf ByteArray.empty l1 x7_1)),(wrap64 (x7_1+1)),(by first|rfl|(simp;done)|(simp[*];done)),(by first|rfl|(simp;done)|(simp[*];done)),H',⟨by have:=HK1.out;omega⟩,by repeat (first|exact Drawn0.refl _|apply Drawn0.step)⟩
       ·rw[if_neg c8]at H
        exact absurd H (by simp)
      ·replace c7:=Bool.eq_false_iff.mpr c7
       subst c7
       have H1:(some ((⟨#[]⟩:ByteArray),10))=some (r1,r2):=by rw[if_neg (show¬(false=true) by decide)]at H;exact H
       clear H
       have H:=H1
       clear H1;simp only[Option.some.injEq,Prod.mk.injEq]at H;obtain⟨rfl,rfl⟩:=H;have p148:0≤(x7_1:Int):=of_decide_eq_true (by first|(with_reducible assumption)|assumption);have q148:x7_1<(l1.length:Int):=of_decide_eq_true (by first|(with_reducible assumption)|assumption);obtain⟨ad148,e148,hx148_0⟩:=Kd.at_string HR1.out x7_1 p148 q148;cases e148;replace p148:=eq_true p148;replace q148:=eq_true q148
       go_wp2_with (first|((with_reducible refine gate_callee (f:=205) rfl ?_);refine goesL_ (some 21) rfl rfl Tryz.func205 (by kernel_rfl) rfl #[.string (rdOf ByteArray.empty l1 x7_1)] rfl (by(try simp only[List.map_toArray,List.map_cons,List.map_nil]);first|done|rfl|(simp only[List.length_drop,List.length_take];rfl)) ?_;(with_reducible refine(hornbookref02_Right.calls k1 (rdOf ByteArray.empty l1 x7_1) false _ A6.out).mono ?_);rintro e w' ⟨rfl,⟨nd,rfl⟩⟩;refine⟨_,rfl,?_⟩))
       all_goals go_ret2
       all_goals exact⟨by first|rfl|(simp;done)|(simp[*];done),by repeat (first|exact Drawn0.refl _|apply Drawn0.step)⟩
     ·rw[if_neg c5]at H
      exact absurd H (by simp)
    ·rw[if_neg c4]at H
     have c4b0:decide (x7_1<(l1.length:Int))=false:=decide_eq_false c4;clear c4
     by_cases c9:a0.toList=([86]:List UInt8)
     ·rw[if_pos c9]at H
      have c9b0:(a0.toList==([86]:List UInt8))=true:=beq_iff_eq.mpr c9;have c9b1:(a0.toList !=([86]:List UInt8))=false:=bne_eq_false_iff_eq.mpr c9;clear c9
      by_cases c10:x6_1.size+1≤9223372036854775807
      ·rw[if_pos c10]at H
       have c10b0:=eq_true c10
       have c10b1:decide (x6_1.size+1≤9223372036854775807)=true:=decide_eq_true c10
       try have c10b2:(9223372036854775807<x6_1.size+1)=False:=eq_false (Nat.not_lt.2 c10)
       by_cases c11:(x6_1++(⟨#[41]⟩:ByteArray)).size+a0.size≤9223372036854775807
       ·rw[if_pos c11]at H
        have c11b0:=eq_true c11
        have c11b1:decide ((x6_1++(⟨#[41]⟩:ByteArray)).size+a0.size≤9223372036854775807)=true:=decide_eq_true c11
        try have c11b2:(9223372036854775807<(x6_1++(⟨#[41]⟩:ByteArray)).size+a0.size)=False:=eq_false (Nat.not_lt.2 c11)
        try have c11bx:(9223372036854775807<x6_1.size+1+a0.size)=False:=eq_false (Nat.not_lt.2 (by have h_:=c11;simp only[ByteArray.size_append]at h_;exact h_))
        simp only[Option.some.injEq,Prod.mk.injEq]at H;obtain⟨rfl,rfl⟩:=H;go_wp2
        all_goals go_ret2
        all_goals exact⟨by first|rfl|(simp;done)|(simp[*];done),by repeat (first|exact Drawn0.refl _|apply Drawn0.step)⟩
       ·rw[if_neg c11]at H
        exact absurd H (by simp)
      ·rw[if_neg c10]at H
       exact absurd H (by simp)
     ·rw[if_neg c9]at H
      have c9b0:(a0.toList==([86]:List UInt8))=false:=beq_eq_false_iff_ne.mpr c9;have c9b1:(a0.toList !=([86]:List UInt8))=true:=bne_iff_ne.mpr c9;replace H:=Option.bind_eq_some_iff.mp H;obtain⟨t151,A120,H⟩:=H;replace H:(if t151=true then(if x6_1.size+1≤9223372036854775807 then(if(x6_1++(⟨#[41]⟩:ByteArray)).size+a0.size≤9223372036854775807 then(some ((x6_1++(⟨#[41]⟩:ByteArray))++a0,0))else(none))else(none))else(some ((⟨#[]⟩:ByteArray),10)))=some (r1,r2):=H
      have A12:=Aside0.mk A120
      clear A120
      by_cases c13:t151=true
      ·subst c13
       have H1:(if x6_1.size+1≤9223372036854775807 then(if(x6_1++(⟨#[41]⟩:ByteArray)).size+a0.size≤9223372036854775807 then(some ((x6_1++(⟨#[41]⟩:ByteArray))++a0,0))else(none))else(none))=some (r1,r2):=by rw[if_pos rfl]at H;exact H
       clear H
       have H:=H1
       clear H1
       by_cases c14:x6_1.size+1≤9223372036854775807
       ·rw[if_pos c14]at H
        have c14b0:=eq_true c14
        have c14b1:decide (x6_1.size+1≤9223372036854775807)=true:=decide_eq_true c14
        try have c14b2:(9223372036854775807<x6_1.size+1)=False:=eq_false (Nat.not_lt.2 c14)
        by_cases c15:(x6_1++(⟨#[41]⟩:ByteArray)).size+a0.size≤9223372036854775807
        ·rw[if_pos c15]at H
         have c15b0:=eq_true c15
         have c15b1:decide ((x6_1++(⟨#[41]⟩:ByteArray)).size+a0.size≤9223372036854775807)=true:=decide_eq_true c15
         try have c15b2:(9223372036854775807<(x6_1++(⟨#[41]⟩:ByteArray)).size+a0.size)=False:=eq_false (Nat.not_lt.2 c15)
         try have c15bx:(9223372036854775807<x6_1.size+1+a0.size)=False:=eq_false (Nat.not_lt.2 (by have h_:=c15;simp only[ByteArray.size_append]at h_;exact h_))
         simp only[Option.some.injEq,Prod.mk.injEq]at H;obtain⟨rfl,rfl⟩:=H
         go_wp2_with (first|(go_at_call 205;(with_reducible refine(hornbookref02_Right.calls k1 a0 true _ A12.out).mono ?_);rintro e w' ⟨rfl,⟨nd,rfl⟩⟩))
         all_goals go_ret2
         all_goals exact⟨by first|rfl|(simp;done)|(simp[*];done),by repeat (first|exact Drawn0.refl _|apply Drawn0.step)⟩
        ·rw[if_neg c15]at H
         exact absurd H (by simp)
       ·rw[if_neg c14]at H
        exact absurd H (by simp)
      ·replace c13:=Bool.eq_false_iff.mpr c13
       subst c13
       have H1:(some ((⟨#[]⟩:ByteArray),10))=some (r1,r2):=by rw[if_neg (show¬(false=true) by decide)]at H;exact H
       clear H
       have H:=H1
       clear H1;simp only[Option.some.injEq,Prod.mk.injEq]at H;obtain⟨rfl,rfl⟩:=H
       go_wp2_with (first|(go_at_call 205;(with_reducible refine(hornbookref02_Right.calls k1 a0 false _ A12.out).mono ?_);rintro e w' ⟨rfl,⟨nd,rfl⟩⟩))
       all_goals go_ret2
       all_goals exact⟨by first|rfl|(simp;done)|(simp[*];done),by repeat (first|exact Drawn0.refl _|apply Drawn0.step)⟩
end Go.Proofs.YtcocmlmligjjcaaGreatDoor.Q
