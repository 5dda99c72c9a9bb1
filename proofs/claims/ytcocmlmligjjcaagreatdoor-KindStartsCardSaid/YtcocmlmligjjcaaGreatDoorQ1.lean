-- SQUEEZED
-- Written by the program wip/tools/mp.py of this work, which drives the print of the kit; hand texts of this session among it.
import Derived.Test.YtcocmlmligjjcaaGreatDoorQ0
namespace Go.Proofs.YtcocmlmligjjcaaGreatDoor.Q
open Go.RowKit Go.Proofs.HW Go.Proofs.YtcocmlmligjjcaaGreatDoorW.PrintWords Go.Proofs.YtcocmlmligjjcaaGreatDoorW.PrintLast
set_option linter.unusedVariables false
set_option linter.unusedSimpArgs false
def bin_digit.f(a0:Int):Option (Bool):=if a0≥48 then(some (decide (a0≤57)))else(some false)
set_option maxHeartbeats 8000000 in
set_option maxRecDepth 100000 in
theorem bin_digit.calls(a0:Int)(r:Bool)(w:World)(h:bin_digit.f a0=some r):
  Calls Tryz.prog 242 #[.int .u8 a0] w fun e w'=>e= .returned (.bool r)∧Drawn0 w w':=by
 have H:(if a0≥48 then(some (decide (a0≤57)))else(some false))=some r:=h;clear h
 by_cases c2:a0≥48
 ·rw[if_pos c2]at H
  have c2b0:decide (48≤a0)=true:=decide_eq_true c2;clear c2;obtain rfl:=Option.some.inj H
  go_enter Tryz.func242,Tryz.ntmps242
  go_wp2
  all_goals go_ret
  all_goals exact⟨by first|rfl|(simp;done)|(simp[*];done),by repeat (first|exact Drawn0.refl _|apply Drawn0.step)⟩
 ·rw[if_neg c2]at H
  have c2b0:decide (48≤a0)=false:=decide_eq_false c2;clear c2;obtain rfl:=Option.some.inj H
  go_enter Tryz.func242,Tryz.ntmps242
  go_wp2
  all_goals go_ret
  all_goals exact⟨by first|rfl|(simp;done)|(simp[*];done),by repeat (first|exact Drawn0.refl _|apply Drawn0.step)⟩
def bin_letter.f(a0:Int):Option (Bool):=if a0≥97 then(if a0≤122 then(some true)else(if a0≥65 then(if a0≤90 then(some true)else(some (a0==95)))else(some (a0==95))))else(if a0≥65 then(if a0≤90 then(some true)else(some (a0==95)))else(some (a0==95)))
set_option maxHeartbeats 8000000 in
set_option maxRecDepth 100000 in
theorem bin_letter.calls(a0:Int)(r:Bool)(w:World)(h:bin_letter.f a0=some r):
  Calls Tryz.prog 243 #[.int .u8 a0] w fun e w'=>e= .returned (.bool r)∧Drawn0 w w':=by
 have H:(if a0≥97 then(if a0≤122 then(some true)else(if a0≥65 then(if a0≤90 then(some true)else(some (a0==95)))else(some (a0==95))))else(if a0≥65 then(if a0≤90 then(some true)else(some (a0==95)))else(some (a0==95))))=some r:=h;clear h
 by_cases c2:a0≥97
 ·rw[if_pos c2]at H
  have c2b0:decide (97≤a0)=true:=decide_eq_true c2;clear c2
  by_cases c3:a0≤122
  ·rw[if_pos c3]at H
   have c3b0:decide (a0≤122)=true:=decide_eq_true c3;clear c3;obtain rfl:=Option.some.inj H
   go_enter Tryz.func243,Tryz.ntmps243
   go_wp2
   all_goals go_ret
   all_goals exact⟨by first|rfl|(simp;done)|(simp[*];done),by repeat (first|exact Drawn0.refl _|apply Drawn0.step)⟩
  ·rw[if_neg c3]at H
   have c3b0:decide (a0≤122)=false:=decide_eq_false c3;clear c3
   by_cases c4:a0≥65
   ·rw[if_pos c4]at H
    have c4b0:decide (65≤a0)=true:=decide_eq_true c4;clear c4
    by_cases c5:a0≤90
    ·rw[if_pos c5]at H
     have c5b0:decide (a0≤90)=true:=decide_eq_true c5;clear c5;obtain rfl:=Option.some.inj H
     go_enter Tryz.func243,Tryz.ntmps243
     go_wp2
     all_goals go_ret
     all_goals exact⟨by first|rfl|(simp;done)|(simp[*];done),by repeat (first|exact Drawn0.refl _|apply Drawn0.step)⟩
    ·rw[if_neg c5]at H
     have c5b0:decide (a0≤90)=false:=decide_eq_false c5;clear c5;obtain rfl:=Option.some.inj H
     go_enter Tryz.func243,Tryz.ntmps243
     go_wp2
     all_goals go_ret
     all_goals exact⟨by first|rfl|(simp;done)|(simp[*];done),by repeat (first|exact Drawn0.refl _|apply Drawn0.step)⟩
   ·rw[if_neg c4]at H
    have c4b0:decide (65≤a0)=false:=decide_eq_false c4;clear c4;obtain rfl:=Option.some.inj H
    go_enter Tryz.func243,Tryz.ntmps243
    go_wp2
    all_goals go_ret
    all_goals exact⟨by first|rfl|(simp;done)|(simp[*];done),by repeat (first|exact Drawn0.refl _|apply Drawn0.step)⟩
 ·rw[if_neg c2]at H
  have c2b0:decide (97≤a0)=false:=decide_eq_false c2;clear c2
  by_cases c6:a0≥65
  ·rw[if_pos c6]at H
   have c6b0:decide (65≤a0)=true:=decide_eq_true c6;clear c6
   by_cases c7:a0≤90
   ·rw[if_pos c7]at H
    have c7b0:decide (a0≤90)=true:=decide_eq_true c7;clear c7;obtain rfl:=Option.some.inj H
    go_enter Tryz.func243,Tryz.ntmps243
    go_wp2
    all_goals go_ret
    all_goals exact⟨by first|rfl|(simp;done)|(simp[*];done),by repeat (first|exact Drawn0.refl _|apply Drawn0.step)⟩
   ·rw[if_neg c7]at H
    have c7b0:decide (a0≤90)=false:=decide_eq_false c7;clear c7;obtain rfl:=Option.some.inj H
    go_enter Tryz.func243,Tryz.ntmps243
    go_wp2
    all_goals go_ret
    all_goals exact⟨by first|rfl|(simp;done)|(simp[*];done),by repeat (first|exact Drawn0.refl _|apply Drawn0.step)⟩
  ·rw[if_neg c6]at H
   have c6b0:decide (65≤a0)=false:=decide_eq_false c6;clear c6;obtain rfl:=Option.some.inj H
   go_enter Tryz.func243,Tryz.ntmps243
   go_wp2
   all_goals go_ret
   all_goals exact⟨by first|rfl|(simp;done)|(simp[*];done),by repeat (first|exact Drawn0.refl _|apply Drawn0.step)⟩
mutual
def bin_Name.j0:Nat→ByteArray→Bool→Option (Bool)
 |0,_,_=>none
 |k+1,x0,x15=>if x15=true then(some false)else(bin_Name.l0 k x0 (x0.size:Int) 0)
def bin_Name.l0:Nat→ByteArray→Int→Int→Option (Bool)
 |0,_,_,_=>none
 |k+1,x0,x17,x18=>if x18<x17 then(if 0≤x18 then(if x18<(x0.size:Int)then((bin_letter.f (bt x0 x18)).bind fun t102=>(if t102=true then(bin_Name.l0 k x0 x17 (wrap64 (x18+1)))else((bin_digit.f (bt x0 x18)).bind fun t103=>(if t103=true then(bin_Name.l0 k x0 x17 (wrap64 (x18+1)))else(some false)))))else(none))else(none))else(some true)
end
def bin_Name.f(k:Nat)(a0:ByteArray):Option (Bool):=if a0.toList=([]:List UInt8)then(bin_Name.j0 k a0 true)else(if(a0.size:Int)>24 then(bin_Name.j0 k a0 true)else(if 0<(a0.size:Int)then((bin_digit.f (bt a0 0)).bind fun t101=>(bin_Name.j0 k a0 t101))else(none)))
set_option maxHeartbeats 8000000 in
set_option maxRecDepth 100000 in
theorem bin_Name.calls(k:Nat)(a0:ByteArray)(r:Bool)(w:World)(h:bin_Name.f k a0=some r):
  Calls Tryz.prog 159 #[.string a0] w fun e w'=>e= .returned (.bool r)∧Drawn0 w w':=by
 have H:(if a0.toList=([]:List UInt8)then(bin_Name.j0 k a0 true)else(if(a0.size:Int)>24 then(bin_Name.j0 k a0 true)else(if 0<(a0.size:Int)then((bin_digit.f (bt a0 0)).bind fun t101=>(bin_Name.j0 k a0 t101))else(none))))=some r:=h;clear h
 have HC2:=Aside0.mk H
 clear H
 go_enter Tryz.func159,Tryz.ntmps159
 go_upto_region 1 with(fail)
 go_cut [15] (fun v15 wc=> ∃(kq:Nat) (x15_1:Bool),v15= .bool x15_1∧Aside0 (bin_Name.j0 kq a0 x15_1=some r)∧Aside0 (kq≤k)∧Drawn0 w wc)
 case first=>
  have H:=HC2.out
  clear HC2
  by_cases c3:a0.toList=([]:List UInt8)
  ·rw[if_pos c3]at H
   have c3b0:(a0.toList==([]:List UInt8))=true:=beq_iff_eq.mpr c3;have c3b1:(a0.toList !=([]:List UInt8))=false:=bne_eq_false_iff_eq.mpr c3;clear c3;(first|rw [c3b0]|(simp only[i64_w,i32_w];rw[c3b0])|skip);have H':=Aside0.mk H;clear H;go_wp2;go_meet
   case rel=>exact⟨_,(true),(by first|rfl|(simp;done)|(simp[*];done)),H',⟨by first|omega|exact Nat.le_refl _⟩,by repeat (first|exact Drawn0.refl _|apply Drawn0.step)⟩
  ·rw[if_neg c3]at H
   have c3b0:(a0.toList==([]:List UInt8))=false:=beq_eq_false_iff_ne.mpr c3;have c3b1:(a0.toList !=([]:List UInt8))=true:=bne_iff_ne.mpr c3;(first|rw [c3b0]|(simp only[i64_w,i32_w];rw[c3b0])|skip)
   by_cases c4:(a0.size:Int)>24
   ·rw[if_pos c4]at H
    have c4b0:decide (24<(a0.size:Int))=true:=decide_eq_true c4;have c4b1:decide (24<a0.size)=true:=decide_eq_true (by omega);clear c4;have H':=Aside0.mk H;clear H;go_wp2;go_meet
    case rel=>exact⟨_,(true),(by first|rfl|(simp;done)|(simp[*];done)),H',⟨by first|omega|exact Nat.le_refl _⟩,by repeat (first|exact Drawn0.refl _|apply Drawn0.step)⟩
   ·rw[if_neg c4]at H
    have c4b0:decide (24<(a0.size:Int))=false:=decide_eq_false c4;have c4b1:decide (24<a0.size)=false:=decide_eq_false (by omega);clear c4
    by_cases c5:0<(a0.size:Int)
    ·rw[if_pos c5]at H
     have c5b0:decide (0<(a0.size:Int))=true:=decide_eq_true c5;have c5b1:decide (0<a0.size)=true:=decide_eq_true (by omega);clear c5;replace H:=Option.bind_eq_some_iff.mp H;obtain⟨t101,A70,H⟩:=H;replace H:(bin_Name.j0 k a0 t101)=some r:=H
     have A7:=Aside0.mk A70
     clear A70;have H':=Aside0.mk H;clear H;have p6:0≤(0:Int):=(by omega);have q6:0<a0.size:=(by have:(0:Int)<(a0.size:Int):=of_decide_eq_true (by first|(with_reducible assumption)|assumption);omega);have hx6: ∀h:0<a0.size,((a0[0]'h).toNat:Int)=bt a0 0:=bt_at a0 0;clear p6;have qi6:(0<(a0.size:Int))=True:=eq_true (of_decide_eq_true (by first|(with_reducible assumption)|assumption));replace q6:=eq_true q6
     go_wp2_with (first|(go_at_call 242;(with_reducible refine(bin_digit.calls (bt a0 0) t101 _ A7.out).mono ?_);rintro e w' ⟨rfl,⟨nd,rfl⟩⟩))
     go_meet
     case rel=>exact⟨_,(t101),(by first|rfl|(simp;done)|(simp[*];done)),H',⟨by first|omega|exact Nat.le_refl _⟩,by repeat (first|exact Drawn0.refl _|apply Drawn0.step)⟩
    ·rw[if_neg c5]at H
     exact absurd H (by simp)
 case rest=>
  clear HC2;(try clear c1);(try clear p2);(try clear c3);(try clear c3b0);(try clear c3b1);(try clear c4);(try clear c4b0);(try clear c4b1);(try clear c5);(try clear c5b0);(try clear c5b1);(try clear p6);(try clear q6);(try clear hx6);(try clear qi6);(try clear p6);(try clear q6);obtain⟨kq,x15_1,rfl,HA,HJ1,⟨mc1,rfl⟩⟩:=hcut
  cases kq with
  |zero=>exact absurd HA.out (by simp[bin_Name.j0])
  |succ kj1=>
   have H:=HA.out
   clear HA;simp only[bin_Name.j0]at H
   by_cases c8:x15_1=true
   ·subst c8
    have H1:(some false)=some r:=by rw[if_pos rfl]at H;exact H
    clear H
    have H:=H1
    clear H1;obtain rfl:=Option.some.inj H;go_wp2
    all_goals go_ret
    all_goals exact⟨by first|rfl|(simp;done)|(simp[*];done),by repeat (first|exact Drawn0.refl _|apply Drawn0.step)⟩
   ·replace c8:=Bool.eq_false_iff.mpr c8
    subst c8
    have H1:(bin_Name.l0 kj1 a0 (a0.size:Int) 0)=some r:=by rw[if_neg (show¬(false=true) by decide)]at H;exact H
    clear H
    have H:=H1
    clear H1;have H':=Aside0.mk H;clear H;go_wp2
    go_loopg [18] kj1 (fun kq v18 w'=> ∃(x18_2:Int),v18= .int .i64 x18_2∧Aside0 (bin_Name.l0 kq a0 (a0.size:Int) x18_2=some r)∧Aside0 (kq≤kj1)∧Drawn0 w w')
    case atStart=>exact⟨(0),(by first|rfl|(simp;done)|(simp[*];done)),H',⟨Nat.le_refl _⟩,by repeat (first|exact Drawn0.refl _|apply Drawn0.step)⟩
    case round=>
     clear H';(try clear c1);(try clear p2);(try clear c3);(try clear c3b0);(try clear c3b1);(try clear c4);(try clear c4b0);(try clear c4b1);(try clear c5);(try clear c5b0);(try clear c5b1);(try clear p6);(try clear q6);(try clear hx6);(try clear qi6);(try clear c8);(try clear p2);(try clear p6);(try clear q6);obtain⟨x18_2,rfl,HA,HK2,⟨m2,rfl⟩⟩:=hrel
     cases gk with
     |zero=>exact absurd HA.out (by simp[bin_Name.l0])
     |succ k2=>
      have H:=HA.out
      clear HA;simp only[bin_Name.l0]at H
      by_cases c9:x18_2<(a0.size:Int)
      ·rw[if_pos c9]at H
       have c9b0:decide (x18_2<(a0.size:Int))=true:=decide_eq_true c9;clear c9
       by_cases c10:0≤x18_2
       ·rw[if_pos c10]at H
        have c10b0:decide (0≤x18_2)=true:=decide_eq_true c10;clear c10
        by_cases c11:x18_2<(a0.size:Int)
        ·rw[if_pos c11]at H
         have c11b0:decide (x18_2<(a0.size:Int))=true:=decide_eq_true c11;clear c11;replace H:=Option.bind_eq_some_iff.mp H;obtain⟨t102,A130,H⟩:=H;replace H:(if t102=true then(bin_Name.l0 k2 a0 (a0.size:Int) (wrap64 (x18_2+1)))else((bin_digit.f (bt a0 x18_2)).bind fun t103=>(if t103=true then(bin_Name.l0 k2 a0 (a0.size:Int) (wrap64 (x18_2+1)))else(some false))))=some r:=H
         have A13:=Aside0.mk A130
         clear A130
         by_cases c14:t102=true
         ·subst c14
          have H1:(bin_Name.l0 k2 a0 (a0.size:Int) (wrap64 (x18_2+1)))=some r:=by rw[if_pos rfl]at H;exact H
          clear H
          have H:=H1
          clear H1;have H':=Aside0.mk H;clear H;have p12:0≤(x18_2:Int):=of_decide_eq_true (by first|(with_reducible assumption)|assumption);have q12:x18_2<(a0.size:Int):=of_decide_eq_true (by first|(with_reducible assumption)|assumption)
          have hx12:=bt_at a0 x18_2
          replace p12:=eq_true p12;replace q12:=eq_true q12
          go_wp2_with (first|((with_reducible refine gate_callee (f:=243) rfl ?_);refine goesL_ (some 24) rfl rfl Tryz.func243 (by kernel_rfl) rfl #[.int .u8 (bt a0 x18_2)] rfl (by(try simp only[List.map_toArray,List.map_cons,List.map_nil]);first|done|rfl|(simp only[List.length_drop,List.length_take];rfl)) ?_;(with_reducible refine(bin_letter.calls (bt a0 x18_2) true _ A13.out).mono ?_);rintro e w' ⟨rfl,⟨nd,rfl⟩⟩;refine⟨_,rfl,?_⟩))
          go_roundg k2
          case measure=>have:=HJ1.out;have:=HK2.out;omega
          case rel=>exact⟨(wrap64 (x18_2+1)),(by first|rfl|(simp;done)|(simp[*];done)),H',⟨by have:=HJ1.out;have:=HK2.out;omega⟩,by repeat (first|exact Drawn0.refl _|apply Drawn0.step)⟩
         ·replace c14:=Bool.eq_false_iff.mpr c14
          subst c14
          have H1:((bin_digit.f (bt a0 x18_2)).bind fun t103=>(if t103=true then(bin_Name.l0 k2 a0 (a0.size:Int) (wrap64 (x18_2+1)))else(some false)))=some r:=by rw[if_neg (show¬(false=true) by decide)]at H;exact H
          clear H
          have H:=H1
          clear H1;replace H:=Option.bind_eq_some_iff.mp H;obtain⟨t103,A160,H⟩:=H;replace H:(if t103=true then(bin_Name.l0 k2 a0 (a0.size:Int) (wrap64 (x18_2+1)))else(some false))=some r:=H
          have A16:=Aside0.mk A160
          clear A160
          by_cases c17:t103=true
          ·subst c17
           have H1:(bin_Name.l0 k2 a0 (a0.size:Int) (wrap64 (x18_2+1)))=some r:=by rw[if_pos rfl]at H;exact H
           clear H
           have H:=H1
           clear H1;have H':=Aside0.mk H;clear H;have p12:0≤(x18_2:Int):=of_decide_eq_true (by first|(with_reducible assumption)|assumption);have q12:x18_2<(a0.size:Int):=of_decide_eq_true (by first|(with_reducible assumption)|assumption)
           have hx12:=bt_at a0 x18_2
           replace p12:=eq_true p12;replace q12:=eq_true q12
           go_wp2_with (first|((with_reducible refine gate_callee (f:=243) rfl ?_);refine goesL_ (some 24) rfl rfl Tryz.func243 (by kernel_rfl) rfl #[.int .u8 (bt a0 x18_2)] rfl (by(try simp only[List.map_toArray,List.map_cons,List.map_nil]);first|done|rfl|(simp only[List.length_drop,List.length_take];rfl)) ?_;(with_reducible refine(bin_letter.calls (bt a0 x18_2) false _ A13.out).mono ?_);rintro e w' ⟨rfl,⟨nd,rfl⟩⟩;refine⟨_,rfl,?_⟩;have p15:0≤(x18_2:Int):=of_decide_eq_true (by first|(with_reducible assumption)|assumption);have q15:x18_2<(a0.size:Int):=of_decide_eq_true (by first|(with_reducible assumption)|assumption);have hx15:=bt_at a0 x18_2;replace p15:=eq_true p15;replace q15:=eq_true q15)|(go_at_call 242;(with_reducible refine(bin_digit.calls (bt a0 x18_2) true _ A16.out).mono ?_);rintro e w' ⟨rfl,⟨nd,rfl⟩⟩))
           go_roundg k2
           case measure=>have:=HJ1.out;have:=HK2.out;omega
           case rel=>exact⟨(wrap64 (x18_2+1)),(by first|rfl|(simp;done)|(simp[*];done)),H',⟨by have:=HJ1.out;have:=HK2.out;omega⟩,by repeat (first|exact Drawn0.refl _|apply Drawn0.step)⟩
          ·replace c17:=Bool.eq_false_iff.mpr c17
           subst c17
           have H1:(some false)=some r:=by rw[if_neg (show¬(false=true) by decide)]at H;exact H
           clear H
           have H:=H1
           clear H1;obtain rfl:=Option.some.inj H;have p12:0≤(x18_2:Int):=of_decide_eq_true (by first|(with_reducible assumption)|assumption);have q12:x18_2<(a0.size:Int):=of_decide_eq_true (by first|(with_reducible assumption)|assumption)
           have hx12:=bt_at a0 x18_2
           replace p12:=eq_true p12;replace q12:=eq_true q12
           go_wp2_with (first|((with_reducible refine gate_callee (f:=243) rfl ?_);refine goesL_ (some 24) rfl rfl Tryz.func243 (by kernel_rfl) rfl #[.int .u8 (bt a0 x18_2)] rfl (by(try simp only[List.map_toArray,List.map_cons,List.map_nil]);first|done|rfl|(simp only[List.length_drop,List.length_take];rfl)) ?_;(with_reducible refine(bin_letter.calls (bt a0 x18_2) false _ A13.out).mono ?_);rintro e w' ⟨rfl,⟨nd,rfl⟩⟩;refine⟨_,rfl,?_⟩;have p15:0≤(x18_2:Int):=of_decide_eq_true (by first|(with_reducible assumption)|assumption);have q15:x18_2<(a0.size:Int):=of_decide_eq_true (by first|(with_reducible assumption)|assumption);have hx15:=bt_at a0 x18_2;replace p15:=eq_true p15;replace q15:=eq_true q15)|(go_at_call 242;(with_reducible refine(bin_digit.calls (bt a0 x18_2) false _ A16.out).mono ?_);rintro e w' ⟨rfl,⟨nd,rfl⟩⟩))
           all_goals go_ret
           all_goals exact⟨by first|rfl|(simp;done)|(simp[*];done),by repeat (first|exact Drawn0.refl _|apply Drawn0.step)⟩
        ·rw[if_neg c11]at H
         exact absurd H (by simp)
       ·rw[if_neg c10]at H
        exact absurd H (by simp)
      ·rw[if_neg c9]at H
       have c9b0:decide (x18_2<(a0.size:Int))=false:=decide_eq_false c9;clear c9;obtain rfl:=Option.some.inj H;go_wp2
       all_goals go_ret
       all_goals exact⟨by first|rfl|(simp;done)|(simp[*];done),by repeat (first|exact Drawn0.refl _|apply Drawn0.step)⟩
mutual
def hornbookref01_Name.j0:Nat→ByteArray→Bool→Option (Bool)
 |0,_,_=>none
 |k+1,x0,x14=>if x14=true then(some false)else(hornbookref01_Name.l0 k x0 0)
def hornbookref01_Name.l0:Nat→ByteArray→Int→Option (Bool)
 |0,_,_=>none
 |k+1,x0,x3=>if x3<(x0.size:Int)then(if 0≤x3 then(if(bt x0 x3)≥97 then(if(bt x0 x3)≤122 then(if(bt x0 x3)≥48 then(hornbookref01_Name.l0 k x0 (wrap64 (x3+1)))else(hornbookref01_Name.l0 k x0 (wrap64 (x3+1))))else(if(bt x0 x3)≥65 then(if(bt x0 x3)≤90 then(if(bt x0 x3)≥48 then(hornbookref01_Name.l0 k x0 (wrap64 (x3+1)))else(hornbookref01_Name.l0 k x0 (wrap64 (x3+1))))else(if(bt x0 x3)≥48 then(if((bt x0 x3)=95)then(hornbookref01_Name.l0 k x0 (wrap64 (x3+1)))else(if((bt x0 x3)≤57)then(if x3=0 then(some false)else(hornbookref01_Name.l0 k x0 (wrap64 (x3+1))))else(some false)))else(if((bt x0 x3)=95)then(hornbookref01_Name.l0 k x0 (wrap64 (x3+1)))else(some false))))else(if(bt x0 x3)≥48 then(if((bt x0 x3)=95)then(hornbookref01_Name.l0 k x0 (wrap64 (x3+1)))else(if((bt x0 x3)≤57)then(if x3=0 then(some false)else(hornbookref01_Name.l0 k x0 (wrap64 (x3+1))))else(some false)))else(if((bt x0 x3)=95)then(hornbookref01_Name.l0 k x0 (wrap64 (x3+1)))else(some false)))))else(if(bt x0 x3)≥65 then(if(bt x0 x3)≤90 then(if(bt x0 x3)≥48 then(hornbookref01_Name.l0 k x0 (wrap64 (x3+1)))else(hornbookref01_Name.l0 k x0 (wrap64 (x3+1))))else(if(bt x0 x3)≥48 then(if((bt x0 x3)=95)then(hornbookref01_Name.l0 k x0 (wrap64 (x3+1)))else(if((bt x0 x3)≤57)then(if x3=0 then(some false)else(hornbookref01_Name.l0 k x0 (wrap64 (x3+1))))else(some false)))else(if((bt x0 x3)=95)then(hornbookref01_Name.l0 k x0 (wrap64 (x3+1)))else(some false))))else(if(bt x0 x3)≥48 then(if((bt x0 x3)=95)then(hornbookref01_Name.l0 k x0 (wrap64 (x3+1)))else(if((bt x0 x3)≤57)then(if x3=0 then(some false)else(hornbookref01_Name.l0 k x0 (wrap64 (x3+1))))else(some false)))else(if((bt x0 x3)=95)then(hornbookref01_Name.l0 k x0 (wrap64 (x3+1)))else(some false)))))else(none))else(some true)
end
def hornbookref01_Name.f(k:Nat)(a0:ByteArray):Option (Bool):=if(a0.size:Int)<1 then(hornbookref01_Name.j0 k a0 true)else(hornbookref01_Name.j0 k a0 (decide ((a0.size:Int)>24)))
set_option maxHeartbeats 8000000 in
set_option maxRecDepth 100000 in
theorem hornbookref01_Name.calls(k:Nat)(a0:ByteArray)(r:Bool)(w:World)(h:hornbookref01_Name.f k a0=some r):
  Calls Tryz.prog 204 #[.string a0] w fun e w'=>e= .returned (.bool r)∧Drawn0 w w':=by
 have H:(if(a0.size:Int)<1 then(hornbookref01_Name.j0 k a0 true)else(hornbookref01_Name.j0 k a0 (decide ((a0.size:Int)>24))))=some r:=h;clear h
 have HC2:=Aside0.mk H
 clear H
 go_enter Tryz.func204,Tryz.ntmps204
 go_upto_region 1 with(fail)
 go_cut [14] (fun v14 wc=> ∃(kq:Nat) (x14_1:Bool),v14= .bool x14_1∧Aside0 (hornbookref01_Name.j0 kq a0 x14_1=some r)∧Aside0 (kq≤k)∧Drawn0 w wc)
 case first=>
  have H:=HC2.out
  clear HC2
  by_cases c3:(a0.size:Int)<1
  ·rw[if_pos c3]at H
   have c3b0:decide ((a0.size:Int)<1)=true:=decide_eq_true c3;have c3b1:decide (a0.size<1)=true:=decide_eq_true (by omega);clear c3;(first|rw [c3b0]|(simp only[i64_w,i32_w];rw[c3b0])|skip);have H':=Aside0.mk H;clear H;go_wp2;go_meet
   case rel=>exact⟨_,(true),(by first|rfl|(simp;done)|(simp[*];done)),H',⟨by first|omega|exact Nat.le_refl _⟩,by repeat (first|exact Drawn0.refl _|apply Drawn0.step)⟩
  ·rw[if_neg c3]at H
   have c3b0:decide ((a0.size:Int)<1)=false:=decide_eq_false c3;have c3b1:decide (a0.size<1)=false:=decide_eq_false (by omega);clear c3;(first|rw [c3b0]|(simp only[i64_w,i32_w];rw[c3b0])|skip);have H':=Aside0.mk H;clear H;go_wp2;go_meet
   case rel=>exact⟨_,(decide ((a0.size:Int)>24)),(by first|rfl|(simp;done)|(simp[*];done)),H',⟨by first|omega|exact Nat.le_refl _⟩,by repeat (first|exact Drawn0.refl _|apply Drawn0.step)⟩
 case rest=>
  clear HC2;(try clear c2);(try clear p2);(try clear c3);(try clear c3b0);(try clear c3b1);obtain⟨kq,x14_1,rfl,HA,HJ1,⟨mc1,rfl⟩⟩:=hcut
  cases kq with
  |zero=>exact absurd HA.out (by simp[hornbookref01_Name.j0])
  |succ kj1=>
   have H:=HA.out
   clear HA;simp only[hornbookref01_Name.j0]at H
   by_cases c4:x14_1=true
   ·subst c4
    have H1:(some false)=some r:=by rw[if_pos rfl]at H;exact H
    clear H
    have H:=H1
    clear H1;obtain rfl:=Option.some.inj H;go_wp2
    all_goals go_ret
    all_goals exact⟨by first|rfl|(simp;done)|(simp[*];done),by repeat (first|exact Drawn0.refl _|apply Drawn0.step)⟩
   ·replace c4:=Bool.eq_false_iff.mpr c4
    subst c4
    have H1:(hornbookref01_Name.l0 kj1 a0 0)=some r:=by rw[if_neg (show¬(false=true) by decide)]at H;exact H
    clear H
    have H:=H1
    clear H1;have H':=Aside0.mk H;clear H;go_wp2
    go_loopg [3] kj1 (fun kq v3 w'=> ∃(x3_2:Int),v3= .int .i64 x3_2∧Aside0 (hornbookref01_Name.l0 kq a0 x3_2=some r)∧Aside0 (kq≤kj1)∧Drawn0 w w')
    case atStart=>exact⟨(0),(by first|rfl|(simp;done)|(simp[*];done)),H',⟨Nat.le_refl _⟩,by repeat (first|exact Drawn0.refl _|apply Drawn0.step)⟩
    case round=>
     clear H';(try clear c1);(try clear c2);(try clear p2);(try clear c3);(try clear c3b0);(try clear c3b1);(try clear c4);(try clear p2);obtain⟨x3_2,rfl,HA,HK2,⟨m2,rfl⟩⟩:=hrel
     cases gk with
     |zero=>exact absurd HA.out (by simp[hornbookref01_Name.l0])
     |succ k2=>
      have H:=HA.out
      clear HA;simp only[hornbookref01_Name.l0]at H
      by_cases c5:x3_2<(a0.size:Int)
      ·rw[if_pos c5]at H
       have c5b0:decide (x3_2<(a0.size:Int))=true:=decide_eq_true c5;clear c5
       by_cases c6:0≤x3_2
       ·rw[if_pos c6]at H
        have c6b0:decide (0≤x3_2)=true:=decide_eq_true c6;clear c6
        by_cases c8:(bt a0 x3_2)≥97
        ·rw[if_pos c8]at H
         have c8b0:decide (97≤(bt a0 x3_2))=true:=decide_eq_true c8;clear c8
         by_cases c9:(bt a0 x3_2)≤122
         ·rw[if_pos c9]at H
          have c9b0:decide ((bt a0 x3_2)≤122)=true:=decide_eq_true c9;clear c9
          by_cases c10:(bt a0 x3_2)≥48
          ·rw[if_pos c10]at H
           have c10b0:decide (48≤(bt a0 x3_2))=true:=decide_eq_true c10;clear c10;have H':=Aside0.mk H;clear H;have p7:0≤(x3_2:Int):=of_decide_eq_true (by first|(with_reducible assumption)|assumption);have q7:x3_2<(a0.size:Int):=of_decide_eq_true (by first|(with_reducible assumption)|assumption)
           have hx7:=bt_at a0 x3_2
           replace p7:=eq_true p7;replace q7:=eq_true q7;go_wp2
           go_roundg k2
           case measure=>have:=HJ1.out;have:=HK2.out;omega
           case rel=>exact⟨(wrap64 (x3_2+1)),(by first|rfl|(simp;done)|(simp[*];done)),H',⟨by have:=HJ1.out;have:=HK2.out;omega⟩,by repeat (first|exact Drawn0.refl _|apply Drawn0.step)⟩
          ·rw[if_neg c10]at H
           have c10b0:decide (48≤(bt a0 x3_2))=false:=decide_eq_false c10;clear c10;have H':=Aside0.mk H;clear H;have p7:0≤(x3_2:Int):=of_decide_eq_true (by first|(with_reducible assumption)|assumption);have q7:x3_2<(a0.size:Int):=of_decide_eq_true (by first|(with_reducible assumption)|assumption)
           have hx7:=bt_at a0 x3_2
           replace p7:=eq_true p7;replace q7:=eq_true q7;go_wp2
           go_roundg k2
           case measure=>have:=HJ1.out;have:=HK2.out;omega
           case rel=>exact⟨(wrap64 (x3_2+1)),(by first|rfl|(simp;done)|(simp[*];done)),H',⟨by have:=HJ1.out;have:=HK2.out;omega⟩,by repeat (first|exact Drawn0.refl _|apply Drawn0.step)⟩
         ·rw[if_neg c9]at H
          have c9b0:decide ((bt a0 x3_2)≤122)=false:=decide_eq_false c9;clear c9
          by_cases c11:(bt a0 x3_2)≥65
          ·rw[if_pos c11]at H
           have c11b0:decide (65≤(bt a0 x3_2))=true:=decide_eq_true c11;clear c11
           by_cases c12:(bt a0 x3_2)≤90
           ·rw[if_pos c12]at H
            have c12b0:decide ((bt a0 x3_2)≤90)=true:=decide_eq_true c12;clear c12
            by_cases c13:(bt a0 x3_2)≥48
            ·rw[if_pos c13]at H
             have c13b0:decide (48≤(bt a0 x3_2))=true:=decide_eq_true c13;clear c13;have H':=Aside0.mk H;clear H;have p7:0≤(x3_2:Int):=of_decide_eq_true (by first|(with_reducible assumption)|assumption);have q7:x3_2<(a0.size:Int):=of_decide_eq_true (by first|(with_reducible assumption)|assumption)
             have hx7:=bt_at a0 x3_2
             replace p7:=eq_true p7;replace q7:=eq_true q7;go_wp2
             go_roundg k2
             case measure=>have:=HJ1.out;have:=HK2.out;omega
             case rel=>exact⟨(wrap64 (x3_2+1)),(by first|rfl|(simp;done)|(simp[*];done)),H',⟨by have:=HJ1.out;have:=HK2.out;omega⟩,by repeat (first|exact Drawn0.refl _|apply Drawn0.step)⟩
            ·rw[if_neg c13]at H
             have c13b0:decide (48≤(bt a0 x3_2))=false:=decide_eq_false c13;clear c13;have H':=Aside0.mk H;clear H;have p7:0≤(x3_2:Int):=of_decide_eq_true (by first|(with_reducible assumption)|assumption);have q7:x3_2<(a0.size:Int):=of_decide_eq_true (by first|(with_reducible assumption)|assumption)
             have hx7:=bt_at a0 x3_2
             replace p7:=eq_true p7;replace q7:=eq_true q7;go_wp2
             go_roundg k2
             case measure=>have:=HJ1.out;have:=HK2.out;omega
             case rel=>exact⟨(wrap64 (x3_2+1)),(by first|rfl|(simp;done)|(simp[*];done)),H',⟨by have:=HJ1.out;have:=HK2.out;omega⟩,by repeat (first|exact Drawn0.refl _|apply Drawn0.step)⟩
           ·rw[if_neg c12]at H
            have c12b0:decide ((bt a0 x3_2)≤90)=false:=decide_eq_false c12;clear c12
            by_cases c14:(bt a0 x3_2)≥48
            ·rw[if_pos c14]at H
             have c14b0:decide (48≤(bt a0 x3_2))=true:=decide_eq_true c14;clear c14
             by_cases c15:((bt a0 x3_2)=95)
             ·rw[if_pos c15]at H
              have c15b0:((bt a0 x3_2)==95)=true:=beq_iff_eq.mpr c15;have c15b1:((bt a0 x3_2) !=95)=false:=bne_eq_false_iff_eq.mpr c15;clear c15;have H':=Aside0.mk H;clear H;have p7:0≤(x3_2:Int):=of_decide_eq_true (by first|(with_reducible assumption)|assumption);have q7:x3_2<(a0.size:Int):=of_decide_eq_true (by first|(with_reducible assumption)|assumption)
              have hx7:=bt_at a0 x3_2
              replace p7:=eq_true p7;replace q7:=eq_true q7;go_wp2
              go_roundg k2
              case measure=>have:=HJ1.out;have:=HK2.out;omega
              case rel=>exact⟨(wrap64 (x3_2+1)),(by first|rfl|(simp;done)|(simp[*];done)),H',⟨by have:=HJ1.out;have:=HK2.out;omega⟩,by repeat (first|exact Drawn0.refl _|apply Drawn0.step)⟩
             ·rw[if_neg c15]at H
              have c15b0:((bt a0 x3_2)==95)=false:=beq_eq_false_iff_ne.mpr c15;have c15b1:((bt a0 x3_2) !=95)=true:=bne_iff_ne.mpr c15
              by_cases c16:((bt a0 x3_2)≤57)
              ·rw[if_pos c16]at H
               have c16b0:decide ((bt a0 x3_2)≤57)=true:=decide_eq_true c16;clear c16
               by_cases c17:x3_2=0
               ·rw[if_pos c17]at H
                have c17b0:(x3_2==0)=true:=beq_iff_eq.mpr c17;have c17b1:(x3_2 !=0)=false:=bne_eq_false_iff_eq.mpr c17;clear c17;obtain rfl:=Option.some.inj H;have p7:0≤(x3_2:Int):=of_decide_eq_true (by first|(with_reducible assumption)|assumption);have q7:x3_2<(a0.size:Int):=of_decide_eq_true (by first|(with_reducible assumption)|assumption)
                have hx7:=bt_at a0 x3_2
                replace p7:=eq_true p7;replace q7:=eq_true q7;go_wp2
                all_goals go_ret
                all_goals exact⟨by first|rfl|(simp;done)|(simp[*];done),by repeat (first|exact Drawn0.refl _|apply Drawn0.step)⟩
               ·rw[if_neg c17]at H
                have c17b0:(x3_2==0)=false:=beq_eq_false_iff_ne.mpr c17;have c17b1:(x3_2 !=0)=true:=bne_iff_ne.mpr c17;have H':=Aside0.mk H;clear H;have p7:0≤(x3_2:Int):=of_decide_eq_true (by first|(with_reducible assumption)|assumption);have q7:x3_2<(a0.size:Int):=of_decide_eq_true (by first|(with_reducible assumption)|assumption)
                have hx7:=bt_at a0 x3_2
                replace p7:=eq_true p7;replace q7:=eq_true q7;go_wp2
                go_roundg k2
                case measure=>have:=HJ1.out;have:=HK2.out;omega
                case rel=>exact⟨(wrap64 (x3_2+1)),(by first|rfl|(simp;done)|(simp[*];done)),H',⟨by have:=HJ1.out;have:=HK2.out;omega⟩,by repeat (first|exact Drawn0.refl _|apply Drawn0.step)⟩
              ·rw[if_neg c16]at H
               have c16b0:decide ((bt a0 x3_2)≤57)=false:=decide_eq_false c16;clear c16;obtain rfl:=Option.some.inj H;have p7:0≤(x3_2:Int):=of_decide_eq_true (by first|(with_reducible assumption)|assumption);have q7:x3_2<(a0.size:Int):=of_decide_eq_true (by first|(with_reducible assumption)|assumption)
               have hx7:=bt_at a0 x3_2
               replace p7:=eq_true p7;replace q7:=eq_true q7;go_wp2
               all_goals go_ret
               all_goals exact⟨by first|rfl|(simp;done)|(simp[*];done),by repeat (first|exact Drawn0.refl _|apply Drawn0.step)⟩
            ·rw[if_neg c14]at H
             have c14b0:decide (48≤(bt a0 x3_2))=false:=decide_eq_false c14;clear c14
             by_cases c18:((bt a0 x3_2)=95)
             ·rw[if_pos c18]at H
              have c18b0:((bt a0 x3_2)==95)=true:=beq_iff_eq.mpr c18;have c18b1:((bt a0 x3_2) !=95)=false:=bne_eq_false_iff_eq.mpr c18;clear c18;have H':=Aside0.mk H;clear H;have p7:0≤(x3_2:Int):=of_decide_eq_true (by first|(with_reducible assumption)|assumption);have q7:x3_2<(a0.size:Int):=of_decide_eq_true (by first|(with_reducible assumption)|assumption)
              have hx7:=bt_at a0 x3_2
              replace p7:=eq_true p7;replace q7:=eq_true q7;go_wp2
              go_roundg k2
              case measure=>have:=HJ1.out;have:=HK2.out;omega
              case rel=>exact⟨(wrap64 (x3_2+1)),(by first|rfl|(simp;done)|(simp[*];done)),H',⟨by have:=HJ1.out;have:=HK2.out;omega⟩,by repeat (first|exact Drawn0.refl _|apply Drawn0.step)⟩
             ·rw[if_neg c18]at H
              have c18b0:((bt a0 x3_2)==95)=false:=beq_eq_false_iff_ne.mpr c18;have c18b1:((bt a0 x3_2) !=95)=true:=bne_iff_ne.mpr c18;obtain rfl:=Option.some.inj H;have p7:0≤(x3_2:Int):=of_decide_eq_true (by first|(with_reducible assumption)|assumption);have q7:x3_2<(a0.size:Int):=of_decide_eq_true (by first|(with_reducible assumption)|assumption)
              have hx7:=bt_at a0 x3_2
              replace p7:=eq_true p7;replace q7:=eq_true q7;go_wp2
              all_goals go_ret
              all_goals exact⟨by first|rfl|(simp;done)|(simp[*];done),by repeat (first|exact Drawn0.refl _|apply Drawn0.step)⟩
          ·rw[if_neg c11]at H
           have c11b0:decide (65≤(bt a0 x3_2))=false:=decide_eq_false c11;clear c11
           by_cases c19:(bt a0 x3_2)≥48
           ·rw[if_pos c19]at H
            have c19b0:decide (48≤(bt a0 x3_2))=true:=decide_eq_true c19;clear c19
            by_cases c20:((bt a0 x3_2)=95)
            ·rw[if_pos c20]at H
             have c20b0:((bt a0 x3_2)==95)=true:=beq_iff_eq.mpr c20;have c20b1:((bt a0 x3_2) !=95)=false:=bne_eq_false_iff_eq.mpr c20;clear c20;have H':=Aside0.mk H;clear H;have p7:0≤(x3_2:Int):=of_decide_eq_true (by first|(with_reducible assumption)|assumption);have q7:x3_2<(a0.size:Int):=of_decide_eq_true (by first|(with_reducible assumption)|assumption)
             have hx7:=bt_at a0 x3_2
             replace p7:=eq_true p7;replace q7:=eq_true q7;go_wp2
             go_roundg k2
             case measure=>have:=HJ1.out;have:=HK2.out;omega
             case rel=>exact⟨(wrap64 (x3_2+1)),(by first|rfl|(simp;done)|(simp[*];done)),H',⟨by have:=HJ1.out;have:=HK2.out;omega⟩,by repeat (first|exact Drawn0.refl _|apply Drawn0.step)⟩
            ·rw[if_neg c20]at H
             have c20b0:((bt a0 x3_2)==95)=false:=beq_eq_false_iff_ne.mpr c20;have c20b1:((bt a0 x3_2) !=95)=true:=bne_iff_ne.mpr c20
             by_cases c21:((bt a0 x3_2)≤57)
             ·rw[if_pos c21]at H
              have c21b0:decide ((bt a0 x3_2)≤57)=true:=decide_eq_true c21;clear c21
              by_cases c22:x3_2=0
              ·rw[if_pos c22]at H
               have c22b0:(x3_2==0)=true:=beq_iff_eq.mpr c22;have c22b1:(x3_2 !=0)=false:=bne_eq_false_iff_eq.mpr c22;clear c22;obtain rfl:=Option.some.inj H;have p7:0≤(x3_2:Int):=of_decide_eq_true (by first|(with_reducible assumption)|assumption);have q7:x3_2<(a0.size:Int):=of_decide_eq_true (by first|(with_reducible assumption)|assumption)
               have hx7:=bt_at a0 x3_2
               replace p7:=eq_true p7;replace q7:=eq_true q7;go_wp2
               all_goals go_ret
               all_goals exact⟨by first|rfl|(simp;done)|(simp[*];done),by repeat (first|exact Drawn0.refl _|apply Drawn0.step)⟩
              ·rw[if_neg c22]at H
               have c22b0:(x3_2==0)=false:=beq_eq_false_iff_ne.mpr c22;have c22b1:(x3_2 !=0)=true:=bne_iff_ne.mpr c22;have H':=Aside0.mk H;clear H;have p7:0≤(x3_2:Int):=of_decide_eq_true (by first|(with_reducible assumption)|assumption);have q7:x3_2<(a0.size:Int):=of_decide_eq_true (by first|(with_reducible assumption)|assumption)
               have hx7:=bt_at a0 x3_2
               replace p7:=eq_true p7;replace q7:=eq_true q7;go_wp2
               go_roundg k2
               case measure=>have:=HJ1.out;have:=HK2.out;omega
               case rel=>exact⟨(wrap64 (x3_2+1)),(by first|rfl|(simp;done)|(simp[*];done)),H',⟨by have:=HJ1.out;have:=HK2.out;omega⟩,by repeat (first|exact Drawn0.refl _|apply Drawn0.step)⟩
             ·rw[if_neg c21]at H
              have c21b0:decide ((bt a0 x3_2)≤57)=false:=decide_eq_false c21;clear c21;obtain rfl:=Option.some.inj H;have p7:0≤(x3_2:Int):=of_decide_eq_true (by first|(with_reducible assumption)|assumption);have q7:x3_2<(a0.size:Int):=of_decide_eq_true (by first|(with_reducible assumption)|assumption)
              have hx7:=bt_at a0 x3_2
              replace p7:=eq_true p7;replace q7:=eq_true q7;go_wp2
              all_goals go_ret
              all_goals exact⟨by first|rfl|(simp;done)|(simp[*];done),by repeat (first|exact Drawn0.refl _|apply Drawn0.step)⟩
           ·rw[if_neg c19]at H
            have c19b0:decide (48≤(bt a0 x3_2))=false:=decide_eq_false c19;clear c19
            by_cases c23:((bt a0 x3_2)=95)
            ·rw[if_pos c23]at H
             have c23b0:((bt a0 x3_2)==95)=true:=beq_iff_eq.mpr c23;have c23b1:((bt a0 x3_2) !=95)=false:=bne_eq_false_iff_eq.mpr c23;clear c23;have H':=Aside0.mk H;clear H;have p7:0≤(x3_2:Int):=of_decide_eq_true (by first|(with_reducible assumption)|assumption);have q7:x3_2<(a0.size:Int):=of_decide_eq_true (by first|(with_reducible assumption)|assumption)
             have hx7:=bt_at a0 x3_2
             replace p7:=eq_true p7;replace q7:=eq_true q7;go_wp2
             go_roundg k2
             case measure=>have:=HJ1.out;have:=HK2.out;omega
             case rel=>exact⟨(wrap64 (x3_2+1)),(by first|rfl|(simp;done)|(simp[*];done)),H',⟨by have:=HJ1.out;have:=HK2.out;omega⟩,by repeat (first|exact Drawn0.refl _|apply Drawn0.step)⟩
            ·rw[if_neg c23]at H
             have c23b0:((bt a0 x3_2)==95)=false:=beq_eq_false_iff_ne.mpr c23;have c23b1:((bt a0 x3_2) !=95)=true:=bne_iff_ne.mpr c23;obtain rfl:=Option.some.inj H;have p7:0≤(x3_2:Int):=of_decide_eq_true (by first|(with_reducible assumption)|assumption);have q7:x3_2<(a0.size:Int):=of_decide_eq_true (by first|(with_reducible assumption)|assumption)
             have hx7:=bt_at a0 x3_2
             replace p7:=eq_true p7;replace q7:=eq_true q7;go_wp2
             all_goals go_ret
             all_goals exact⟨by first|rfl|(simp;done)|(simp[*];done),by repeat (first|exact Drawn0.refl _|apply Drawn0.step)⟩
        ·rw[if_neg c8]at H
         have c8b0:decide (97≤(bt a0 x3_2))=false:=decide_eq_false c8;clear c8
         by_cases c24:(bt a0 x3_2)≥65
         ·rw[if_pos c24]at H
          have c24b0:decide (65≤(bt a0 x3_2))=true:=decide_eq_true c24;clear c24
          by_cases c25:(bt a0 x3_2)≤90
          ·rw[if_pos c25]at H
           have c25b0:decide ((bt a0 x3_2)≤90)=true:=decide_eq_true c25;clear c25
           by_cases c26:(bt a0 x3_2)≥48
           ·rw[if_pos c26]at H
            have c26b0:decide (48≤(bt a0 x3_2))=true:=decide_eq_true c26;clear c26;have H':=Aside0.mk H;clear H;have p7:0≤(x3_2:Int):=of_decide_eq_true (by first|(with_reducible assumption)|assumption);have q7:x3_2<(a0.size:Int):=of_decide_eq_true (by first|(with_reducible assumption)|assumption)
            have hx7:=bt_at a0 x3_2
            replace p7:=eq_true p7;replace q7:=eq_true q7;go_wp2
            go_roundg k2
            case measure=>have:=HJ1.out;have:=HK2.out;omega
            case rel=>exact⟨(wrap64 (x3_2+1)),(by first|rfl|(simp;done)|(simp[*];done)),H',⟨by have:=HJ1.out;have:=HK2.out;omega⟩,by repeat (first|exact Drawn0.refl _|apply Drawn0.step)⟩
           ·rw[if_neg c26]at H
            have c26b0:decide (48≤(bt a0 x3_2))=false:=decide_eq_false c26;clear c26;have H':=Aside0.mk H;clear H;have p7:0≤(x3_2:Int):=of_decide_eq_true (by first|(with_reducible assumption)|assumption);have q7:x3_2<(a0.size:Int):=of_decide_eq_true (by first|(with_reducible assumption)|assumption)
            have hx7:=bt_at a0 x3_2
            replace p7:=eq_true p7;replace q7:=eq_true q7;go_wp2
            go_roundg k2
            case measure=>have:=HJ1.out;have:=HK2.out;omega
            case rel=>exact⟨(wrap64 (x3_2+1)),(by first|rfl|(simp;done)|(simp[*];done)),H',⟨by have:=HJ1.out;have:=HK2.out;omega⟩,by repeat (first|exact Drawn0.refl _|apply Drawn0.step)⟩
          ·rw[if_neg c25]at H
           have c25b0:decide ((bt a0 x3_2)≤90)=false:=decide_eq_false c25;clear c25
           by_cases c27:(bt a0 x3_2)≥48
           ·rw[if_pos c27]at H
            have c27b0:decide (48≤(bt a0 x3_2))=true:=decide_eq_true c27;clear c27
            by_cases c28:((bt a0 x3_2)=95)
            ·rw[if_pos c28]at H
             have c28b0:((bt a0 x3_2)==95)=true:=beq_iff_eq.mpr c28;have c28b1:((bt a0 x3_2) !=95)=false:=bne_eq_false_iff_eq.mpr c28;clear c28;have H':=Aside0.mk H;clear H;have p7:0≤(x3_2:Int):=of_decide_eq_true (by first|(with_reducible assumption)|assumption);have q7:x3_2<(a0.size:Int):=of_decide_eq_true (by first|(with_reducible assumption)|assumption)
             have hx7:=bt_at a0 x3_2
             replace p7:=eq_true p7;replace q7:=eq_true q7;go_wp2
             go_roundg k2
             case measure=>have:=HJ1.out;have:=HK2.out;omega
             case rel=>exact⟨(wrap64 (x3_2+1)),(by first|rfl|(simp;done)|(simp[*];done)),H',⟨by have:=HJ1.out;have:=HK2.out;omega⟩,by repeat (first|exact Drawn0.refl _|apply Drawn0.step)⟩
            ·rw[if_neg c28]at H
             have c28b0:((bt a0 x3_2)==95)=false:=beq_eq_false_iff_ne.mpr c28;have c28b1:((bt a0 x3_2) !=95)=true:=bne_iff_ne.mpr c28
             by_cases c29:((bt a0 x3_2)≤57)
             ·rw[if_pos c29]at H
              have c29b0:decide ((bt a0 x3_2)≤57)=true:=decide_eq_true c29;clear c29
              by_cases c30:x3_2=0
              ·rw[if_pos c30]at H
               have c30b0:(x3_2==0)=true:=beq_iff_eq.mpr c30;have c30b1:(x3_2 !=0)=false:=bne_eq_false_iff_eq.mpr c30;clear c30;obtain rfl:=Option.some.inj H;have p7:0≤(x3_2:Int):=of_decide_eq_true (by first|(with_reducible assumption)|assumption);have q7:x3_2<(a0.size:Int):=of_decide_eq_true (by first|(with_reducible assumption)|assumption)
               have hx7:=bt_at a0 x3_2
               replace p7:=eq_true p7;replace q7:=eq_true q7;go_wp2
               all_goals go_ret
               all_goals exact⟨by first|rfl|(simp;done)|(simp[*];done),by repeat (first|exact Drawn0.refl _|apply Drawn0.step)⟩
              ·rw[if_neg c30]at H
               have c30b0:(x3_2==0)=false:=beq_eq_false_iff_ne.mpr c30;have c30b1:(x3_2 !=0)=true:=bne_iff_ne.mpr c30;have H':=Aside0.mk H;clear H;have p7:0≤(x3_2:Int):=of_decide_eq_true (by first|(with_reducible assumption)|assumption);have q7:x3_2<(a0.size:Int):=of_decide_eq_true (by first|(with_reducible assumption)|assumption)
               have hx7:=bt_at a0 x3_2
               replace p7:=eq_true p7;replace q7:=eq_true q7;go_wp2
               go_roundg k2
               case measure=>have:=HJ1.out;have:=HK2.out;omega
               case rel=>exact⟨(wrap64 (x3_2+1)),(by first|rfl|(simp;done)|(simp[*];done)),H',⟨by have:=HJ1.out;have:=HK2.out;omega⟩,by repeat (first|exact Drawn0.refl _|apply Drawn0.step)⟩
             ·rw[if_neg c29]at H
              have c29b0:decide ((bt a0 x3_2)≤57)=false:=decide_eq_false c29;clear c29;obtain rfl:=Option.some.inj H;have p7:0≤(x3_2:Int):=of_decide_eq_true (by first|(with_reducible assumption)|assumption);have q7:x3_2<(a0.size:Int):=of_decide_eq_true (by first|(with_reducible assumption)|assumption)
              have hx7:=bt_at a0 x3_2
              replace p7:=eq_true p7;replace q7:=eq_true q7;go_wp2
              all_goals go_ret
              all_goals exact⟨by first|rfl|(simp;done)|(simp[*];done),by repeat (first|exact Drawn0.refl _|apply Drawn0.step)⟩
           ·rw[if_neg c27]at H
            have c27b0:decide (48≤(bt a0 x3_2))=false:=decide_eq_false c27;clear c27
            by_cases c31:((bt a0 x3_2)=95)
            ·rw[if_pos c31]at H
             have c31b0:((bt a0 x3_2)==95)=true:=beq_iff_eq.mpr c31;have c31b1:((bt a0 x3_2) !=95)=false:=bne_eq_false_iff_eq.mpr c31;clear c31;have H':=Aside0.mk H;clear H;have p7:0≤(x3_2:Int):=of_decide_eq_true (by first|(with_reducible assumption)|assumption);have q7:x3_2<(a0.size:Int):=of_decide_eq_true (by first|(with_reducible assumption)|assumption)
             have hx7:=bt_at a0 x3_2
             replace p7:=eq_true p7;replace q7:=eq_true q7;go_wp2
             go_roundg k2
             case measure=>have:=HJ1.out;have:=HK2.out;omega
             case rel=>exact⟨(wrap64 (x3_2+1)),(by first|rfl|(simp;done)|(simp[*];done)),H',⟨by have:=HJ1.out;have:=HK2.out;omega⟩,by repeat (first|exact Drawn0.refl _|apply Drawn0.step)⟩
            ·rw[if_neg c31]at H
             have c31b0:((bt a0 x3_2)==95)=false:=beq_eq_false_iff_ne.mpr c31;have c31b1:((bt a0 x3_2) !=95)=true:=bne_iff_ne.mpr c31;obtain rfl:=Option.some.inj H;have p7:0≤(x3_2:Int):=of_decide_eq_true (by first|(with_reducible assumption)|assumption);have q7:x3_2<(a0.size:Int):=of_decide_eq_true (by first|(with_reducible assumption)|assumption)
             have hx7:=bt_at a0 x3_2
             replace p7:=eq_true p7;replace q7:=eq_true q7;go_wp2
             all_goals go_ret
             all_goals exact⟨by first|rfl|(simp;done)|(simp[*];done),by repeat (first|exact Drawn0.refl _|apply Drawn0.step)⟩
         ·rw[if_neg c24]at H
          have c24b0:decide (65≤(bt a0 x3_2))=false:=decide_eq_false c24;clear c24
          by_cases c32:(bt a0 x3_2)≥48
          ·rw[if_pos c32]at H
           have c32b0:decide (48≤(bt a0 x3_2))=true:=decide_eq_true c32;clear c32
           by_cases c33:((bt a0 x3_2)=95)
           ·rw[if_pos c33]at H
            have c33b0:((bt a0 x3_2)==95)=true:=beq_iff_eq.mpr c33;have c33b1:((bt a0 x3_2) !=95)=false:=bne_eq_false_iff_eq.mpr c33;clear c33;have H':=Aside0.mk H;clear H;have p7:0≤(x3_2:Int):=of_decide_eq_true (by first|(with_reducible assumption)|assumption);have q7:x3_2<(a0.size:Int):=of_decide_eq_true (by first|(with_reducible assumption)|assumption)
            have hx7:=bt_at a0 x3_2
            replace p7:=eq_true p7;replace q7:=eq_true q7;go_wp2
            go_roundg k2
            case measure=>have:=HJ1.out;have:=HK2.out;omega
            case rel=>exact⟨(wrap64 (x3_2+1)),(by first|rfl|(simp;done)|(simp[*];done)),H',⟨by have:=HJ1.out;have:=HK2.out;omega⟩,by repeat (first|exact Drawn0.refl _|apply Drawn0.step)⟩
           ·rw[if_neg c33]at H
            have c33b0:((bt a0 x3_2)==95)=false:=beq_eq_false_iff_ne.mpr c33;have c33b1:((bt a0 x3_2) !=95)=true:=bne_iff_ne.mpr c33
            by_cases c34:((bt a0 x3_2)≤57)
            ·rw[if_pos c34]at H
             have c34b0:decide ((bt a0 x3_2)≤57)=true:=decide_eq_true c34;clear c34
             by_cases c35:x3_2=0
             ·rw[if_pos c35]at H
              have c35b0:(x3_2==0)=true:=beq_iff_eq.mpr c35;have c35b1:(x3_2 !=0)=false:=bne_eq_false_iff_eq.mpr c35;clear c35;obtain rfl:=Option.some.inj H;have p7:0≤(x3_2:Int):=of_decide_eq_true (by first|(with_reducible assumption)|assumption);have q7:x3_2<(a0.size:Int):=of_decide_eq_true (by first|(with_reducible assumption)|assumption)
              have hx7:=bt_at a0 x3_2
              replace p7:=eq_true p7;replace q7:=eq_true q7;go_wp2
              all_goals go_ret
              all_goals exact⟨by first|rfl|(simp;done)|(simp[*];done),by repeat (first|exact Drawn0.refl _|apply Drawn0.step)⟩
             ·rw[if_neg c35]at H
              have c35b0:(x3_2==0)=false:=beq_eq_false_iff_ne.mpr c35;have c35b1:(x3_2 !=0)=true:=bne_iff_ne.mpr c35;have H':=Aside0.mk H;clear H;have p7:0≤(x3_2:Int):=of_decide_eq_true (by first|(with_reducible assumption)|assumption);have q7:x3_2<(a0.size:Int):=of_decide_eq_true (by first|(with_reducible assumption)|assumption)
              have hx7:=bt_at a0 x3_2
              replace p7:=eq_true p7;replace q7:=eq_true q7;go_wp2
              go_roundg k2
              case measure=>have:=HJ1.out;have:=HK2.out;omega
              case rel=>exact⟨(wrap64 (x3_2+1)),(by first|rfl|(simp;done)|(simp[*];done)),H',⟨by have:=HJ1.out;have:=HK2.out;omega⟩,by repeat (first|exact Drawn0.refl _|apply Drawn0.step)⟩
            ·rw[if_neg c34]at H
             have c34b0:decide ((bt a0 x3_2)≤57)=false:=decide_eq_false c34;clear c34;obtain rfl:=Option.some.inj H;have p7:0≤(x3_2:Int):=of_decide_eq_true (by first|(with_reducible assumption)|assumption);have q7:x3_2<(a0.size:Int):=of_decide_eq_true (by first|(with_reducible assumption)|assumption)
             have hx7:=bt_at a0 x3_2
             replace p7:=eq_true p7;replace q7:=eq_true q7;go_wp2
             all_goals go_ret
             all_goals exact⟨by first|rfl|(simp;done)|(simp[*];done),by repeat (first|exact Drawn0.refl _|apply Drawn0.step)⟩
          ·rw[if_neg c32]at H
           have c32b0:decide (48≤(bt a0 x3_2))=false:=decide_eq_false c32;clear c32
           by_cases c36:((bt a0 x3_2)=95)
           ·rw[if_pos c36]at H
            have c36b0:((bt a0 x3_2)==95)=true:=beq_iff_eq.mpr c36;have c36b1:((bt a0 x3_2) !=95)=false:=bne_eq_false_iff_eq.mpr c36;clear c36;have H':=Aside0.mk H;clear H;have p7:0≤(x3_2:Int):=of_decide_eq_true (by first|(with_reducible assumption)|assumption);have q7:x3_2<(a0.size:Int):=of_decide_eq_true (by first|(with_reducible assumption)|assumption)
            have hx7:=bt_at a0 x3_2
            replace p7:=eq_true p7;replace q7:=eq_true q7;go_wp2
            go_roundg k2
            case measure=>have:=HJ1.out;have:=HK2.out;omega
            case rel=>exact⟨(wrap64 (x3_2+1)),(by first|rfl|(simp;done)|(simp[*];done)),H',⟨by have:=HJ1.out;have:=HK2.out;omega⟩,by repeat (first|exact Drawn0.refl _|apply Drawn0.step)⟩
           ·rw[if_neg c36]at H
            have c36b0:((bt a0 x3_2)==95)=false:=beq_eq_false_iff_ne.mpr c36;have c36b1:((bt a0 x3_2) !=95)=true:=bne_iff_ne.mpr c36;obtain rfl:=Option.some.inj H;have p7:0≤(x3_2:Int):=of_decide_eq_true (by first|(with_reducible assumption)|assumption);have q7:x3_2<(a0.size:Int):=of_decide_eq_true (by first|(with_reducible assumption)|assumption)
            have hx7:=bt_at a0 x3_2
            replace p7:=eq_true p7;replace q7:=eq_true q7;go_wp2
            all_goals go_ret
            all_goals exact⟨by first|rfl|(simp;done)|(simp[*];done),by repeat (first|exact Drawn0.refl _|apply Drawn0.step)⟩
       ·rw[if_neg c6]at H
        exact absurd H (by simp)
      ·rw[if_neg c5]at H
       have c5b0:decide (x3_2<(a0.size:Int))=false:=decide_eq_false c5;clear c5;obtain rfl:=Option.some.inj H;go_wp2
       all_goals go_ret
       all_goals exact⟨by first|rfl|(simp;done)|(simp[*];done),by repeat (first|exact Drawn0.refl _|apply Drawn0.step)⟩
def stringslite_HasPrefix.f(a0:ByteArray)(a1:ByteArray):Option (Bool):=if(a0.size:Int)≥(a1.size:Int)then(if 0≤(a1.size:Int)then(if(a1.size:Int)≤(a0.size:Int)then(some ((a0.extract 0 ((a1.size:Int):Int).toNat).toList==a1.toList))else(none))else(none))else(some false)
set_option maxHeartbeats 8000000 in
set_option maxRecDepth 100000 in
theorem stringslite_HasPrefix.calls(a0:ByteArray)(a1:ByteArray)(r:Bool)(w:World)(h:stringslite_HasPrefix.f a0 a1=some r):
  Calls Tryz.prog 258 #[.string a0, .string a1] w fun e w'=>e= .returned (.bool r)∧Drawn0 w w':=by
 have H:(if(a0.size:Int)≥(a1.size:Int)then(if 0≤(a1.size:Int)then(if(a1.size:Int)≤(a0.size:Int)then(some ((a0.extract 0 ((a1.size:Int):Int).toNat).toList==a1.toList))else(none))else(none))else(some false))=some r:=h;clear h
 by_cases c3:(a0.size:Int)≥(a1.size:Int)
 ·rw[if_pos c3]at H
  have c3b0:decide ((a1.size:Int)≤(a0.size:Int))=true:=decide_eq_true c3;have c3b1:decide (a1.size≤a0.size)=true:=decide_eq_true (Int.ofNat_le.mp c3);clear c3
  by_cases c4:0≤(a1.size:Int)
  ·rw[if_pos c4]at H
   have c4b0:=eq_true c4
   have c4b1:decide (0≤(a1.size:Int))=true:=decide_eq_true c4;clear c4
   by_cases c5:(a1.size:Int)≤(a0.size:Int)
   ·rw[if_pos c5]at H
    have c5b0:=eq_true c5
    have c5b1:decide ((a1.size:Int)≤(a0.size:Int))=true:=decide_eq_true c5;clear c5;obtain rfl:=Option.some.inj H
    go_enter Tryz.func258,Tryz.ntmps258
    go_wp2
    all_goals go_ret
    all_goals exact⟨by first|rfl|(simp;done)|(simp[*];done),by repeat (first|exact Drawn0.refl _|apply Drawn0.step)⟩
   ·rw[if_neg c5]at H
    exact absurd H (by simp)
  ·rw[if_neg c4]at H
   exact absurd H (by simp)
 ·rw[if_neg c3]at H
  have c3b0:decide ((a1.size:Int)≤(a0.size:Int))=false:=decide_eq_false c3;have c3b1:decide (a1.size≤a0.size)=false:=decide_eq_false (fun h=>c3 (Int.ofNat_le.mpr h));clear c3;obtain rfl:=Option.some.inj H
  go_enter Tryz.func258,Tryz.ntmps258
  go_wp2
  all_goals go_ret
  all_goals exact⟨by first|rfl|(simp;done)|(simp[*];done),by repeat (first|exact Drawn0.refl _|apply Drawn0.step)⟩
def stringslite_CutPrefix.f(a0:ByteArray)(a1:ByteArray):Option (ByteArray×Bool):=(stringslite_HasPrefix.f a0 a1).bind fun t104=>(if t104=true then(if 0≤(a1.size:Int)then(if(a1.size:Int)≤(a0.size:Int)then(some (a0.extract ((a1.size:Int):Int).toNat a0.size,true))else(none))else(none))else(some (a0,false)))
set_option maxHeartbeats 8000000 in
set_option maxRecDepth 100000 in
theorem stringslite_CutPrefix.calls(a0:ByteArray)(a1:ByteArray)(r1:ByteArray)(r2:Bool)(w:World)(h:stringslite_CutPrefix.f a0 a1=some (r1,r2)):
  Calls Tryz.prog 257 #[.string a0, .string a1] w fun e w'=>e= .returned (.tuple #[.string r1, .bool r2])∧Drawn0 w w':=by
 have H:((stringslite_HasPrefix.f a0 a1).bind fun t104=>(if t104=true then(if 0≤(a1.size:Int)then(if(a1.size:Int)≤(a0.size:Int)then(some (a0.extract ((a1.size:Int):Int).toNat a0.size,true))else(none))else(none))else(some (a0,false))))=some (r1,r2):=h;clear h;replace H:=Option.bind_eq_some_iff.mp H;obtain⟨t104,A30,H⟩:=H;replace H:(if t104=true then(if 0≤(a1.size:Int)then(if(a1.size:Int)≤(a0.size:Int)then(some (a0.extract ((a1.size:Int):Int).toNat a0.size,true))else(none))else(none))else(some (a0,false)))=some (r1,r2):=H
 have A3:=Aside0.mk A30
 clear A30
 by_cases c4:t104=true
 ·subst c4
  have H1:(if 0≤(a1.size:Int)then(if(a1.size:Int)≤(a0.size:Int)then(some (a0.extract ((a1.size:Int):Int).toNat a0.size,true))else(none))else(none))=some (r1,r2):=by rw[if_pos rfl]at H;exact H
  clear H
  have H:=H1
  clear H1
  by_cases c5:0≤(a1.size:Int)
  ·rw[if_pos c5]at H
   have c5b0:=eq_true c5
   have c5b1:decide (0≤(a1.size:Int))=true:=decide_eq_true c5;clear c5
   by_cases c6:(a1.size:Int)≤(a0.size:Int)
   ·rw[if_pos c6]at H
    have c6b0:=eq_true c6
    have c6b1:decide ((a1.size:Int)≤(a0.size:Int))=true:=decide_eq_true c6;clear c6;simp only[Option.some.injEq,Prod.mk.injEq]at H;obtain⟨rfl,rfl⟩:=H
    go_enter Tryz.func257,Tryz.ntmps257
    go_wp2_with (first|((with_reducible refine gate_callee (f:=258) rfl ?_);refine goesL_ (some 8) rfl rfl Tryz.func258 (by kernel_rfl) rfl #[.string a0, .string a1] rfl (by(try simp only[List.map_toArray,List.map_cons,List.map_nil]);first|done|rfl|(simp only[List.length_drop,List.length_take];rfl)) ?_;(with_reducible refine(stringslite_HasPrefix.calls a0 a1 true _ A3.out).mono ?_);rintro e w' ⟨rfl,⟨nd,rfl⟩⟩;refine⟨_,rfl,?_⟩))
    all_goals go_ret2
    all_goals exact⟨by first|rfl|(simp;done)|(simp[*];done),by repeat (first|exact Drawn0.refl _|apply Drawn0.step)⟩
   ·rw[if_neg c6]at H
    exact absurd H (by simp)
  ·rw[if_neg c5]at H
   exact absurd H (by simp)
 ·replace c4:=Bool.eq_false_iff.mpr c4
  subst c4
  have H1:(some (a0,false))=some (r1,r2):=by rw[if_neg (show¬(false=true) by decide)]at H;exact H
  clear H
  have H:=H1
  clear H1;simp only[Option.some.injEq,Prod.mk.injEq]at H;obtain⟨rfl,rfl⟩:=H
  go_enter Tryz.func257,Tryz.ntmps257
  go_wp2_with (first|((with_reducible refine gate_callee (f:=258) rfl ?_);refine goesL_ (some 8) rfl rfl Tryz.func258 (by kernel_rfl) rfl #[.string a0, .string a1] rfl (by(try simp only[List.map_toArray,List.map_cons,List.map_nil]);first|done|rfl|(simp only[List.length_drop,List.length_take];rfl)) ?_;(with_reducible refine(stringslite_HasPrefix.calls a0 a1 false _ A3.out).mono ?_);rintro e w' ⟨rfl,⟨nd,rfl⟩⟩;refine⟨_,rfl,?_⟩))
  all_goals go_ret2
  all_goals exact⟨by first|rfl|(simp;done)|(simp[*];done),by repeat (first|exact Drawn0.refl _|apply Drawn0.step)⟩
def strings_CutPrefix.f(a0:ByteArray)(a1:ByteArray):Option (ByteArray×Bool):=(stringslite_CutPrefix.f a0 a1).bind fun bt105=>(some (bt105.1,bt105.2))
set_option maxHeartbeats 8000000 in
set_option maxRecDepth 100000 in
theorem strings_CutPrefix.calls(a0:ByteArray)(a1:ByteArray)(r1:ByteArray)(r2:Bool)(w:World)(h:strings_CutPrefix.f a0 a1=some (r1,r2)):
  Calls Tryz.prog 179 #[.string a0, .string a1] w fun e w'=>e= .returned (.tuple #[.string r1, .bool r2])∧Drawn0 w w':=by
 have H:((stringslite_CutPrefix.f a0 a1).bind fun bt105=>(some (bt105.1,bt105.2)))=some (r1,r2):=h;clear h;replace H:=Option.bind_eq_some_iff.mp H;obtain⟨⟨t105,t106⟩,A30,H⟩:=H;replace H:(some (t105,t106))=some (r1,r2):=H
 have A3:=Aside0.mk A30
 clear A30;simp only[Option.some.injEq,Prod.mk.injEq]at H;obtain⟨rfl,rfl⟩:=H
 go_enter Tryz.func179,Tryz.ntmps179
 go_wp2_with (first|((with_reducible refine gate_callee (f:=257) rfl ?_);refine goesL_ (some 8) rfl rfl Tryz.func257 (by kernel_rfl) rfl #[.string a0, .string a1] rfl (by(try simp only[List.map_toArray,List.map_cons,List.map_nil]);first|done|rfl|(simp only[List.length_drop,List.length_take];rfl)) ?_;(with_reducible refine(stringslite_CutPrefix.calls a0 a1 t105 t106 _ A3.out).mono ?_);rintro e w' ⟨rfl,⟨nd,rfl⟩⟩;refine⟨_,rfl,?_⟩))
 all_goals go_ret2
 all_goals exact⟨by first|rfl|(simp;done)|(simp[*];done),by repeat (first|exact Drawn0.refl _|apply Drawn0.step)⟩
def stringslite_HasSuffix.f(a0:ByteArray)(a1:ByteArray):Option (Bool):=if(a0.size:Int)≥(a1.size:Int)then(if 0≤(wrap64 ((a0.size:Int)-(a1.size:Int)))then(if(wrap64 ((a0.size:Int)-(a1.size:Int)))≤(a0.size:Int)then(some ((a0.extract ((wrap64 ((a0.size:Int)-(a1.size:Int))):Int).toNat a0.size).toList==a1.toList))else(none))else(none))else(some false)
set_option maxHeartbeats 8000000 in
set_option maxRecDepth 100000 in
theorem stringslite_HasSuffix.calls(a0:ByteArray)(a1:ByteArray)(r:Bool)(w:World)(h:stringslite_HasSuffix.f a0 a1=some r):
  Calls Tryz.prog 356 #[.string a0, .string a1] w fun e w'=>e= .returned (.bool r)∧Drawn0 w w':=by
 have H:(if(a0.size:Int)≥(a1.size:Int)then(if 0≤(wrap64 ((a0.size:Int)-(a1.size:Int)))then(if(wrap64 ((a0.size:Int)-(a1.size:Int)))≤(a0.size:Int)then(some ((a0.extract ((wrap64 ((a0.size:Int)-(a1.size:Int))):Int).toNat a0.size).toList==a1.toList))else(none))else(none))else(some false))=some r:=h;clear h
 by_cases c3:(a0.size:Int)≥(a1.size:Int)
 ·rw[if_pos c3]at H
  have c3b0:decide ((a1.size:Int)≤(a0.size:Int))=true:=decide_eq_true c3;have c3b1:decide (a1.size≤a0.size)=true:=decide_eq_true (Int.ofNat_le.mp c3);clear c3;obtain⟨ji4,hji4⟩: ∃j_:Int,(wrap64 ((a0.size:Int)-(a1.size:Int)))=j_:=⟨_,rfl⟩
  replace H:(if 0≤(ji4)then(if(ji4)≤(a0.size:Int)then(some ((a0.extract ((ji4):Int).toNat a0.size).toList==a1.toList))else(none))else(none))=some r:=by first|(rw[hji4]at H;exact H)|(simp only[hji4]at H ⊢;exact H)
  have hji4w:(IntKind.i64.wrap ((a0.size:Int)-(a1.size:Int)))=ji4:=(i64_w _).trans hji4
  by_cases c5:0≤(ji4)
  ·rw[if_pos c5]at H
   have c5b0:=eq_true c5
   have c5b1:decide (0≤(ji4))=true:=decide_eq_true c5;clear c5
   by_cases c6:(ji4)≤(a0.size:Int)
   ·rw[if_pos c6]at H
    have c6b0:=eq_true c6
    have c6b1:decide ((ji4)≤(a0.size:Int))=true:=decide_eq_true c6;clear c6;obtain rfl:=Option.some.inj H
    go_enter Tryz.func356,Tryz.ntmps356
    go_wp2
    all_goals go_ret
    all_goals exact⟨by first|rfl|(simp;done)|(simp only[←hji4]<;>(first|rfl|simp))|(simp[*];done),by repeat (first|exact Drawn0.refl _|apply Drawn0.step)⟩
   ·rw[if_neg c6]at H
    exact absurd H (by simp)
  ·rw[if_neg c5]at H
   exact absurd H (by simp)
 ·rw[if_neg c3]at H
  have c3b0:decide ((a1.size:Int)≤(a0.size:Int))=false:=decide_eq_false c3;have c3b1:decide (a1.size≤a0.size)=false:=decide_eq_false (fun h=>c3 (Int.ofNat_le.mpr h));clear c3;obtain rfl:=Option.some.inj H
  go_enter Tryz.func356,Tryz.ntmps356
  go_wp2
  all_goals go_ret
  all_goals exact⟨by first|rfl|(simp;done)|(simp[*];done),by repeat (first|exact Drawn0.refl _|apply Drawn0.step)⟩
def stringslite_CutSuffix.f(a0:ByteArray)(a1:ByteArray):Option (ByteArray×Bool):=(stringslite_HasSuffix.f a0 a1).bind fun t107=>(if t107=true then(if 0≤(wrap64 ((a0.size:Int)-(a1.size:Int)))then(if(wrap64 ((a0.size:Int)-(a1.size:Int)))≤(a0.size:Int)then(some (a0.extract 0 ((wrap64 ((a0.size:Int)-(a1.size:Int))):Int).toNat,true))else(none))else(none))else(some (a0,false)))
set_option maxHeartbeats 8000000 in
set_option maxRecDepth 100000 in
theorem stringslite_CutSuffix.calls(a0:ByteArray)(a1:ByteArray)(r1:ByteArray)(r2:Bool)(w:World)(h:stringslite_CutSuffix.f a0 a1=some (r1,r2)):
  Calls Tryz.prog 322 #[.string a0, .string a1] w fun e w'=>e= .returned (.tuple #[.string r1, .bool r2])∧Drawn0 w w':=by
 have H:((stringslite_HasSuffix.f a0 a1).bind fun t107=>(if t107=true then(if 0≤(wrap64 ((a0.size:Int)-(a1.size:Int)))then(if(wrap64 ((a0.size:Int)-(a1.size:Int)))≤(a0.size:Int)then(some (a0.extract 0 ((wrap64 ((a0.size:Int)-(a1.size:Int))):Int).toNat,true))else(none))else(none))else(some (a0,false))))=some (r1,r2):=h;clear h;replace H:=Option.bind_eq_some_iff.mp H;obtain⟨t107,A30,H⟩:=H;replace H:(if t107=true then(if 0≤(wrap64 ((a0.size:Int)-(a1.size:Int)))then(if(wrap64 ((a0.size:Int)-(a1.size:Int)))≤(a0.size:Int)then(some (a0.extract 0 ((wrap64 ((a0.size:Int)-(a1.size:Int))):Int).toNat,true))else(none))else(none))else(some (a0,false)))=some (r1,r2):=H
 have A3:=Aside0.mk A30
 clear A30
 by_cases c4:t107=true
 ·subst c4
  have H1:(if 0≤(wrap64 ((a0.size:Int)-(a1.size:Int)))then(if(wrap64 ((a0.size:Int)-(a1.size:Int)))≤(a0.size:Int)then(some (a0.extract 0 ((wrap64 ((a0.size:Int)-(a1.size:Int))):Int).toNat,true))else(none))else(none))=some (r1,r2):=by rw[if_pos rfl]at H;exact H
  clear H
  have H:=H1
  clear H1;obtain⟨ji5,hji5⟩: ∃j_:Int,(wrap64 ((a0.size:Int)-(a1.size:Int)))=j_:=⟨_,rfl⟩
  replace H:(if 0≤(ji5)then(if(ji5)≤(a0.size:Int)then(some (a0.extract 0 ((ji5):Int).toNat,true))else(none))else(none))=some (r1,r2):=by first|(rw[hji5]at H;exact H)|(simp only[hji5]at H ⊢;exact H)
  (try rw[hji5]at A3)
  have hji5w:(IntKind.i64.wrap ((a0.size:Int)-(a1.size:Int)))=ji5:=(i64_w _).trans hji5
  by_cases c6:0≤(ji5)
  ·rw[if_pos c6]at H
   have c6b0:=eq_true c6
   have c6b1:decide (0≤(ji5))=true:=decide_eq_true c6;clear c6
   by_cases c7:(ji5)≤(a0.size:Int)
   ·rw[if_pos c7]at H
    have c7b0:=eq_true c7
    have c7b1:decide ((ji5)≤(a0.size:Int))=true:=decide_eq_true c7;clear c7;simp only[Option.some.injEq,Prod.mk.injEq]at H;obtain⟨rfl,rfl⟩:=H
    go_enter Tryz.func322,Tryz.ntmps322
    go_wp2_with (first|((with_reducible refine gate_callee (f:=356) rfl ?_);refine goesL_ (some 8) rfl rfl Tryz.func356 (by kernel_rfl) rfl #[.string a0, .string a1] rfl (by(try simp only[List.map_toArray,List.map_cons,List.map_nil]);first|done|rfl|(simp only[List.length_drop,List.length_take];rfl)) ?_;(with_reducible refine(stringslite_HasSuffix.calls a0 a1 true _ A3.out).mono ?_);rintro e w' ⟨rfl,⟨nd,rfl⟩⟩;refine⟨_,rfl,?_⟩))
    all_goals go_ret2
    all_goals exact⟨by first|rfl|(simp;done)|(simp only[←hji5]<;>(first|rfl|simp))|(simp[*];done),by repeat (first|exact Drawn0.refl _|apply Drawn0.step)⟩
   ·rw[if_neg c7]at H
    exact absurd H (by simp)
  ·rw[if_neg c6]at H
   exact absurd H (by simp)
 ·replace c4:=Bool.eq_false_iff.mpr c4
  subst c4
  have H1:(some (a0,false))=some (r1,r2):=by rw[if_neg (show¬(false=true) by decide)]at H;exact H
  clear H
  have H:=H1
  clear H1;simp only[Option.some.injEq,Prod.mk.injEq]at H;obtain⟨rfl,rfl⟩:=H
  go_enter Tryz.func322,Tryz.ntmps322
  go_wp2_with (first|((with_reducible refine gate_callee (f:=356) rfl ?_);refine goesL_ (some 8) rfl rfl Tryz.func356 (by kernel_rfl) rfl #[.string a0, .string a1] rfl (by(try simp only[List.map_toArray,List.map_cons,List.map_nil]);first|done|rfl|(simp only[List.length_drop,List.length_take];rfl)) ?_;(with_reducible refine(stringslite_HasSuffix.calls a0 a1 false _ A3.out).mono ?_);rintro e w' ⟨rfl,⟨nd,rfl⟩⟩;refine⟨_,rfl,?_⟩))
  all_goals go_ret2
  all_goals exact⟨by first|rfl|(simp;done)|(simp[*];done),by repeat (first|exact Drawn0.refl _|apply Drawn0.step)⟩
def strings_CutSuffix.f(a0:ByteArray)(a1:ByteArray):Option (ByteArray×Bool):=(stringslite_CutSuffix.f a0 a1).bind fun bt108=>(some (bt108.1,bt108.2))
set_option maxHeartbeats 8000000 in
set_option maxRecDepth 100000 in
theorem strings_CutSuffix.calls(a0:ByteArray)(a1:ByteArray)(r1:ByteArray)(r2:Bool)(w:World)(h:strings_CutSuffix.f a0 a1=some (r1,r2)):
  Calls Tryz.prog 282 #[.string a0, .string a1] w fun e w'=>e= .returned (.tuple #[.string r1, .bool r2])∧Drawn0 w w':=by
 have H:((stringslite_CutSuffix.f a0 a1).bind fun bt108=>(some (bt108.1,bt108.2)))=some (r1,r2):=h;clear h;replace H:=Option.bind_eq_some_iff.mp H;obtain⟨⟨t108,t109⟩,A30,H⟩:=H;replace H:(some (t108,t109))=some (r1,r2):=H
 have A3:=Aside0.mk A30
 clear A30;simp only[Option.some.injEq,Prod.mk.injEq]at H;obtain⟨rfl,rfl⟩:=H
 go_enter Tryz.func282,Tryz.ntmps282
 go_wp2_with (first|((with_reducible refine gate_callee (f:=322) rfl ?_);refine goesL_ (some 8) rfl rfl Tryz.func322 (by kernel_rfl) rfl #[.string a0, .string a1] rfl (by(try simp only[List.map_toArray,List.map_cons,List.map_nil]);first|done|rfl|(simp only[List.length_drop,List.length_take];rfl)) ?_;(with_reducible refine(stringslite_CutSuffix.calls a0 a1 t108 t109 _ A3.out).mono ?_);rintro e w' ⟨rfl,⟨nd,rfl⟩⟩;refine⟨_,rfl,?_⟩))
 all_goals go_ret2
 all_goals exact⟨by first|rfl|(simp;done)|(simp[*];done),by repeat (first|exact Drawn0.refl _|apply Drawn0.step)⟩
def desc_name.f(k:Nat)(a0:ByteArray):Option (ByteArray×Bool):=(strings_CutPrefix.f a0 (⟨#[76]⟩:ByteArray)).bind fun bt110=>((strings_CutSuffix.f bt110.1 (⟨#[59]⟩:ByteArray)).bind fun bt112=>(if bt110.2=true then(if bt112.2=true then((bin_Name.f k bt112.1).bind fun t114=>(some (bt112.1,t114)))else(some (bt112.1,false)))else(some (bt112.1,false))))
set_option maxHeartbeats 8000000 in
set_option maxRecDepth 100000 in
theorem desc_name.calls(k:Nat)(a0:ByteArray)(r1:ByteArray)(r2:Bool)(w:World)(h:desc_name.f k a0=some (r1,r2)):
  Calls Tryz.prog 221 #[.string a0] w fun e w'=>e= .returned (.tuple #[.string r1, .bool r2])∧Drawn0 w w':=by
 have H:((strings_CutPrefix.f a0 (⟨#[76]⟩:ByteArray)).bind fun bt110=>((strings_CutSuffix.f bt110.1 (⟨#[59]⟩:ByteArray)).bind fun bt112=>(if bt110.2=true then(if bt112.2=true then((bin_Name.f k bt112.1).bind fun t114=>(some (bt112.1,t114)))else(some (bt112.1,false)))else(some (bt112.1,false)))))=some (r1,r2):=h;clear h;replace H:=Option.bind_eq_some_iff.mp H;obtain⟨⟨t110,t111⟩,A20,H⟩:=H;replace H:((strings_CutSuffix.f t110 (⟨#[59]⟩:ByteArray)).bind fun bt112=>(if t111=true then(if bt112.2=true then((bin_Name.f k bt112.1).bind fun t114=>(some (bt112.1,t114)))else(some (bt112.1,false)))else(some (bt112.1,false))))=some (r1,r2):=H
 have A2:=Aside0.mk A20
 clear A20;replace H:=Option.bind_eq_some_iff.mp H;obtain⟨⟨t112,t113⟩,A30,H⟩:=H;replace H:(if t111=true then(if t113=true then((bin_Name.f k t112).bind fun t114=>(some (t112,t114)))else(some (t112,false)))else(some (t112,false)))=some (r1,r2):=H
 have A3:=Aside0.mk A30
 clear A30
 by_cases c4:t111=true
 ·subst c4
  have H1:(if t113=true then((bin_Name.f k t112).bind fun t114=>(some (t112,t114)))else(some (t112,false)))=some (r1,r2):=by rw[if_pos rfl]at H;exact H
  clear H
  have H:=H1
  clear H1
  by_cases c5:t113=true
  ·subst c5
   have H1:((bin_Name.f k t112).bind fun t114=>(some (t112,t114)))=some (r1,r2):=by rw[if_pos rfl]at H;exact H
   clear H
   have H:=H1
   clear H1;replace H:=Option.bind_eq_some_iff.mp H;obtain⟨t114,A60,H⟩:=H;replace H:(some (t112,t114))=some (r1,r2):=H
   have A6:=Aside0.mk A60
   clear A60;simp only[Option.some.injEq,Prod.mk.injEq]at H;obtain⟨rfl,rfl⟩:=H
   go_enter Tryz.func221,Tryz.ntmps221
   go_wp2_with (first|((with_reducible refine gate_callee (f:=179) rfl ?_);refine goesL_ (some 10) rfl rfl Tryz.func179 (by kernel_rfl) rfl #[.string a0, .string (⟨#[76]⟩:ByteArray)] rfl (by(try simp only[List.map_toArray,List.map_cons,List.map_nil]);first|done|rfl|(simp only[List.length_drop,List.length_take];rfl)) ?_;(with_reducible refine(strings_CutPrefix.calls a0 (⟨#[76]⟩:ByteArray) t110 true _ A2.out).mono ?_);rintro e w' ⟨rfl,⟨nd,rfl⟩⟩;refine⟨_,rfl,?_⟩)|((with_reducible refine gate_callee (f:=282) rfl ?_);refine goesL_ (some 15) rfl rfl Tryz.func282 (by kernel_rfl) rfl #[.string t110, .string (⟨#[59]⟩:ByteArray)] rfl (by(try simp only[List.map_toArray,List.map_cons,List.map_nil]);first|done|rfl|(simp only[List.length_drop,List.length_take];rfl)) ?_;(with_reducible refine(strings_CutSuffix.calls t110 (⟨#[59]⟩:ByteArray) t112 true _ A3.out).mono ?_);rintro e w' ⟨rfl,⟨nd,rfl⟩⟩;refine⟨_,rfl,?_⟩)|(go_at_call 159;(with_reducible refine(bin_Name.calls k t112 t114 _ A6.out).mono ?_);rintro e w' ⟨rfl,⟨nd,rfl⟩⟩))
   all_goals go_ret2
   all_goals exact⟨by first|rfl|(simp;done)|(simp[*];done),by repeat (first|exact Drawn0.refl _|apply Drawn0.step)⟩
  ·replace c5:=Bool.eq_false_iff.mpr c5
   subst c5
   have H1:(some (t112,false))=some (r1,r2):=by rw[if_neg (show¬(false=true) by decide)]at H;exact H
   clear H
   have H:=H1
   clear H1;simp only[Option.some.injEq,Prod.mk.injEq]at H;obtain⟨rfl,rfl⟩:=H
   go_enter Tryz.func221,Tryz.ntmps221
   go_wp2_with (first|((with_reducible refine gate_callee (f:=179) rfl ?_);refine goesL_ (some 10) rfl rfl Tryz.func179 (by kernel_rfl) rfl #[.string a0, .string (⟨#[76]⟩:ByteArray)] rfl (by(try simp only[List.map_toArray,List.map_cons,List.map_nil]);first|done|rfl|(simp only[List.length_drop,List.length_take];rfl)) ?_;(with_reducible refine(strings_CutPrefix.calls a0 (⟨#[76]⟩:ByteArray) t110 true _ A2.out).mono ?_);rintro e w' ⟨rfl,⟨nd,rfl⟩⟩;refine⟨_,rfl,?_⟩)|((with_reducible refine gate_callee (f:=282) rfl ?_);refine goesL_ (some 15) rfl rfl Tryz.func282 (by kernel_rfl) rfl #[.string t110, .string (⟨#[59]⟩:ByteArray)] rfl (by(try simp only[List.map_toArray,List.map_cons,List.map_nil]);first|done|rfl|(simp only[List.length_drop,List.length_take];rfl)) ?_;(with_reducible refine(strings_CutSuffix.calls t110 (⟨#[59]⟩:ByteArray) t112 false _ A3.out).mono ?_);rintro e w' ⟨rfl,⟨nd,rfl⟩⟩;refine⟨_,rfl,?_⟩))
   all_goals go_ret2
   all_goals exact⟨by first|rfl|(simp;done)|(simp[*];done),by repeat (first|exact Drawn0.refl _|apply Drawn0.step)⟩
 ·replace c4:=Bool.eq_false_iff.mpr c4
  subst c4
  have H1:(some (t112,false))=some (r1,r2):=by rw[if_neg (show¬(false=true) by decide)]at H;exact H
  clear H
  have H:=H1
  clear H1;simp only[Option.some.injEq,Prod.mk.injEq]at H;obtain⟨rfl,rfl⟩:=H
  go_enter Tryz.func221,Tryz.ntmps221
  go_wp2_with (first|((with_reducible refine gate_callee (f:=179) rfl ?_);refine goesL_ (some 10) rfl rfl Tryz.func179 (by kernel_rfl) rfl #[.string a0, .string (⟨#[76]⟩:ByteArray)] rfl (by(try simp only[List.map_toArray,List.map_cons,List.map_nil]);first|done|rfl|(simp only[List.length_drop,List.length_take];rfl)) ?_;(with_reducible refine(strings_CutPrefix.calls a0 (⟨#[76]⟩:ByteArray) t110 false _ A2.out).mono ?_);rintro e w' ⟨rfl,⟨nd,rfl⟩⟩;refine⟨_,rfl,?_⟩)|((with_reducible refine gate_callee (f:=282) rfl ?_);refine goesL_ (some 15) rfl rfl Tryz.func282 (by kernel_rfl) rfl #[.string t110, .string (⟨#[59]⟩:ByteArray)] rfl (by(try simp only[List.map_toArray,List.map_cons,List.map_nil]);first|done|rfl|(simp only[List.length_drop,List.length_take];rfl)) ?_;(with_reducible refine(strings_CutSuffix.calls t110 (⟨#[59]⟩:ByteArray) t112 t113 _ A3.out).mono ?_);rintro e w' ⟨rfl,⟨nd,rfl⟩⟩;refine⟨_,rfl,?_⟩))
  all_goals go_ret2
  all_goals exact⟨by first|rfl|(simp;done)|(simp[*];done),by repeat (first|exact Drawn0.refl _|apply Drawn0.step)⟩
end Go.Proofs.YtcocmlmligjjcaaGreatDoor.Q
