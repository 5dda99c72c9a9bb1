-- SQUEEZED
-- Written by the program wip/tools/mp.py of this work, which drives the print of the kit; hand texts of this session among it.
import Derived.Test.YtcocmlmligjjcaaGreatDoorQ0
import Derived.Test.YtcocmlmligjjcaaGreatDoorQ1
import Derived.Test.YtcocmlmligjjcaaGreatDoorQ2
namespace Go.Proofs.YtcocmlmligjjcaaGreatDoor.Q
open Go.RowKit Go.Proofs.HW Go.Proofs.YtcocmlmligjjcaaGreatDoorW.PrintWords Go.Proofs.YtcocmlmligjjcaaGreatDoorW.PrintLast
set_option linter.unusedVariables false
set_option linter.unusedSimpArgs false
def desc_bare.f(a0:ByteArray):Option (ByteArray×Int):=(strings_TrimLeft.f a0 (⟨#[91]⟩:ByteArray)).bind fun t115=>(some (t115,wrap64 ((a0.size:Int)-(t115.size:Int))))
set_option maxHeartbeats 8000000 in
set_option maxRecDepth 100000 in
theorem desc_bare.calls(a0:ByteArray)(r1:ByteArray)(r2:Int)(w:World)(h:desc_bare.f a0=some (r1,r2)):
  Calls Tryz.prog 259 #[.string a0] w fun e w'=>e= .returned (.tuple #[.string r1, .int .i64 r2])∧Drawn0 w w':=by
 have H:((strings_TrimLeft.f a0 (⟨#[91]⟩:ByteArray)).bind fun t115=>(some (t115,wrap64 ((a0.size:Int)-(t115.size:Int)))))=some (r1,r2):=h;clear h;replace H:=Option.bind_eq_some_iff.mp H;obtain⟨t115,A20,H⟩:=H;replace H:(some (t115,wrap64 ((a0.size:Int)-(t115.size:Int))))=some (r1,r2):=H
 have A2:=Aside0.mk A20
 clear A20;simp only[Option.some.injEq,Prod.mk.injEq]at H;obtain⟨rfl,rfl⟩:=H
 go_enter Tryz.func259,Tryz.ntmps259
 go_wp2_with (first|((with_reducible refine gate_callee (f:=223) rfl ?_);refine goesL_ (some 6) rfl rfl Tryz.func223 (by kernel_rfl) rfl #[.string a0, .string (⟨#[91]⟩:ByteArray)] rfl (by(try simp only[List.map_toArray,List.map_cons,List.map_nil]);first|done|rfl|(simp only[List.length_drop,List.length_take];rfl)) ?_;(with_reducible refine(strings_TrimLeft.calls a0 (⟨#[91]⟩:ByteArray) t115 _ A2.out).mono ?_);rintro e w' ⟨rfl,⟨nd,rfl⟩⟩;refine⟨_,rfl,?_⟩))
 all_goals go_ret2
 all_goals exact⟨by first|rfl|(simp;done)|(simp[*];done),by repeat (first|exact Drawn0.refl _|apply Drawn0.step)⟩
def desc_plain.f(a0:ByteArray):Option (Bool):=if a0.toList=([73]:List UInt8)then(some true)else(if a0.toList=([66]:List UInt8)then(some true)else(some (a0.toList==([83]:List UInt8))))
set_option maxHeartbeats 8000000 in
set_option maxRecDepth 100000 in
theorem desc_plain.calls(a0:ByteArray)(r:Bool)(w:World)(h:desc_plain.f a0=some r):
  Calls Tryz.prog 283 #[.string a0] w fun e w'=>e= .returned (.bool r)∧Drawn0 w w':=by
 have H:(if a0.toList=([73]:List UInt8)then(some true)else(if a0.toList=([66]:List UInt8)then(some true)else(some (a0.toList==([83]:List UInt8)))))=some r:=h;clear h
 by_cases c2:a0.toList=([73]:List UInt8)
 ·rw[if_pos c2]at H
  have c2b0:(a0.toList==([73]:List UInt8))=true:=beq_iff_eq.mpr c2;have c2b1:(a0.toList !=([73]:List UInt8))=false:=bne_eq_false_iff_eq.mpr c2;clear c2;obtain rfl:=Option.some.inj H
  go_enter Tryz.func283,Tryz.ntmps283
  go_wp2
  all_goals go_ret
  all_goals exact⟨by first|rfl|(simp;done)|(simp[*];done),by repeat (first|exact Drawn0.refl _|apply Drawn0.step)⟩
 ·rw[if_neg c2]at H
  have c2b0:(a0.toList==([73]:List UInt8))=false:=beq_eq_false_iff_ne.mpr c2;have c2b1:(a0.toList !=([73]:List UInt8))=true:=bne_iff_ne.mpr c2
  by_cases c3:a0.toList=([66]:List UInt8)
  ·rw[if_pos c3]at H
   have c3b0:(a0.toList==([66]:List UInt8))=true:=beq_iff_eq.mpr c3;have c3b1:(a0.toList !=([66]:List UInt8))=false:=bne_eq_false_iff_eq.mpr c3;clear c3;obtain rfl:=Option.some.inj H
   go_enter Tryz.func283,Tryz.ntmps283
   go_wp2
   all_goals go_ret
   all_goals exact⟨by first|rfl|(simp;done)|(simp[*];done),by repeat (first|exact Drawn0.refl _|apply Drawn0.step)⟩
  ·rw[if_neg c3]at H
   have c3b0:(a0.toList==([66]:List UInt8))=false:=beq_eq_false_iff_ne.mpr c3;have c3b1:(a0.toList !=([66]:List UInt8))=true:=bne_iff_ne.mpr c3;obtain rfl:=Option.some.inj H
   go_enter Tryz.func283,Tryz.ntmps283
   go_wp2
   all_goals go_ret
   all_goals exact⟨by first|rfl|(simp;done)|(simp[*];done),by repeat (first|exact Drawn0.refl _|apply Drawn0.step)⟩
def desc_Right.f(k:Nat)(a0:ByteArray):Option (Bool):=(desc_bare.f a0).bind fun bt116=>((desc_name.f k bt116.1).bind fun bt118=>(if bt116.2≤4 then(if bt118.2=true then(some true)else((desc_plain.f bt116.1).bind fun t120=>(some t120)))else(some false)))
set_option maxHeartbeats 8000000 in
set_option maxRecDepth 100000 in
theorem desc_Right.calls(k:Nat)(a0:ByteArray)(r:Bool)(w:World)(h:desc_Right.f k a0=some r):
  Calls Tryz.prog 222 #[.string a0] w fun e w'=>e= .returned (.bool r)∧Drawn0 w w':=by
 have H:((desc_bare.f a0).bind fun bt116=>((desc_name.f k bt116.1).bind fun bt118=>(if bt116.2≤4 then(if bt118.2=true then(some true)else((desc_plain.f bt116.1).bind fun t120=>(some t120)))else(some false))))=some r:=h;clear h;replace H:=Option.bind_eq_some_iff.mp H;obtain⟨⟨t116,t117⟩,A20,H⟩:=H;replace H:((desc_name.f k t116).bind fun bt118=>(if t117≤4 then(if bt118.2=true then(some true)else((desc_plain.f t116).bind fun t120=>(some t120)))else(some false)))=some r:=H
 have A2:=Aside0.mk A20
 clear A20;replace H:=Option.bind_eq_some_iff.mp H;obtain⟨⟨t118,t119⟩,A30,H⟩:=H;replace H:(if t117≤4 then(if t119=true then(some true)else((desc_plain.f t116).bind fun t120=>(some t120)))else(some false))=some r:=H
 have A3:=Aside0.mk A30
 clear A30
 by_cases c4:t117≤4
 ·rw[if_pos c4]at H
  have c4b0:decide (t117≤4)=true:=decide_eq_true c4;clear c4
  by_cases c5:t119=true
  ·subst c5
   have H1:(some true)=some r:=by rw[if_pos rfl]at H;exact H
   clear H
   have H:=H1
   clear H1;obtain rfl:=Option.some.inj H
   go_enter Tryz.func222,Tryz.ntmps222
   go_wp2_with (first|((with_reducible refine gate_callee (f:=259) rfl ?_);refine goesL_ (some 9) rfl rfl Tryz.func259 (by kernel_rfl) rfl #[.string a0] rfl (by(try simp only[List.map_toArray,List.map_cons,List.map_nil]);first|done|rfl|(simp only[List.length_drop,List.length_take];rfl)) ?_;(with_reducible refine(desc_bare.calls a0 t116 t117 _ A2.out).mono ?_);rintro e w' ⟨rfl,⟨nd,rfl⟩⟩;refine⟨_,rfl,?_⟩)|((with_reducible refine gate_callee (f:=221) rfl ?_);refine goesL_ (some 14) rfl rfl Tryz.func221 (by kernel_rfl) rfl #[.string t116] rfl (by(try simp only[List.map_toArray,List.map_cons,List.map_nil]);first|done|rfl|(simp only[List.length_drop,List.length_take];rfl)) ?_;(with_reducible refine(desc_name.calls k t116 t118 true _ A3.out).mono ?_);rintro e w' ⟨rfl,⟨nd,rfl⟩⟩;refine⟨_,rfl,?_⟩))
   all_goals go_ret
   all_goals exact⟨by first|rfl|(simp;done)|(simp[*];done),by repeat (first|exact Drawn0.refl _|apply Drawn0.step)⟩
  ·replace c5:=Bool.eq_false_iff.mpr c5
   subst c5
   have H1:((desc_plain.f t116).bind fun t120=>(some t120))=some r:=by rw[if_neg (show¬(false=true) by decide)]at H;exact H
   clear H
   have H:=H1
   clear H1;replace H:=Option.bind_eq_some_iff.mp H;obtain⟨t120,A60,H⟩:=H;replace H:(some t120)=some r:=H
   have A6:=Aside0.mk A60
   clear A60;obtain rfl:=Option.some.inj H
   go_enter Tryz.func222,Tryz.ntmps222
   go_wp2_with (first|((with_reducible refine gate_callee (f:=259) rfl ?_);refine goesL_ (some 9) rfl rfl Tryz.func259 (by kernel_rfl) rfl #[.string a0] rfl (by(try simp only[List.map_toArray,List.map_cons,List.map_nil]);first|done|rfl|(simp only[List.length_drop,List.length_take];rfl)) ?_;(with_reducible refine(desc_bare.calls a0 t116 t117 _ A2.out).mono ?_);rintro e w' ⟨rfl,⟨nd,rfl⟩⟩;refine⟨_,rfl,?_⟩)|((with_reducible refine gate_callee (f:=221) rfl ?_);refine goesL_ (some 14) rfl rfl Tryz.func221 (by kernel_rfl) rfl #[.string t116] rfl (by(try simp only[List.map_toArray,List.map_cons,List.map_nil]);first|done|rfl|(simp only[List.length_drop,List.length_take];rfl)) ?_;(with_reducible refine(desc_name.calls k t116 t118 false _ A3.out).mono ?_);rintro e w' ⟨rfl,⟨nd,rfl⟩⟩;refine⟨_,rfl,?_⟩)|(go_at_call 283;(with_reducible refine(desc_plain.calls t116 t120 _ A6.out).mono ?_);rintro e w' ⟨rfl,⟨nd,rfl⟩⟩))
   all_goals go_ret
   all_goals exact⟨by first|rfl|(simp;done)|(simp[*];done),by repeat (first|exact Drawn0.refl _|apply Drawn0.step)⟩
 ·rw[if_neg c4]at H
  have c4b0:decide (t117≤4)=false:=decide_eq_false c4;clear c4;obtain rfl:=Option.some.inj H
  go_enter Tryz.func222,Tryz.ntmps222
  go_wp2_with (first|((with_reducible refine gate_callee (f:=259) rfl ?_);refine goesL_ (some 9) rfl rfl Tryz.func259 (by kernel_rfl) rfl #[.string a0] rfl (by(try simp only[List.map_toArray,List.map_cons,List.map_nil]);first|done|rfl|(simp only[List.length_drop,List.length_take];rfl)) ?_;(with_reducible refine(desc_bare.calls a0 t116 t117 _ A2.out).mono ?_);rintro e w' ⟨rfl,⟨nd,rfl⟩⟩;refine⟨_,rfl,?_⟩)|((with_reducible refine gate_callee (f:=221) rfl ?_);refine goesL_ (some 14) rfl rfl Tryz.func221 (by kernel_rfl) rfl #[.string t116] rfl (by(try simp only[List.map_toArray,List.map_cons,List.map_nil]);first|done|rfl|(simp only[List.length_drop,List.length_take];rfl)) ?_;(with_reducible refine(desc_name.calls k t116 t118 t119 _ A3.out).mono ?_);rintro e w' ⟨rfl,⟨nd,rfl⟩⟩;refine⟨_,rfl,?_⟩))
  all_goals go_ret
  all_goals exact⟨by first|rfl|(simp;done)|(simp[*];done),by repeat (first|exact Drawn0.refl _|apply Drawn0.step)⟩
mutual
def hornbookref02_Right.j1:Nat→ByteArray→Int→Option (Bool)
 |0,_,_=>none
 |k+1,x0,x3=>if x3>4 then(some false)else(if 0≤x3 then(if x3≤(x0.size:Int)then(if(x0.extract (x3:Int).toNat x0.size).toList=([73]:List UInt8)then(some true)else(if(x0.extract (x3:Int).toNat x0.size).toList=([66]:List UInt8)then(some true)else(if(x0.extract (x3:Int).toNat x0.size).toList=([83]:List UInt8)then(some true)else(if((x0.extract (x3:Int).toNat x0.size).size:Int)>2 then(if 0<((x0.extract (x3:Int).toNat x0.size).size:Int)then(if(bt (x0.extract (x3:Int).toNat x0.size) 0)=76 then(if 0≤(wrap64 (((x0.extract (x3:Int).toNat x0.size).size:Int)-1))then(if(wrap64 (((x0.extract (x3:Int).toNat x0.size).size:Int)-1))<((x0.extract (x3:Int).toNat x0.size).size:Int)then(if(bt (x0.extract (x3:Int).toNat x0.size) (wrap64 (((x0.extract (x3:Int).toNat x0.size).size:Int)-1)))=59 then(if 1≤(wrap64 (((x0.extract (x3:Int).toNat x0.size).size:Int)-1))then(if(wrap64 (((x0.extract (x3:Int).toNat x0.size).size:Int)-1))≤((x0.extract (x3:Int).toNat x0.size).size:Int)then((hornbookref01_Name.f k ((x0.extract (x3:Int).toNat x0.size).extract 1 ((wrap64 (((x0.extract (x3:Int).toNat x0.size).size:Int)-1)):Int).toNat)).bind fun t121=>(some t121))else(none))else(none))else(some false))else(none))else(none))else(some false))else(none))else(some false)))))else(none))else(none))
def hornbookref02_Right.l0:Nat→ByteArray→Int→Option (Bool)
 |0,_,_=>none
 |k+1,x0,x3=>if x3<(x0.size:Int)then(if 0≤x3 then(if(bt x0 x3)=91 then(hornbookref02_Right.l0 k x0 (wrap64 (x3+1)))else(hornbookref02_Right.j1 k x0 x3))else(none))else(hornbookref02_Right.j1 k x0 x3)
end
def hornbookref02_Right.f(k:Nat)(a0:ByteArray):Option (Bool):=hornbookref02_Right.l0 k a0 0
set_option maxHeartbeats 8000000 in
set_option maxRecDepth 100000 in
theorem hornbookref02_Right.calls(k:Nat)(a0:ByteArray)(r:Bool)(w:World)(h:hornbookref02_Right.f k a0=some r):
  Calls Tryz.prog 205 #[.string a0] w fun e w'=>e= .returned (.bool r)∧Drawn0 w w':=by
 have H:(hornbookref02_Right.l0 k a0 0)=some r:=h;clear h
 have HC2:=Aside0.mk H
 clear H
 go_enter Tryz.func205,Tryz.ntmps205
 go_upto_block 0 with(fail)
 go_cut [3] (fun v3 wc=> ∃(kq:Nat) (x3_1:Int),v3= .int .i64 x3_1∧Aside0 (hornbookref02_Right.j1 kq a0 x3_1=some r)∧Aside0 (kq≤k)∧Drawn0 w wc)
 case first=>
  have H:=HC2.out
  clear HC2;have H':=Aside0.mk H;clear H;go_wp2
  go_loopg [3] k (fun kq v3 w'=> ∃(x3_1:Int),v3= .int .i64 x3_1∧Aside0 (hornbookref02_Right.l0 kq a0 x3_1=some r)∧Aside0 (kq≤k)∧Drawn0 w w')
  case atStart=>exact⟨(0),(by first|rfl|(simp;done)|(simp[*];done)),H',⟨Nat.le_refl _⟩,by repeat (first|exact Drawn0.refl _|apply Drawn0.step)⟩
  case round=>
   clear H';(try clear c2);(try clear p2);obtain⟨x3_1,rfl,HA,HK1,⟨m1,rfl⟩⟩:=hrel
   cases gk with
   |zero=>exact absurd HA.out (by simp[hornbookref02_Right.l0])
   |succ k1=>
    have H:=HA.out
    clear HA;simp only[hornbookref02_Right.l0]at H
    by_cases c3:x3_1<(a0.size:Int)
    ·rw[if_pos c3]at H
     have c3b0:decide (x3_1<(a0.size:Int))=true:=decide_eq_true c3;clear c3;(first|rw [c3b0]|(simp only[i64_w,i32_w];rw[c3b0])|skip)
     by_cases c4:0≤x3_1
     ·rw[if_pos c4]at H
      have c4b0:decide (0≤x3_1)=true:=decide_eq_true c4;clear c4
      by_cases c6:(bt a0 x3_1)=91
      ·rw[if_pos c6]at H
       have c6b0:((bt a0 x3_1)==91)=true:=beq_iff_eq.mpr c6;have c6b1:((bt a0 x3_1) !=91)=false:=bne_eq_false_iff_eq.mpr c6;clear c6;have H':=Aside0.mk H;clear H;have p5:0≤(x3_1:Int):=of_decide_eq_true (by first|(with_reducible assumption)|assumption);have q5:x3_1<(a0.size:Int):=of_decide_eq_true (by first|(with_reducible assumption)|assumption)
       have hx5:=bt_at a0 x3_1
       replace p5:=eq_true p5;replace q5:=eq_true q5;go_wp2
       go_roundg k1
       case measure=>have:=HK1.out;omega
       case rel=>exact⟨(wrap64 (x3_1+1)),(by first|rfl|(simp;done)|(simp[*];done)),H',⟨by have:=HK1.out;omega⟩,by repeat (first|exact Drawn0.refl _|apply Drawn0.step)⟩
      ·rw[if_neg c6]at H
       have c6b0:((bt a0 x3_1)==91)=false:=beq_eq_false_iff_ne.mpr c6;have c6b1:((bt a0 x3_1) !=91)=true:=bne_iff_ne.mpr c6;have H':=Aside0.mk H;clear H;have p5:0≤(x3_1:Int):=of_decide_eq_true (by first|(with_reducible assumption)|assumption);have q5:x3_1<(a0.size:Int):=of_decide_eq_true (by first|(with_reducible assumption)|assumption)
       have hx5:=bt_at a0 x3_1
       replace p5:=eq_true p5;replace q5:=eq_true q5;go_wp2;go_meet
       case rel=>exact⟨_,(x3_1),(by first|rfl|(simp;done)|(simp[*];done)),H',⟨by have:=HK1.out;first|omega|exact Nat.le_refl _⟩,by repeat (first|exact Drawn0.refl _|apply Drawn0.step)⟩
     ·rw[if_neg c4]at H
      exact absurd H (by simp)
    ·rw[if_neg c3]at H
     have c3b0:decide (x3_1<(a0.size:Int))=false:=decide_eq_false c3;clear c3;(first|rw [c3b0]|(simp only[i64_w,i32_w];rw[c3b0])|skip);have H':=Aside0.mk H;clear H;go_wp2;go_meet
     case rel=>exact⟨_,(x3_1),(by first|rfl|(simp;done)|(simp[*];done)),H',⟨by have:=HK1.out;first|omega|exact Nat.le_refl _⟩,by repeat (first|exact Drawn0.refl _|apply Drawn0.step)⟩
 case rest=>
  clear HC2;(try clear c2);(try clear p2);(try clear c3);(try clear c3b0);(try clear c4);(try clear c4b0);(try clear p5);(try clear q5);(try clear hx5);(try clear c6);(try clear c6b0);(try clear c6b1);(try clear p6);(try clear p2);(try clear p5);(try clear q5);obtain⟨kq,x3_1,rfl,HA,HJ1,⟨mc1,rfl⟩⟩:=hcut
  cases kq with
  |zero=>exact absurd HA.out (by simp[hornbookref02_Right.j1])
  |succ kj1=>
   have H:=HA.out
   clear HA;simp only[hornbookref02_Right.j1]at H
   by_cases c7:x3_1>4
   ·rw[if_pos c7]at H
    have c7b0:decide (4<x3_1)=true:=decide_eq_true c7;clear c7;obtain rfl:=Option.some.inj H;go_wp2
    all_goals go_ret
    all_goals exact⟨by first|rfl|(simp;done)|(simp[*];done),by repeat (first|exact Drawn0.refl _|apply Drawn0.step)⟩
   ·rw[if_neg c7]at H
    have c7b0:decide (4<x3_1)=false:=decide_eq_false c7;clear c7
    by_cases c8:0≤x3_1
    ·rw[if_pos c8]at H
     have c8b0:=eq_true c8
     have c8b1:decide (0≤x3_1)=true:=decide_eq_true c8;clear c8
     by_cases c9:x3_1≤(a0.size:Int)
     ·rw[if_pos c9]at H
      have c9b0:=eq_true c9
      have c9b1:decide (x3_1≤(a0.size:Int))=true:=decide_eq_true c9;clear c9;obtain⟨d1_,hd1_⟩: ∃d_,a0.extract (x3_1:Int).toNat a0.size=d_:=⟨_,rfl⟩;rw[hd1_]at H
      have sd1_: ∀W_:World,(Instr.slice 9 (.string a0) (some (.int .i64 x3_1)) none none).run Tryz.prog W_= .ok (.string d1_) W_:=fun W_=>by rw[run_slice_string_l W_ 9 a0 Tryz.underlying9 .i64 _ (of_decide_eq_true (show decide (0≤x3_1)=true by assumption)) (of_decide_eq_true (show decide (x3_1≤(a0.size:Int))=true by assumption)),hd1_]
      clear hd1_
      by_cases c10:d1_.toList=([73]:List UInt8)
      ·rw[if_pos c10]at H
       have c10b0:(d1_.toList==([73]:List UInt8))=true:=beq_iff_eq.mpr c10;have c10b1:(d1_.toList !=([73]:List UInt8))=false:=bne_eq_false_iff_eq.mpr c10;clear c10;obtain rfl:=Option.some.inj H;go_wp2
       all_goals go_ret
       all_goals exact⟨by first|rfl|(simp;done)|(simp[*];done),by repeat (first|exact Drawn0.refl _|apply Drawn0.step)⟩
      ·rw[if_neg c10]at H
       have c10b0:(d1_.toList==([73]:List UInt8))=false:=beq_eq_false_iff_ne.mpr c10;have c10b1:(d1_.toList !=([73]:List UInt8))=true:=bne_iff_ne.mpr c10
       by_cases c11:d1_.toList=([66]:List UInt8)
       ·rw[if_pos c11]at H
        have c11b0:(d1_.toList==([66]:List UInt8))=true:=beq_iff_eq.mpr c11;have c11b1:(d1_.toList !=([66]:List UInt8))=false:=bne_eq_false_iff_eq.mpr c11;clear c11;obtain rfl:=Option.some.inj H;go_wp2
        all_goals go_ret
        all_goals exact⟨by first|rfl|(simp;done)|(simp[*];done),by repeat (first|exact Drawn0.refl _|apply Drawn0.step)⟩
       ·rw[if_neg c11]at H
        have c11b0:(d1_.toList==([66]:List UInt8))=false:=beq_eq_false_iff_ne.mpr c11;have c11b1:(d1_.toList !=([66]:List UInt8))=true:=bne_iff_ne.mpr c11
        by_cases c12:d1_.toList=([83]:List UInt8)
        ·rw[if_pos c12]at H
         have c12b0:(d1_.toList==([83]:List UInt8))=true:=beq_iff_eq.mpr c12;have c12b1:(d1_.toList !=([83]:List UInt8))=false:=bne_eq_false_iff_eq.mpr c12;clear c12;obtain rfl:=Option.some.inj H;go_wp2
         all_goals go_ret
         all_goals exact⟨by first|rfl|(simp;done)|(simp[*];done),by repeat (first|exact Drawn0.refl _|apply Drawn0.step)⟩
        ·rw[if_neg c12]at H
         have c12b0:(d1_.toList==([83]:List UInt8))=false:=beq_eq_false_iff_ne.mpr c12;have c12b1:(d1_.toList !=([83]:List UInt8))=true:=bne_iff_ne.mpr c12
         by_cases c13:(d1_.size:Int)>2
         ·rw[if_pos c13]at H
          have c13b0:decide (2<(d1_.size:Int))=true:=decide_eq_true c13;have c13b1:decide (2<d1_.size)=true:=decide_eq_true (by omega);clear c13
          by_cases c14:0<(d1_.size:Int)
          ·rw[if_pos c14]at H
           have c14b0:decide (0<(d1_.size:Int))=true:=decide_eq_true c14;have c14b1:decide (0<d1_.size)=true:=decide_eq_true (by omega);clear c14
           by_cases c16:(bt d1_ 0)=76
           ·rw[if_pos c16]at H
            have c16b0:((bt d1_ 0)==76)=true:=beq_iff_eq.mpr c16;have c16b1:((bt d1_ 0) !=76)=false:=bne_eq_false_iff_eq.mpr c16;clear c16;obtain⟨ji17,hji17⟩: ∃j_:Int,(wrap64 ((d1_.size:Int)-1))=j_:=⟨_,rfl⟩
            replace H:(if 0≤(ji17)then(if(ji17)<(d1_.size:Int)then(if(bt d1_ (ji17))=59 then(if 1≤(ji17)then(if(ji17)≤(d1_.size:Int)then((hornbookref01_Name.f kj1 (d1_.extract 1 ((ji17):Int).toNat)).bind fun t121=>(some t121))else(none))else(none))else(some false))else(none))else(none))=some r:=by first|(rw[hji17]at H;exact H)|(simp only[hji17]at H ⊢;exact H)
            have hji17w:(IntKind.i64.wrap ((d1_.size:Int)-1))=ji17:=(i64_w _).trans hji17
            by_cases c18:0≤(ji17)
            ·rw[if_pos c18]at H
             have c18b0:decide (0≤(ji17))=true:=decide_eq_true c18;clear c18
             by_cases c19:(ji17)<(d1_.size:Int)
             ·rw[if_pos c19]at H
              have c19b0:decide ((ji17)<(d1_.size:Int))=true:=decide_eq_true c19;clear c19
              by_cases c21:(bt d1_ (ji17))=59
              ·rw[if_pos c21]at H
               have c21b0:((bt d1_ (ji17))==59)=true:=beq_iff_eq.mpr c21;have c21b1:((bt d1_ (ji17)) !=59)=false:=bne_eq_false_iff_eq.mpr c21;clear c21
               by_cases c22:1≤(ji17)
               ·rw[if_pos c22]at H
                have c22b0:=eq_true c22
                have c22b1:decide (1≤(ji17))=true:=decide_eq_true c22;clear c22
                by_cases c23:(ji17)≤(d1_.size:Int)
                ·rw[if_pos c23]at H
                 have c23b0:=eq_true c23
                 have c23b1:decide ((ji17)≤(d1_.size:Int))=true:=decide_eq_true c23;clear c23;replace H:=Option.bind_eq_some_iff.mp H;obtain⟨t121,A240,H⟩:=H;replace H:(some t121)=some r:=H
                 have A24:=Aside0.mk A240
                 clear A240;obtain rfl:=Option.some.inj H;have p15:0≤(0:Int):=(by omega);have q15:0<d1_.size:=(by have:(0:Int)<(d1_.size:Int):=of_decide_eq_true (by first|(with_reducible assumption)|assumption);omega);have hx15: ∀h:0<d1_.size,((d1_[0]'h).toNat:Int)=bt d1_ 0:=bt_at d1_ 0;clear p15;have qi15:(0<(d1_.size:Int))=True:=eq_true (of_decide_eq_true (by first|(with_reducible assumption)|assumption));replace q15:=eq_true q15;have p20:0≤((ji17):Int):=of_decide_eq_true (by first|(with_reducible assumption)|assumption)
                 have q20:(ji17)<(d1_.size:Int):=of_decide_eq_true (by first|(with_reducible assumption)|assumption)
                 have hx20:=bt_at d1_ (ji17)
                 replace p20:=eq_true p20;replace q20:=eq_true q20
                 go_wp2_with (first|(go_at_call 204;(with_reducible refine(hornbookref01_Name.calls kj1 (d1_.extract 1 ((ji17):Int).toNat) t121 _ A24.out).mono ?_);rintro e w' ⟨rfl,⟨nd,rfl⟩⟩))
                 all_goals go_ret
                 all_goals exact⟨by first|rfl|(simp;done)|(simp only[←hji17]<;>(first|rfl|simp))|(simp[*];done),by repeat (first|exact Drawn0.refl _|apply Drawn0.step)⟩
                ·rw[if_neg c23]at H
                 exact absurd H (by simp)
               ·rw[if_neg c22]at H
                exact absurd H (by simp)
              ·rw[if_neg c21]at H
               have c21b0:((bt d1_ (ji17))==59)=false:=beq_eq_false_iff_ne.mpr c21;have c21b1:((bt d1_ (ji17)) !=59)=true:=bne_iff_ne.mpr c21;obtain rfl:=Option.some.inj H;have p15:0≤(0:Int):=(by omega);have q15:0<d1_.size:=(by have:(0:Int)<(d1_.size:Int):=of_decide_eq_true (by first|(with_reducible assumption)|assumption);omega);have hx15: ∀h:0<d1_.size,((d1_[0]'h).toNat:Int)=bt d1_ 0:=bt_at d1_ 0;clear p15;have qi15:(0<(d1_.size:Int))=True:=eq_true (of_decide_eq_true (by first|(with_reducible assumption)|assumption))
               replace q15:=eq_true q15;have p20:0≤((ji17):Int):=of_decide_eq_true (by first|(with_reducible assumption)|assumption);have q20:(ji17)<(d1_.size:Int):=of_decide_eq_true (by first|(with_reducible assumption)|assumption)
               have hx20:=bt_at d1_ (ji17)
               replace p20:=eq_true p20;replace q20:=eq_true q20;go_wp2
               all_goals go_ret
               all_goals exact⟨by first|rfl|(simp;done)|(simp only[←hji17]<;>(first|rfl|simp))|(simp[*];done),by repeat (first|exact Drawn0.refl _|apply Drawn0.step)⟩
             ·rw[if_neg c19]at H
              exact absurd H (by simp)
            ·rw[if_neg c18]at H
             exact absurd H (by simp)
           ·rw[if_neg c16]at H
            have c16b0:((bt d1_ 0)==76)=false:=beq_eq_false_iff_ne.mpr c16;have c16b1:((bt d1_ 0) !=76)=true:=bne_iff_ne.mpr c16;obtain rfl:=Option.some.inj H;have p15:0≤(0:Int):=(by omega);have q15:0<d1_.size:=(by have:(0:Int)<(d1_.size:Int):=of_decide_eq_true (by first|(with_reducible assumption)|assumption);omega);have hx15: ∀h:0<d1_.size,((d1_[0]'h).toNat:Int)=bt d1_ 0:=bt_at d1_ 0;clear p15;have qi15:(0<(d1_.size:Int))=True:=eq_true (of_decide_eq_true (by first|(with_reducible assumption)|assumption))
            replace q15:=eq_true q15;go_wp2
            all_goals go_ret
            all_goals exact⟨by first|rfl|(simp;done)|(simp[*];done),by repeat (first|exact Drawn0.refl _|apply Drawn0.step)⟩
          ·rw[if_neg c14]at H
           exact absurd H (by simp)
         ·rw[if_neg c13]at H
          have c13b0:decide (2<(d1_.size:Int))=false:=decide_eq_false c13;have c13b1:decide (2<d1_.size)=false:=decide_eq_false (by omega);clear c13;obtain rfl:=Option.some.inj H;go_wp2
          all_goals go_ret
          all_goals exact⟨by first|rfl|(simp;done)|(simp[*];done),by repeat (first|exact Drawn0.refl _|apply Drawn0.step)⟩
     ·rw[if_neg c9]at H
      exact absurd H (by simp)
    ·rw[if_neg c8]at H
     exact absurd H (by simp)
def strings_HasPrefix.f(a0:ByteArray)(a1:ByteArray):Option (Bool):=(stringslite_HasPrefix.f a0 a1).bind fun t122=>(some t122)
set_option maxHeartbeats 8000000 in
set_option maxRecDepth 100000 in
theorem strings_HasPrefix.calls(a0:ByteArray)(a1:ByteArray)(r:Bool)(w:World)(h:strings_HasPrefix.f a0 a1=some r):
  Calls Tryz.prog 180 #[.string a0, .string a1] w fun e w'=>e= .returned (.bool r)∧Drawn0 w w':=by
 have H:((stringslite_HasPrefix.f a0 a1).bind fun t122=>(some t122))=some r:=h;clear h;replace H:=Option.bind_eq_some_iff.mp H;obtain⟨t122,A30,H⟩:=H;replace H:(some t122)=some r:=H
 have A3:=Aside0.mk A30
 clear A30;obtain rfl:=Option.some.inj H
 go_enter Tryz.func180,Tryz.ntmps180
 go_wp2_with (first|((with_reducible refine gate_callee (f:=258) rfl ?_);refine goesL_ (some 7) rfl rfl Tryz.func258 (by kernel_rfl) rfl #[.string a0, .string a1] rfl (by(try simp only[List.map_toArray,List.map_cons,List.map_nil]);first|done|rfl|(simp only[List.length_drop,List.length_take];rfl)) ?_;(with_reducible refine(stringslite_HasPrefix.calls a0 a1 t122 _ A3.out).mono ?_);rintro e w' ⟨rfl,⟨nd,rfl⟩⟩;refine⟨_,rfl,?_⟩))
 all_goals go_ret
 all_goals exact⟨by first|rfl|(simp;done)|(simp[*];done),by repeat (first|exact Drawn0.refl _|apply Drawn0.step)⟩
end Go.Proofs.YtcocmlmligjjcaaGreatDoor.Q
