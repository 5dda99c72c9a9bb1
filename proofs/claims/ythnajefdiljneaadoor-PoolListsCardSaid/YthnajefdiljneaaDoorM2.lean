/- Texts of this claim, put together. -/
import Derived.Test.YthnajefdiljneaaDoorM1
import Derived.Maps.Own
import Derived.MapKept
import Derived.Test.YthnajefdiljneaaDoorProg
import Derived.Below
import Derived.Deep.Draws
import Derived.Deep.AppendLies
import Derived.Maps.AppendAt
import Derived.OwnWalk
import Derived.Laws.BytesArg
import Derived.Laws.MakeOwn
import Derived.Laws.OwnMore
import Derived.Deep.OwnRows
import Derived.Tactics
import Derived.Lib.ConvBytes
import Derived.Laws.Slices
import Derived.WalkKit
import Derived.KernelRfl
import Derived.RowKit3
import Derived.Deep.LoopGhost
import Derived.Deep.QuietTactic
import Derived.BigQuiet
import Derived.WideLaws
import Derived.Deep.DeepCutAuto
import Derived.Deep.CutBlock
import Derived.Deep.RegionHeld3
import Derived.Laws.Rows
import Derived.Lib.AppendStr
import Derived.ArgAppend
import Derived.Laws.IdiomCopy
import Derived.OrdersHeld
import Derived.Laws.BitsLemmas
import Derived.RowKit
import Derived.WalkSpells
import Derived.WalkLawsBesides
import Derived.Laws.StructEq
import Derived.Test.YthnajefdiljneaaDoorM0
section
-- SQUEEZED
/- Maps that a call itself makes, told by a list of pairs: looked into, written, counted; whatever the types of keys and elements. -/
set_option linter.unusedVariables false
set_option linter.unusedSectionVars false
set_option linter.unusedSimpArgs false
namespace Go.Proofs.HW
open Go.RowKit Go.MapKept Go.ChangeMaps
section
variable {κ ν:Type} [DecidableEq κ]
def mpos(k:κ):List κ→List MapEntry→Nat→Option (Nat×Value)
 |k'::ks,e::l,i=>if k=k' then some (i,e.val)else mpos k ks l (i+1)
 |_,_,_=>none
end
structure KeyEnc (P:Program) (kt:TypeId) {κ:Type} [DecidableEq κ] (enc:κ→Value):Prop where
 check: ∀(e:Bool) (k:κ) (w:World),(Instr.checkKey e 10000 kt (enc k)).run P w= .ok () w
 find: ∀(k:κ) (l:List MapEntry) (ks:List κ) (w:World),l.map MapEntry.key=ks.map enc→(Instr.findKey kt (enc k) l).run P w= .ok (mpos k ks l 0) w
 stays: ∀(k:κ) (w:World),(Instr.keyThatStays (enc k) (enc k)).run P w= .ok (enc k) w
section
variable {κ ν:Type} [DecidableEq κ] {ek:κ→Value} {ev:ν→Value} {w:World} {b:Nat} {m:List (κ×ν)} {P:Program} {t kt et:TypeId}
end
section
variable {P:Program} {ops:Array Oper} {rest:List Oper} {o:Oper} {a:Act} {Q:Exit→Act→World→Prop}
variable {κ ν:Type} [DecidableEq κ] {ek:κ→Value} {ev:ν→Value} {w:World} {b:Nat} {m:List (κ×ν)} {t kt et:TypeId}
end
end Go.Proofs.HW
end
section
-- SQUEEZED
-- Written by the program wip/tools/mp.py of this work, which drives the print of the kit; hand texts of this session among it.
namespace Go.Proofs.YthnajefdiljneaaDoor.Q
open Go.RowKit Go.Proofs.HW Go.Proofs.YthnajefdiljneaaDoorW.PrintWords Go.Proofs.YthnajefdiljneaaDoorW.PrintLast
set_option linter.unusedVariables false
set_option linter.unusedSimpArgs false
theorem info9:(Tryd.prog.info? 9).map (fun i=>(i.zero,i.size,i.bytes))=some (some (.string ⟨#[]⟩),1,16):=by kernel_rfl
-- the values' own types
structure S24 where
 f0:Int
 f1:Int
 f2:ByteArray
 f3:ByteArray
 f4:ByteArray
def z24:S24:=⟨(0:Int),(0:Int),(⟨#[]⟩:ByteArray),(⟨#[]⟩:ByteArray),(⟨#[]⟩:ByteArray)⟩
def rd_T24(xs:List S24)(i:Int):S24:=xs.getD i.toNat z24
end Go.Proofs.YthnajefdiljneaaDoor.Q
end
section
-- SQUEEZED
-- Written by the program wip/tools/mp.py of this work, which drives the print of the kit; hand texts of this session among it.
namespace Go.Proofs.YthnajefdiljneaaDoor.Q
open Go.RowKit Go.Proofs.HW Go.Proofs.YthnajefdiljneaaDoorW.PrintWords Go.Proofs.YthnajefdiljneaaDoorW.PrintLast
set_option linter.unusedVariables false
set_option linter.unusedSimpArgs false
theorem eqA24(d:Nat)(w:World)(x0 y0:Int)(x1 y1:Int)(x2 y2:ByteArray)(x3 y3:ByteArray)(x4 y4:ByteArray):
  (Op.equalIn (d+2) 24 (.agg #[.int .i64 x0, .int .i64 x1, .string x2, .string x3, .string x4]) (.agg #[.int .i64 y0, .int .i64 y1, .string y2, .string y3, .string y4])).run Tryd.prog w= .ok (x0==y0&&(x1==y1&&(x2.toList==y2.toList&&(x3.toList==y3.toList&&(x4.toList==y4.toList))))) w:=by
 refine eqA_of Tryd.underlying24 (by kernel_rfl) ?_
 refine eqf_cons (by rfl) (by go_simp;rfl) (by go_simp;rfl) (by go_simp) ?_
 refine eqf_cons (by rfl) (by go_simp;rfl) (by go_simp;rfl) (by go_simp) ?_
 refine eqf_cons (by rfl) (by go_simp;rfl) (by go_simp;rfl) (by go_simp) ?_
 refine eqf_cons (by rfl) (by go_simp;rfl) (by go_simp;rfl) (by go_simp) ?_
 exact eqf_last (by rfl) (by go_simp;rfl) (by go_simp;rfl) (by go_simp)
end Go.Proofs.YthnajefdiljneaaDoor.Q
end
section
-- SQUEEZED
-- Written by the program wip/tools/mp.py of this work, which drives the print of the kit; hand texts of this session among it.
namespace Go.Proofs.YthnajefdiljneaaDoor.Q
open Go.RowKit Go.Proofs.HW Go.Proofs.YthnajefdiljneaaDoorW.PrintWords Go.Proofs.YthnajefdiljneaaDoorW.PrintLast
set_option linter.unusedVariables false
set_option linter.unusedSimpArgs false
def bin_digit.f(a0:Int):Option (Bool):=if a0≥48 then(some (decide (a0≤57)))else(some false)
set_option maxHeartbeats 8000000 in
set_option maxRecDepth 100000 in
theorem bin_digit.calls(a0:Int)(r:Bool)(w:World)(h:bin_digit.f a0=some r):
  Calls Tryd.prog 53 #[.int .u8 a0] w fun e w'=>e= .returned (.bool r)∧Drawn0 w w':=by
 have H:(if a0≥48 then(some (decide (a0≤57)))else(some false))=some r:=h;clear h
 by_cases c2:a0≥48
 ·rw[if_pos c2]at H
  have c2b0:decide (48≤a0)=true:=decide_eq_true c2;clear c2;obtain rfl:=Option.some.inj H
  go_enter Tryd.func53,Tryd.ntmps53
  go_wp2
  all_goals go_ret
  all_goals exact⟨by first|rfl|(simp;done)|(simp[*];done),by repeat (first|exact Drawn0.refl _|apply Drawn0.step)⟩
 ·rw[if_neg c2]at H
  have c2b0:decide (48≤a0)=false:=decide_eq_false c2;clear c2;obtain rfl:=Option.some.inj H
  go_enter Tryd.func53,Tryd.ntmps53
  go_wp2
  all_goals go_ret
  all_goals exact⟨by first|rfl|(simp;done)|(simp[*];done),by repeat (first|exact Drawn0.refl _|apply Drawn0.step)⟩
def bin_letter.f(a0:Int):Option (Bool):=if a0≥97 then(if a0≤122 then(some true)else(if a0≥65 then(if a0≤90 then(some true)else(some (a0==95)))else(some (a0==95))))else(if a0≥65 then(if a0≤90 then(some true)else(some (a0==95)))else(some (a0==95)))
set_option maxHeartbeats 8000000 in
set_option maxRecDepth 100000 in
theorem bin_letter.calls(a0:Int)(r:Bool)(w:World)(h:bin_letter.f a0=some r):
  Calls Tryd.prog 54 #[.int .u8 a0] w fun e w'=>e= .returned (.bool r)∧Drawn0 w w':=by
 have H:(if a0≥97 then(if a0≤122 then(some true)else(if a0≥65 then(if a0≤90 then(some true)else(some (a0==95)))else(some (a0==95))))else(if a0≥65 then(if a0≤90 then(some true)else(some (a0==95)))else(some (a0==95))))=some r:=h;clear h
 by_cases c2:a0≥97
 ·rw[if_pos c2]at H
  have c2b0:decide (97≤a0)=true:=decide_eq_true c2;clear c2
  by_cases c3:a0≤122
  ·rw[if_pos c3]at H
   have c3b0:decide (a0≤122)=true:=decide_eq_true c3;clear c3;obtain rfl:=Option.some.inj H
   go_enter Tryd.func54,Tryd.ntmps54
   go_wp2
   all_goals go_ret
   all_goals exact⟨by first|rfl|(simp;done)|(simp[*];done),by repeat (first|exact Drawn0.refl _|apply Drawn0.step)⟩
  ·rw[if_neg c3]at H
   have c3b0:decide (a0≤122)=false:=decide_eq_false c3;clear c3
   by_cases c4:a0≥65
   ·rw[if_pos c4]at H
    have c4b0:decide (65≤a0)=true:=decide_eq_true c4;clear c4
    by_cases c5:a0≤90
    ·rw[if_pos c5]at H
     have c5b0:decide (a0≤90)=true:=decide_eq_true c5;clear c5;obtain rfl:=Option.some.inj H
     go_enter Tryd.func54,Tryd.ntmps54
     go_wp2
     all_goals go_ret
     all_goals exact⟨by first|rfl|(simp;done)|(simp[*];done),by repeat (first|exact Drawn0.refl _|apply Drawn0.step)⟩
    ·rw[if_neg c5]at H
     have c5b0:decide (a0≤90)=false:=decide_eq_false c5;clear c5;obtain rfl:=Option.some.inj H
     go_enter Tryd.func54,Tryd.ntmps54
     go_wp2
     all_goals go_ret
     all_goals exact⟨by first|rfl|(simp;done)|(simp[*];done),by repeat (first|exact Drawn0.refl _|apply Drawn0.step)⟩
   ·rw[if_neg c4]at H
    have c4b0:decide (65≤a0)=false:=decide_eq_false c4;clear c4;obtain rfl:=Option.some.inj H
    go_enter Tryd.func54,Tryd.ntmps54
    go_wp2
    all_goals go_ret
    all_goals exact⟨by first|rfl|(simp;done)|(simp[*];done),by repeat (first|exact Drawn0.refl _|apply Drawn0.step)⟩
 ·rw[if_neg c2]at H
  have c2b0:decide (97≤a0)=false:=decide_eq_false c2;clear c2
  by_cases c6:a0≥65
  ·rw[if_pos c6]at H
   have c6b0:decide (65≤a0)=true:=decide_eq_true c6;clear c6
   by_cases c7:a0≤90
   ·rw[if_pos c7]at H
    have c7b0:decide (a0≤90)=true:=decide_eq_true c7;clear c7;obtain rfl:=Option.some.inj H
    go_enter Tryd.func54,Tryd.ntmps54
    go_wp2
    all_goals go_ret
    all_goals exact⟨by first|rfl|(simp;done)|(simp[*];done),by repeat (first|exact Drawn0.refl _|apply Drawn0.step)⟩
   ·rw[if_neg c7]at H
    have c7b0:decide (a0≤90)=false:=decide_eq_false c7;clear c7;obtain rfl:=Option.some.inj H
    go_enter Tryd.func54,Tryd.ntmps54
    go_wp2
    all_goals go_ret
    all_goals exact⟨by first|rfl|(simp;done)|(simp[*];done),by repeat (first|exact Drawn0.refl _|apply Drawn0.step)⟩
  ·rw[if_neg c6]at H
   have c6b0:decide (65≤a0)=false:=decide_eq_false c6;clear c6;obtain rfl:=Option.some.inj H
   go_enter Tryd.func54,Tryd.ntmps54
   go_wp2
   all_goals go_ret
   all_goals exact⟨by first|rfl|(simp;done)|(simp[*];done),by repeat (first|exact Drawn0.refl _|apply Drawn0.step)⟩
mutual
def bin_Name.j0:Nat→ByteArray→Bool→Option (Bool)
 |0,_,_=>none
 |k+1,x0,x15=>if x15=true then(some false)else(bin_Name.l0 k x0 (x0.size:Int) 0)
def bin_Name.l0:Nat→ByteArray→Int→Int→Option (Bool)
 |0,_,_,_=>none
 |k+1,x0,x17,x18=>if x18<x17 then(if 0≤x18 then(if x18<(x0.size:Int)then((bin_letter.f (bt x0 x18)).bind fun t102=>(if t102=true then(bin_Name.l0 k x0 x17 (wrap64 (x18+1)))else((bin_digit.f (bt x0 x18)).bind fun t103=>(if t103=true then(bin_Name.l0 k x0 x17 (wrap64 (x18+1)))else(some false)))))else(none))else(none))else(some true)
end
def bin_Name.f(k:Nat)(a0:ByteArray):Option (Bool):=if a0.toList=([]:List UInt8)then(bin_Name.j0 k a0 true)else(if(a0.size:Int)>24 then(bin_Name.j0 k a0 true)else(if 0<(a0.size:Int)then((bin_digit.f (bt a0 0)).bind fun t101=>(bin_Name.j0 k a0 t101))else(none)))
set_option maxHeartbeats 8000000 in
set_option maxRecDepth 100000 in
theorem bin_Name.calls(k:Nat)(a0:ByteArray)(r:Bool)(w:World)(h:bin_Name.f k a0=some r):
  Calls Tryd.prog 27 #[.string a0] w fun e w'=>e= .returned (.bool r)∧Drawn0 w w':=by
 have H:(if a0.toList=([]:List UInt8)then(bin_Name.j0 k a0 true)else(if(a0.size:Int)>24 then(bin_Name.j0 k a0 true)else(if 0<(a0.size:Int)then((bin_digit.f (bt a0 0)).bind fun t101=>(bin_Name.j0 k a0 t101))else(none))))=some r:=h;clear h
 have HC2:=Aside0.mk H
 clear H
 go_enter Tryd.func27,Tryd.ntmps27
 go_upto_region 1 with(fail)
 go_cut [15] (fun v15 wc=> ∃(kq:Nat) (x15_1:Bool),v15= .bool x15_1∧Aside0 (bin_Name.j0 kq a0 x15_1=some r)∧Aside0 (kq≤k)∧Drawn0 w wc)
 case first=>
  have H:=HC2.out
  clear HC2
  by_cases c3:a0.toList=([]:List UInt8)
  ·rw[if_pos c3]at H
   have c3b0:(a0.toList==([]:List UInt8))=true:=beq_iff_eq.mpr c3;have c3b1:(a0.toList !=([]:List UInt8))=false:=bne_eq_false_iff_eq.mpr c3;clear c3;(first|rw [c3b0]|(simp only[i64_w,i32_w];rw[c3b0])|skip);have H':=Aside0.mk H;clear H;go_wp2;go_meet
   case rel=>exact⟨_,(true),(by first|rfl|(simp;done)|(simp[*];done)),H',⟨by first|omega|exact Nat.le_refl _⟩,by repeat (first|exact Drawn0.refl _|apply Drawn0.step)⟩
  ·rw[if_neg c3]at H
   have c3b0:(a0.toList==([]:List UInt8))=false:=beq_eq_false_iff_ne.mpr c3;have c3b1:(a0.toList !=([]:List UInt8))=true:=bne_iff_ne.mpr c3;(first|rw [c3b0]|(simp only[i64_w,i32_w];rw[c3b0])|skip)
   by_cases c4:(a0.size:Int)>24
   ·rw[if_pos c4]at H
    have c4b0:decide (24<(a0.size:Int))=true:=decide_eq_true c4;have c4b1:decide (24<a0.size)=true:=decide_eq_true (by omega);clear c4;have H':=Aside0.mk H;clear H;go_wp2;go_meet
    case rel=>exact⟨_,(true),(by first|rfl|(simp;done)|(simp[*];done)),H',⟨by first|omega|exact Nat.le_refl _⟩,by repeat (first|exact Drawn0.refl _|apply Drawn0.step)⟩
   ·rw[if_neg c4]at H
    have c4b0:decide (24<(a0.size:Int))=false:=decide_eq_false c4;have c4b1:decide (24<a0.size)=false:=decide_eq_false (by omega);clear c4
    by_cases c5:0<(a0.size:Int)
    ·rw[if_pos c5]at H
     have c5b0:decide (0<(a0.size:Int))=true:=decide_eq_true c5;have c5b1:decide (0<a0.size)=true:=decide_eq_true (by omega);clear c5;replace H:=Option.bind_eq_some_iff.mp H;obtain⟨t101,A70,H⟩:=H;replace H:(bin_Name.j0 k a0 t101)=some r:=H
     have A7:=Aside0.mk A70
     clear A70;have H':=Aside0.mk H;clear H;have p6:0≤(0:Int):=(by omega);have q6:0<a0.size:=(by have:(0:Int)<(a0.size:Int):=of_decide_eq_true (by first|(with_reducible assumption)|assumption);omega);have hx6: ∀h:0<a0.size,((a0[0]'h).toNat:Int)=bt a0 0:=bt_at a0 0;clear p6;have qi6:(0<(a0.size:Int))=True:=eq_true (of_decide_eq_true (by first|(with_reducible assumption)|assumption));replace q6:=eq_true q6
     go_wp2_with (first|(go_at_call 53;(with_reducible refine(bin_digit.calls (bt a0 0) t101 _ A7.out).mono ?_);rintro e w' ⟨rfl,⟨nd,rfl⟩⟩))
     go_meet
     case rel=>exact⟨_,(t101),(by first|rfl|(simp;done)|(simp[*];done)),H',⟨by first|omega|exact Nat.le_refl _⟩,by repeat (first|exact Drawn0.refl _|apply Drawn0.step)⟩
    ·rw[if_neg c5]at H
     exact absurd H (by simp)
 case rest=>
  clear HC2;(try clear c2);(try clear p2);(try clear c3);(try clear c3b0);(try clear c3b1);(try clear c4);(try clear c4b0);(try clear c4b1);(try clear c5);(try clear c5b0);(try clear c5b1);(try clear p6);(try clear q6);(try clear hx6);(try clear qi6);(try clear p6);(try clear q6);obtain⟨kq,x15_1,rfl,HA,HJ1,⟨mc1,rfl⟩⟩:=hcut
  cases kq with
  |zero=>exact absurd HA.out (by simp[bin_Name.j0])
  |succ kj1=>
   have H:=HA.out
   clear HA;simp only[bin_Name.j0]at H
   by_cases c8:x15_1=true
   ·subst c8
    have H1:(some false)=some r:=by rw[if_pos rfl]at H;exact H
    clear H
    have H:=H1
    clear H1;obtain rfl:=Option.some.inj H;go_wp2
    all_goals go_ret
    all_goals exact⟨by first|rfl|(simp;done)|(simp[*];done),by repeat (first|exact Drawn0.refl _|apply Drawn0.step)⟩
   ·replace c8:=Bool.eq_false_iff.mpr c8
    subst c8
    have H1:(bin_Name.l0 kj1 a0 (a0.size:Int) 0)=some r:=by rw[if_neg (show¬(false=true) by decide)]at H;exact H
    clear H
    have H:=H1
    clear H1;have H':=Aside0.mk H;clear H;go_wp2
    go_loopg [18] kj1 (fun kq v18 w'=> ∃(x18_2:Int),v18= .int .i64 x18_2∧Aside0 (bin_Name.l0 kq a0 (a0.size:Int) x18_2=some r)∧Aside0 (kq≤kj1)∧Drawn0 w w')
    case atStart=>exact⟨(0),(by first|rfl|(simp;done)|(simp[*];done)),H',⟨Nat.le_refl _⟩,by repeat (first|exact Drawn0.refl _|apply Drawn0.step)⟩
    case round=>
     clear H';(try clear c1);(try clear c2);(try clear p2);(try clear c3);(try clear c3b0);(try clear c3b1);(try clear c4);(try clear c4b0);(try clear c4b1);(try clear c5);(try clear c5b0);(try clear c5b1);(try clear p6);(try clear q6);(try clear hx6);(try clear qi6);(try clear c8);(try clear p2);(try clear p6);(try clear q6);obtain⟨x18_2,rfl,HA,HK2,⟨m2,rfl⟩⟩:=hrel
     cases gk with
     |zero=>exact absurd HA.out (by simp[bin_Name.l0])
     |succ k2=>
      have H:=HA.out
      clear HA;simp only[bin_Name.l0]at H
      by_cases c9:x18_2<(a0.size:Int)
      ·rw[if_pos c9]at H
       have c9b0:decide (x18_2<(a0.size:Int))=true:=decide_eq_true c9;clear c9
       by_cases c10:0≤x18_2
       ·rw[if_pos c10]at H
        have c10b0:decide (0≤x18_2)=true:=decide_eq_true c10;clear c10
        by_cases c11:x18_2<(a0.size:Int)
        ·rw[if_pos c11]at H
         have c11b0:decide (x18_2<(a0.size:Int))=true:=decide_eq_true c11;clear c11;replace H:=Option.bind_eq_some_iff.mp H;obtain⟨t102,A130,H⟩:=H;replace H:(if t102=true then(bin_Name.l0 k2 a0 (a0.size:Int) (wrap64 (x18_2+1)))else((bin_digit.f (bt a0 x18_2)).bind fun t103=>(if t103=true then(bin_Name.l0 k2 a0 (a0.size:Int) (wrap64 (x18_2+1)))else(some false))))=some r:=H
         have A13:=Aside0.mk A130
         clear A130
         by_cases c14:t102=true
         ·subst c14
          have H1:(bin_Name.l0 k2 a0 (a0.size:Int) (wrap64 (x18_2+1)))=some r:=by rw[if_pos rfl]at H;exact H
          clear H
          have H:=H1
          clear H1;have H':=Aside0.mk H;clear H;have p12:0≤(x18_2:Int):=of_decide_eq_true (by first|(with_reducible assumption)|assumption);have q12:x18_2<(a0.size:Int):=of_decide_eq_true (by first|(with_reducible assumption)|assumption)
          have hx12:=bt_at a0 x18_2
          replace p12:=eq_true p12;replace q12:=eq_true q12
          go_wp2_with (first|((with_reducible refine gate_callee (f:=54) rfl ?_);refine goesL_ (some 24) rfl rfl Tryd.func54 (by kernel_rfl) rfl #[.int .u8 (bt a0 x18_2)] rfl (by(try simp only[List.map_toArray,List.map_cons,List.map_nil]);first|done|rfl|(simp only[List.length_drop,List.length_take];rfl)) ?_;(with_reducible refine(bin_letter.calls (bt a0 x18_2) true _ A13.out).mono ?_);rintro e w' ⟨rfl,⟨nd,rfl⟩⟩;refine⟨_,rfl,?_⟩))
          go_roundg k2
          case measure=>have:=HJ1.out;have:=HK2.out;omega
          case rel=>exact⟨(wrap64 (x18_2+1)),(by first|rfl|(simp;done)|(simp[*];done)),H',⟨by have:=HJ1.out;have:=HK2.out;omega⟩,by repeat (first|exact Drawn0.refl _|apply Drawn0.step)⟩
         ·replace c14:=Bool.eq_false_iff.mpr c14
          subst c14
          have H1:((bin_digit.f (bt a0 x18_2)).bind fun t103=>(if t103=true then(bin_Name.l0 k2 a0 (a0.size:Int) (wrap64 (x18_2+1)))else(some false)))=some r:=by rw[if_neg (show¬(false=true) by decide)]at H;exact H
          clear H
          have H:=H1
          clear H1;replace H:=Option.bind_eq_some_iff.mp H;obtain⟨t103,A160,H⟩:=H;replace H:(if t103=true then(bin_Name.l0 k2 a0 (a0.size:Int) (wrap64 (x18_2+1)))else(some false))=some r:=H
          have A16:=Aside0.mk A160
          clear A160
          by_cases c17:t103=true
          ·subst c17
           have H1:(bin_Name.l0 k2 a0 (a0.size:Int) (wrap64 (x18_2+1)))=some r:=by rw[if_pos rfl]at H;exact H
           clear H
           have H:=H1
           clear H1;have H':=Aside0.mk H;clear H;have p12:0≤(x18_2:Int):=of_decide_eq_true (by first|(with_reducible assumption)|assumption);have q12:x18_2<(a0.size:Int):=of_decide_eq_true (by first|(with_reducible assumption)|assumption)
           have hx12:=bt_at a0 x18_2
           replace p12:=eq_true p12;replace q12:=eq_true q12
           go_wp2_with (first|((with_reducible refine gate_callee (f:=54) rfl ?_);refine goesL_ (some 24) rfl rfl Tryd.func54 (by kernel_rfl) rfl #[.int .u8 (bt a0 x18_2)] rfl (by(try simp only[List.map_toArray,List.map_cons,List.map_nil]);first|done|rfl|(simp only[List.length_drop,List.length_take];rfl)) ?_;(with_reducible refine(bin_letter.calls (bt a0 x18_2) false _ A13.out).mono ?_);rintro e w' ⟨rfl,⟨nd,rfl⟩⟩;refine⟨_,rfl,?_⟩;have p15:0≤(x18_2:Int):=of_decide_eq_true (by first|(with_reducible assumption)|assumption);have q15:x18_2<(a0.size:Int):=of_decide_eq_true (by first|(with_reducible assumption)|assumption);have hx15:=bt_at a0 x18_2;replace p15:=eq_true p15;replace q15:=eq_true q15)|(go_at_call 53;(with_reducible refine(bin_digit.calls (bt a0 x18_2) true _ A16.out).mono ?_);rintro e w' ⟨rfl,⟨nd,rfl⟩⟩))
           go_roundg k2
           case measure=>have:=HJ1.out;have:=HK2.out;omega
           case rel=>exact⟨(wrap64 (x18_2+1)),(by first|rfl|(simp;done)|(simp[*];done)),H',⟨by have:=HJ1.out;have:=HK2.out;omega⟩,by repeat (first|exact Drawn0.refl _|apply Drawn0.step)⟩
          ·replace c17:=Bool.eq_false_iff.mpr c17
           subst c17
           have H1:(some false)=some r:=by rw[if_neg (show¬(false=true) by decide)]at H;exact H
           clear H
           have H:=H1
           clear H1;obtain rfl:=Option.some.inj H;have p12:0≤(x18_2:Int):=of_decide_eq_true (by first|(with_reducible assumption)|assumption);have q12:x18_2<(a0.size:Int):=of_decide_eq_true (by first|(with_reducible assumption)|assumption)
           have hx12:=bt_at a0 x18_2
           replace p12:=eq_true p12;replace q12:=eq_true q12
           go_wp2_with (first|((with_reducible refine gate_callee (f:=54) rfl ?_);refine goesL_ (some 24) rfl rfl Tryd.func54 (by kernel_rfl) rfl #[.int .u8 (bt a0 x18_2)] rfl (by(try simp only[List.map_toArray,List.map_cons,List.map_nil]);first|done|rfl|(simp only[List.length_drop,List.length_take];rfl)) ?_;(with_reducible refine(bin_letter.calls (bt a0 x18_2) false _ A13.out).mono ?_);rintro e w' ⟨rfl,⟨nd,rfl⟩⟩;refine⟨_,rfl,?_⟩;have p15:0≤(x18_2:Int):=of_decide_eq_true (by first|(with_reducible assumption)|assumption);have q15:x18_2<(a0.size:Int):=of_decide_eq_true (by first|(with_reducible assumption)|assumption);have hx15:=bt_at a0 x18_2;replace p15:=eq_true p15;replace q15:=eq_true q15)|(go_at_call 53;(with_reducible refine(bin_digit.calls (bt a0 x18_2) false _ A16.out).mono ?_);rintro e w' ⟨rfl,⟨nd,rfl⟩⟩))
           all_goals go_ret
           all_goals exact⟨by first|rfl|(simp;done)|(simp[*];done),by repeat (first|exact Drawn0.refl _|apply Drawn0.step)⟩
        ·rw[if_neg c11]at H
         exact absurd H (by simp)
       ·rw[if_neg c10]at H
        exact absurd H (by simp)
      ·rw[if_neg c9]at H
       have c9b0:decide (x18_2<(a0.size:Int))=false:=decide_eq_false c9;clear c9;obtain rfl:=Option.some.inj H;go_wp2
       all_goals go_ret
       all_goals exact⟨by first|rfl|(simp;done)|(simp[*];done),by repeat (first|exact Drawn0.refl _|apply Drawn0.step)⟩
mutual
def hornbookref01_Name.j0:Nat→ByteArray→Bool→Option (Bool)
 |0,_,_=>none
 |k+1,x0,x14=>if x14=true then(some false)else(hornbookref01_Name.l0 k x0 0)
def hornbookref01_Name.l0:Nat→ByteArray→Int→Option (Bool)
 |0,_,_=>none
 |k+1,x0,x3=>if x3<(x0.size:Int)then(if 0≤x3 then(if(bt x0 x3)≥97 then(if(bt x0 x3)≤122 then(if(bt x0 x3)≥48 then(hornbookref01_Name.l0 k x0 (wrap64 (x3+1)))else(hornbookref01_Name.l0 k x0 (wrap64 (x3+1))))else(if(bt x0 x3)≥65 then(if(bt x0 x3)≤90 then(if(bt x0 x3)≥48 then(hornbookref01_Name.l0 k x0 (wrap64 (x3+1)))else(hornbookref01_Name.l0 k x0 (wrap64 (x3+1))))else(if(bt x0 x3)≥48 then(if((bt x0 x3)=95)then(hornbookref01_Name.l0 k x0 (wrap64 (x3+1)))else(if((bt x0 x3)≤57)then(if x3=0 then(some false)else(hornbookref01_Name.l0 k x0 (wrap64 (x3+1))))else(some false)))else(if((bt x0 x3)=95)then(hornbookref01_Name.l0 k x0 (wrap64 (x3+1)))else(some false))))else(if(bt x0 x3)≥48 then(if((bt x0 x3)=95)then(hornbookref01_Name.l0 k x0 (wrap64 (x3+1)))else(if((bt x0 x3)≤57)then(if x3=0 then(some false)else(hornbookref01_Name.l0 k x0 (wrap64 (x3+1))))else(some false)))else(if((bt x0 x3)=95)then(hornbookref01_Name.l0 k x0 (wrap64 (x3+1)))else(some false)))))else(if(bt x0 x3)≥65 then(if(bt x0 x3)≤90 then(if(bt x0 x3)≥48 then(hornbookref01_Name.l0 k x0 (wrap64 (x3+1)))else(hornbookref01_Name.l0 k x0 (wrap64 (x3+1))))else(if(bt x0 x3)≥48 then(if((bt x0 x3)=95)then(hornbookref01_Name.l0 k x0 (wrap64 (x3+1)))else(if((bt x0 x3)≤57)then(if x3=0 then(some false)else(hornbookref01_Name.l0 k x0 (wrap64 (x3+1))))else(some false)))else(if((bt x0 x3)=95)then(hornbookref01_Name.l0 k x0 (wrap64 (x3+1)))else(some false))))else(if(bt x0 x3)≥48 then(if((bt x0 x3)=95)then(hornbookref01_Name.l0 k x0 (wrap64 (x3+1)))else(if((bt x0 x3)≤57)then(if x3=0 then(some false)else(hornbookref01_Name.l0 k x0 (wrap64 (x3+1))))else(some false)))else(if((bt x0 x3)=95)then(hornbookref01_Name.l0 k x0 (wrap64 (x3+1)))else(some false)))))else(none))else(some true)
end
def hornbookref01_Name.f(k:Nat)(a0:ByteArray):Option (Bool):=if(a0.size:Int)<1 then(hornbookref01_Name.j0 k a0 true)else(hornbookref01_Name.j0 k a0 (decide ((a0.size:Int)>24)))
set_option maxHeartbeats 8000000 in
set_option maxRecDepth 100000 in
theorem hornbookref01_Name.calls(k:Nat)(a0:ByteArray)(r:Bool)(w:World)(h:hornbookref01_Name.f k a0=some r):
  Calls Tryd.prog 29 #[.string a0] w fun e w'=>e= .returned (.bool r)∧Drawn0 w w':=by
 have H:(if(a0.size:Int)<1 then(hornbookref01_Name.j0 k a0 true)else(hornbookref01_Name.j0 k a0 (decide ((a0.size:Int)>24))))=some r:=h;clear h
 have HC2:=Aside0.mk H
 clear H
 go_enter Tryd.func29,Tryd.ntmps29
 go_upto_region 1 with(fail)
 go_cut [14] (fun v14 wc=> ∃(kq:Nat) (x14_1:Bool),v14= .bool x14_1∧Aside0 (hornbookref01_Name.j0 kq a0 x14_1=some r)∧Aside0 (kq≤k)∧Drawn0 w wc)
 case first=>
  have H:=HC2.out
  clear HC2
  by_cases c3:(a0.size:Int)<1
  ·rw[if_pos c3]at H
   have c3b0:decide ((a0.size:Int)<1)=true:=decide_eq_true c3;have c3b1:decide (a0.size<1)=true:=decide_eq_true (by omega);clear c3;(first|rw [c3b0]|(simp only[i64_w,i32_w];rw[c3b0])|skip);have H':=Aside0.mk H;clear H;go_wp2;go_meet
   case rel=>exact⟨_,(true),(by first|rfl|(simp;done)|(simp[*];done)),H',⟨by first|omega|exact Nat.le_refl _⟩,by repeat (first|exact Drawn0.refl _|apply Drawn0.step)⟩
  ·rw[if_neg c3]at H
   have c3b0:decide ((a0.size:Int)<1)=false:=decide_eq_false c3;have c3b1:decide (a0.size<1)=false:=decide_eq_false (by omega);clear c3;(first|rw [c3b0]|(simp only[i64_w,i32_w];rw[c3b0])|skip);have H':=Aside0.mk H;clear H;go_wp2;go_meet
   case rel=>exact⟨_,(decide ((a0.size:Int)>24)),(by first|rfl|(simp;done)|(simp[*];done)),H',⟨by first|omega|exact Nat.le_refl _⟩,by repeat (first|exact Drawn0.refl _|apply Drawn0.step)⟩
 case rest=>
  clear HC2;(try clear c2);(try clear p2);(try clear c3);(try clear c3b0);(try clear c3b1);obtain⟨kq,x14_1,rfl,HA,HJ1,⟨mc1,rfl⟩⟩:=hcut
  cases kq with
  |zero=>exact absurd HA.out (by simp[hornbookref01_Name.j0])
  |succ kj1=>
   have H:=HA.out
   clear HA;simp only[hornbookref01_Name.j0]at H
   by_cases c4:x14_1=true
   ·subst c4
    have H1:(some false)=some r:=by rw[if_pos rfl]at H;exact H
    clear H
    have H:=H1
    clear H1;obtain rfl:=Option.some.inj H;go_wp2
    all_goals go_ret
    all_goals exact⟨by first|rfl|(simp;done)|(simp[*];done),by repeat (first|exact Drawn0.refl _|apply Drawn0.step)⟩
   ·replace c4:=Bool.eq_false_iff.mpr c4
    subst c4
    have H1:(hornbookref01_Name.l0 kj1 a0 0)=some r:=by rw[if_neg (show¬(false=true) by decide)]at H;exact H
    clear H
    have H:=H1
    clear H1;have H':=Aside0.mk H;clear H;go_wp2
    go_loopg [3] kj1 (fun kq v3 w'=> ∃(x3_2:Int),v3= .int .i64 x3_2∧Aside0 (hornbookref01_Name.l0 kq a0 x3_2=some r)∧Aside0 (kq≤kj1)∧Drawn0 w w')
    case atStart=>exact⟨(0),(by first|rfl|(simp;done)|(simp[*];done)),H',⟨Nat.le_refl _⟩,by repeat (first|exact Drawn0.refl _|apply Drawn0.step)⟩
    case round=>
     clear H';(try clear c1);(try clear c2);(try clear p2);(try clear c3);(try clear c3b0);(try clear c3b1);(try clear c4);(try clear p2);obtain⟨x3_2,rfl,HA,HK2,⟨m2,rfl⟩⟩:=hrel
     cases gk with
     |zero=>exact absurd HA.out (by simp[hornbookref01_Name.l0])
     |succ k2=>
      have H:=HA.out
      clear HA;simp only[hornbookref01_Name.l0]at H
      by_cases c5:x3_2<(a0.size:Int)
      ·rw[if_pos c5]at H
       have c5b0:decide (x3_2<(a0.size:Int))=true:=decide_eq_true c5;clear c5
       by_cases c6:0≤x3_2
       ·rw[if_pos c6]at H
        have c6b0:decide (0≤x3_2)=true:=decide_eq_true c6;clear c6
        by_cases c8:(bt a0 x3_2)≥97
        ·rw[if_pos c8]at H
         have c8b0:decide (97≤(bt a0 x3_2))=true:=decide_eq_true c8;clear c8
         by_cases c9:(bt a0 x3_2)≤122
         ·rw[if_pos c9]at H
          have c9b0:decide ((bt a0 x3_2)≤122)=true:=decide_eq_true c9;clear c9
          by_cases c10:(bt a0 x3_2)≥48
          ·rw[if_pos c10]at H
           have c10b0:decide (48≤(bt a0 x3_2))=true:=decide_eq_true c10;clear c10;have H':=Aside0.mk H;clear H;have p7:0≤(x3_2:Int):=of_decide_eq_true (by first|(with_reducible assumption)|assumption);have q7:x3_2<(a0.size:Int):=of_decide_eq_true (by first|(with_reducible assumption)|assumption)
           have hx7:=bt_at a0 x3_2
           replace p7:=eq_true p7;replace q7:=eq_true q7;go_wp2
           go_roundg k2
           case measure=>have:=HJ1.out;have:=HK2.out;omega
           case rel=>exact⟨(wrap64 (x3_2+1)),(by first|rfl|(simp;done)|(simp[*];done)),H',⟨by have:=HJ1.out;have:=HK2.out;omega⟩,by repeat (first|exact Drawn0.refl _|apply Drawn0.step)⟩
          ·rw[if_neg c10]at H
           have c10b0:decide (48≤(bt a0 x3_2))=false:=decide_eq_false c10;clear c10;have H':=Aside0.mk H;clear H;have p7:0≤(x3_2:Int):=of_decide_eq_true (by first|(with_reducible assumption)|assumption);have q7:x3_2<(a0.size:Int):=of_decide_eq_true (by first|(with_reducible assumption)|assumption)
           have hx7:=bt_at a0 x3_2
           replace p7:=eq_true p7;replace q7:=eq_true q7;go_wp2
           go_roundg k2
           case measure=>have:=HJ1.out;have:=HK2.out;omega
           case rel=>exact⟨(wrap64 (x3_2+1)),(by first|rfl|(simp;done)|(simp[*];done)),H',⟨by have:=HJ1.out;have:=HK2.out;omega⟩,by repeat (first|exact Drawn0.refl _|apply Drawn0.step)⟩
         ·rw[if_neg c9]at H
          have c9b0:decide ((bt a0 x3_2)≤122)=false:=decide_eq_false c9;clear c9
          by_cases c11:(bt a0 x3_2)≥65
          ·rw[if_pos c11]at H
           have c11b0:decide (65≤(bt a0 x3_2))=true:=decide_eq_true c11;clear c11
           by_cases c12:(bt a0 x3_2)≤90
           ·rw[if_pos c12]at H
            have c12b0:decide ((bt a0 x3_2)≤90)=true:=decide_eq_true c12;clear c12
            by_cases c13:(bt a0 x3_2)≥48
            ·rw[if_pos c13]at H
             have c13b0:decide (48≤(bt a0 x3_2))=true:=decide_eq_true c13;clear c13;have H':=Aside0.mk H;clear H;have p7:0≤(x3_2:Int):=of_decide_eq_true (by first|(with_reducible assumption)|assumption);have q7:x3_2<(a0.size:Int):=of_decide_eq_true (by first|(with_reducible assumption)|assumption)
             have hx7:=bt_at a0 x3_2
             replace p7:=eq_true p7;replace q7:=eq_true q7;go_wp2
             go_roundg k2
             case measure=>have:=HJ1.out;have:=HK2.out;omega
             case rel=>exact⟨(wrap64 (x3_2+1)),(by first|rfl|(simp;done)|(simp[*];done)),H',⟨by have:=HJ1.out;have:=HK2.out;omega⟩,by repeat (first|exact Drawn0.refl _|apply Drawn0.step)⟩
            ·rw[if_neg c13]at H
             have c13b0:decide (48≤(bt a0 x3_2))=false:=decide_eq_false c13;clear c13;have H':=Aside0.mk H;clear H;have p7:0≤(x3_2:Int):=of_decide_eq_true (by first|(with_reducible assumption)|assumption);have q7:x3_2<(a0.size:Int):=of_decide_eq_true (by first|(with_reducible assumption)|assumption)
             have hx7:=bt_at a0 x3_2
             replace p7:=eq_true p7;replace q7:=eq_true q7;go_wp2
             go_roundg k2
             case measure=>have:=HJ1.out;have:=HK2.out;omega
             case rel=>exact⟨(wrap64 (x3_2+1)),(by first|rfl|(simp;done)|(simp[*];done)),H',⟨by have:=HJ1.out;have:=HK2.out;omega⟩,by repeat (first|exact Drawn0.refl _|apply Drawn0.step)⟩
           ·rw[if_neg c12]at H
            have c12b0:decide ((bt a0 x3_2)≤90)=false:=decide_eq_false c12;clear c12
            by_cases c14:(bt a0 x3_2)≥48
            ·rw[if_pos c14]at H
             have c14b0:decide (48≤(bt a0 x3_2))=true:=decide_eq_true c14;clear c14
             by_cases c15:((bt a0 x3_2)=95)
             ·rw[if_pos c15]at H
              have c15b0:((bt a0 x3_2)==95)=true:=beq_iff_eq.mpr c15;have c15b1:((bt a0 x3_2) !=95)=false:=bne_eq_false_iff_eq.mpr c15;clear c15;have H':=Aside0.mk H;clear H;have p7:0≤(x3_2:Int):=of_decide_eq_true (by first|(with_reducible assumption)|assumption);have q7:x3_2<(a0.size:Int):=of_decide_eq_true (by first|(with_reducible assumption)|assumption)
              have hx7:=bt_at a0 x3_2
              replace p7:=eq_true p7;replace q7:=eq_true q7;go_wp2
              go_roundg k2
              case measure=>have:=HJ1.out;have:=HK2.out;omega
              case rel=>exact⟨(wrap64 (x3_2+1)),(by first|rfl|(simp;done)|(simp[*];done)),H',⟨by have:=HJ1.out;have:=HK2.out;omega⟩,by repeat (first|exact Drawn0.refl _|apply Drawn0.step)⟩
             ·rw[if_neg c15]at H
              have c15b0:((bt a0 x3_2)==95)=false:=beq_eq_false_iff_ne.mpr c15;have c15b1:((bt a0 x3_2) !=95)=true:=bne_iff_ne.mpr c15
              by_cases c16:((bt a0 x3_2)≤57)
              ·rw[if_pos c16]at H
               have c16b0:decide ((bt a0 x3_2)≤57)=true:=decide_eq_true c16;clear c16
               by_cases c17:x3_2=0
               ·rw[if_pos c17]at H
                have c17b0:(x3_2==0)=true:=beq_iff_eq.mpr c17;have c17b1:(x3_2 !=0)=false:=bne_eq_false_iff_eq.mpr c17;clear c17;obtain rfl:=Option.some.inj H;have p7:0≤(x3_2:Int):=of_decide_eq_true (by first|(with_reducible assumption)|assumption);have q7:x3_2<(a0.size:Int):=of_decide_eq_true (by first|(with_reducible assumption)|assumption)
                have hx7:=bt_at a0 x3_2
                replace p7:=eq_true p7;replace q7:=eq_true q7;go_wp2
                all_goals go_ret
                all_goals exact⟨by first|rfl|(simp;done)|(simp[*];done),by repeat (first|exact Drawn0.refl _|apply Drawn0.step)⟩
               ·rw[if_neg c17]at H
                have c17b0:(x3_2==0)=false:=beq_eq_false_iff_ne.mpr c17;have c17b1:(x3_2 !=0)=true:=bne_iff_ne.mpr c17;have H':=Aside0.mk H;clear H;have p7:0≤(x3_2:Int):=of_decide_eq_true (by first|(with_reducible assumption)|assumption);have q7:x3_2<(a0.size:Int):=of_decide_eq_true (by first|(with_reducible assumption)|assumption)
                have hx7:=bt_at a0 x3_2
                replace p7:=eq_true p7;replace q7:=eq_true q7;go_wp2
                go_roundg k2
                case measure=>have:=HJ1.out;have:=HK2.out;omega
                case rel=>exact⟨(wrap64 (x3_2+1)),(by first|rfl|(simp;done)|(simp[*];done)),H',⟨by have:=HJ1.out;have:=HK2.out;omega⟩,by repeat (first|exact Drawn0.refl _|apply Drawn0.step)⟩
              ·rw[if_neg c16]at H
               have c16b0:decide ((bt a0 x3_2)≤57)=false:=decide_eq_false c16;clear c16;obtain rfl:=Option.some.inj H;have p7:0≤(x3_2:Int):=of_decide_eq_true (by first|(with_reducible assumption)|assumption);have q7:x3_2<(a0.size:Int):=of_decide_eq_true (by first|(with_reducible assumption)|assumption)
               have hx7:=bt_at a0 x3_2
               replace p7:=eq_true p7;replace q7:=eq_true q7;go_wp2
               all_goals go_ret
               all_goals exact⟨by first|rfl|(simp;done)|(simp[*];done),by repeat (first|exact Drawn0.refl _|apply Drawn0.step)⟩
            ·rw[if_neg c14]at H
             have c14b0:decide (48≤(bt a0 x3_2))=false:=decide_eq_false c14;clear c14
             by_cases c18:((bt a0 x3_2)=95)
             ·rw[if_pos c18]at H
              have c18b0:((bt a0 x3_2)==95)=true:=beq_iff_eq.mpr c18;have c18b1:((bt a0 x3_2) !=95)=false:=bne_eq_false_iff_eq.mpr c18;clear c18;have H':=Aside0.mk H;clear H;have p7:0≤(x3_2:Int):=of_decide_eq_true (by first|(with_reducible assumption)|assumption);have q7:x3_2<(a0.size:Int):=of_decide_eq_true (by first|(with_reducible assumption)|assumption)
              have hx7:=bt_at a0 x3_2
              replace p7:=eq_true p7;replace q7:=eq_true q7;go_wp2
              go_roundg k2
              case measure=>have:=HJ1.out;have:=HK2.out;omega
              case rel=>exact⟨(wrap64 (x3_2+1)),(by first|rfl|(simp;done)|(simp[*];done)),H',⟨by have:=HJ1.out;have:=HK2.out;omega⟩,by repeat (first|exact Drawn0.refl _|apply Drawn0.step)⟩
             ·rw[if_neg c18]at H
              have c18b0:((bt a0 x3_2)==95)=false:=beq_eq_false_iff_ne.mpr c18;have c18b1:((bt a0 x3_2) !=95)=true:=bne_iff_ne.mpr c18;obtain rfl:=Option.some.inj H;have p7:0≤(x3_2:Int):=of_decide_eq_true (by first|(with_reducible assumption)|assumption);have q7:x3_2<(a0.size:Int):=of_decide_eq_true (by first|(with_reducible assumption)|assumption)
              have hx7:=bt_at a0 x3_2
              replace p7:=eq_true p7;replace q7:=eq_true q7;go_wp2
              all_goals go_ret
              all_goals exact⟨by first|rfl|(simp;done)|(simp[*];done),by repeat (first|exact Drawn0.refl _|apply Drawn0.step)⟩
          ·rw[if_neg c11]at H
           have c11b0:decide (65≤(bt a0 x3_2))=false:=decide_eq_false c11;clear c11
           by_cases c19:(bt a0 x3_2)≥48
           ·rw[if_pos c19]at H
            have c19b0:decide (48≤(bt a0 x3_2))=true:=decide_eq_true c19;clear c19
            by_cases c20:((bt a0 x3_2)=95)
            ·rw[if_pos c20]at H
             have c20b0:((bt a0 x3_2)==95)=true:=beq_iff_eq.mpr c20;have c20b1:((bt a0 x3_2) !=95)=false:=bne_eq_false_iff_eq.mpr c20;clear c20;have H':=Aside0.mk H;clear H;have p7:0≤(x3_2:Int):=of_decide_eq_true (by first|(with_reducible assumption)|assumption);have q7:x3_2<(a0.size:Int):=of_decide_eq_true (by first|(with_reducible assumption)|assumption)
             have hx7:=bt_at a0 x3_2
             replace p7:=eq_true p7;replace q7:=eq_true q7;go_wp2
             go_roundg k2
             case measure=>have:=HJ1.out;have:=HK2.out;omega
             case rel=>exact⟨(wrap64 (x3_2+1)),(by first|rfl|(simp;done)|(simp[*];done)),H',⟨by have:=HJ1.out;have:=HK2.out;omega⟩,by repeat (first|exact Drawn0.refl _|apply Drawn0.step)⟩
            ·rw[if_neg c20]at H
             have c20b0:((bt a0 x3_2)==95)=false:=beq_eq_false_iff_ne.mpr c20;have c20b1:((bt a0 x3_2) !=95)=true:=bne_iff_ne.mpr c20
             by_cases c21:((bt a0 x3_2)≤57)
             ·rw[if_pos c21]at H
              have c21b0:decide ((bt a0 x3_2)≤57)=true:=decide_eq_true c21;clear c21
              by_cases c22:x3_2=0
              ·rw[if_pos c22]at H
               have c22b0:(x3_2==0)=true:=beq_iff_eq.mpr c22;have c22b1:(x3_2 !=0)=false:=bne_eq_false_iff_eq.mpr c22;clear c22;obtain rfl:=Option.some.inj H;have p7:0≤(x3_2:Int):=of_decide_eq_true (by first|(with_reducible assumption)|assumption);have q7:x3_2<(a0.size:Int):=of_decide_eq_true (by first|(with_reducible assumption)|assumption)
               have hx7:=bt_at a0 x3_2
               replace p7:=eq_true p7;replace q7:=eq_true q7;go_wp2
               all_goals go_ret
               all_goals exact⟨by first|rfl|(simp;done)|(simp[*];done),by repeat (first|exact Drawn0.refl _|apply Drawn0.step)⟩
              ·rw[if_neg c22]at H
               have c22b0:(x3_2==0)=false:=beq_eq_false_iff_ne.mpr c22;have c22b1:(x3_2 !=0)=true:=bne_iff_ne.mpr c22;have H':=Aside0.mk H;clear H;have p7:0≤(x3_2:Int):=of_decide_eq_true (by first|(with_reducible assumption)|assumption);have q7:x3_2<(a0.size:Int):=of_decide_eq_true (by first|(with_reducible assumption)|assumption)
               have hx7:=bt_at a0 x3_2
               replace p7:=eq_true p7;replace q7:=eq_true q7;go_wp2
               go_roundg k2
               case measure=>have:=HJ1.out;have:=HK2.out;omega
               case rel=>exact⟨(wrap64 (x3_2+1)),(by first|rfl|(simp;done)|(simp[*];done)),H',⟨by have:=HJ1.out;have:=HK2.out;omega⟩,by repeat (first|exact Drawn0.refl _|apply Drawn0.step)⟩
             ·rw[if_neg c21]at H
              have c21b0:decide ((bt a0 x3_2)≤57)=false:=decide_eq_false c21;clear c21;obtain rfl:=Option.some.inj H;have p7:0≤(x3_2:Int):=of_decide_eq_true (by first|(with_reducible assumption)|assumption);have q7:x3_2<(a0.size:Int):=of_decide_eq_true (by first|(with_reducible assumption)|assumption)
              have hx7:=bt_at a0 x3_2
              replace p7:=eq_true p7;replace q7:=eq_true q7;go_wp2
              all_goals go_ret
              all_goals exact⟨by first|rfl|(simp;done)|(simp[*];done),by repeat (first|exact Drawn0.refl _|apply Drawn0.step)⟩
           ·rw[if_neg c19]at H
            have c19b0:decide (48≤(bt a0 x3_2))=false:=decide_eq_false c19;clear c19
            by_cases c23:((bt a0 x3_2)=95)
            ·rw[if_pos c23]at H
             have c23b0:((bt a0 x3_2)==95)=true:=beq_iff_eq.mpr c23;have c23b1:((bt a0 x3_2) !=95)=false:=bne_eq_false_iff_eq.mpr c23;clear c23;have H':=Aside0.mk H;clear H;have p7:0≤(x3_2:Int):=of_decide_eq_true (by first|(with_reducible assumption)|assumption);have q7:x3_2<(a0.size:Int):=of_decide_eq_true (by first|(with_reducible assumption)|assumption)
             have hx7:=bt_at a0 x3_2
             replace p7:=eq_true p7;replace q7:=eq_true q7;go_wp2
             go_roundg k2
             case measure=>have:=HJ1.out;have:=HK2.out;omega
             case rel=>exact⟨(wrap64 (x3_2+1)),(by first|rfl|(simp;done)|(simp[*];done)),H',⟨by have:=HJ1.out;have:=HK2.out;omega⟩,by repeat (first|exact Drawn0.refl _|apply Drawn0.step)⟩
            ·rw[if_neg c23]at H
             have c23b0:((bt a0 x3_2)==95)=false:=beq_eq_false_iff_ne.mpr c23;have c23b1:((bt a0 x3_2) !=95)=true:=bne_iff_ne.mpr c23;obtain rfl:=Option.some.inj H;have p7:0≤(x3_2:Int):=of_decide_eq_true (by first|(with_reducible assumption)|assumption);have q7:x3_2<(a0.size:Int):=of_decide_eq_true (by first|(with_reducible assumption)|assumption)
             have hx7:=bt_at a0 x3_2
             replace p7:=eq_true p7;replace q7:=eq_true q7;go_wp2
             all_goals go_ret
             all_goals exact⟨by first|rfl|(simp;done)|(simp[*];done),by repeat (first|exact Drawn0.refl _|apply Drawn0.step)⟩
        ·rw[if_neg c8]at H
         have c8b0:decide (97≤(bt a0 x3_2))=false:=decide_eq_false c8;clear c8
         by_cases c24:(bt a0 x3_2)≥65
         ·rw[if_pos c24]at H
          have c24b0:decide (65≤(bt a0 x3_2))=true:=decide_eq_true c24;clear c24
          by_cases c25:(bt a0 x3_2)≤90
          ·rw[if_pos c25]at H
           have c25b0:decide ((bt a0 x3_2)≤90)=true:=decide_eq_true c25;clear c25
           by_cases c26:(bt a0 x3_2)≥48
           ·rw[if_pos c26]at H
            have c26b0:decide (48≤(bt a0 x3_2))=true:=decide_eq_true c26;clear c26;have H':=Aside0.mk H;clear H;have p7:0≤(x3_2:Int):=of_decide_eq_true (by first|(with_reducible assumption)|assumption);have q7:x3_2<(a0.size:Int):=of_decide_eq_true (by first|(with_reducible assumption)|assumption)
            have hx7:=bt_at a0 x3_2
            replace p7:=eq_true p7;replace q7:=eq_true q7;go_wp2
            go_roundg k2
            case measure=>have:=HJ1.out;have:=HK2.out;omega
            case rel=>exact⟨(wrap64 (x3_2+1)),(by first|rfl|(simp;done)|(simp[*];done)),H',⟨by have:=HJ1.out;have:=HK2.out;omega⟩,by repeat (first|exact Drawn0.refl _|apply Drawn0.step)⟩
           ·rw[if_neg c26]at H
            have c26b0:decide (48≤(bt a0 x3_2))=false:=decide_eq_false c26;clear c26;have H':=Aside0.mk H;clear H;have p7:0≤(x3_2:Int):=of_decide_eq_true (by first|(with_reducible assumption)|assumption);have q7:x3_2<(a0.size:Int):=of_decide_eq_true (by first|(with_reducible assumption)|assumption)
            have hx7:=bt_at a0 x3_2
            replace p7:=eq_true p7;replace q7:=eq_true q7;go_wp2
            go_roundg k2
            case measure=>have:=HJ1.out;have:=HK2.out;omega
            case rel=>exact⟨(wrap64 (x3_2+1)),(by first|rfl|(simp;done)|(simp[*];done)),H',⟨by have:=HJ1.out;have:=HK2.out;omega⟩,by repeat (first|exact Drawn0.refl _|apply Drawn0.step)⟩
          ·rw[if_neg c25]at H
           have c25b0:decide ((bt a0 x3_2)≤90)=false:=decide_eq_false c25;clear c25
           by_cases c27:(bt a0 x3_2)≥48
           ·rw[if_pos c27]at H
            have c27b0:decide (48≤(bt a0 x3_2))=true:=decide_eq_true c27;clear c27
            by_cases c28:((bt a0 x3_2)=95)
            ·rw[if_pos c28]at H
             have c28b0:((bt a0 x3_2)==95)=true:=beq_iff_eq.mpr c28;have c28b1:((bt a0 x3_2) !=95)=false:=bne_eq_false_iff_eq.mpr c28;clear c28;have H':=Aside0.mk H;clear H;have p7:0≤(x3_2:Int):=of_decide_eq_true (by first|(with_reducible assumption)|assumption);have q7:x3_2<(a0.size:Int):=of_decide_eq_true (by first|(with_reducible assumption)|assumption)
             have hx7:=bt_at a0 x3_2
             replace p7:=eq_true p7;replace q7:=eq_true q7;go_wp2
             go_roundg k2
             case measure=>have:=HJ1.out;have:=HK2.out;omega
             case rel=>exact⟨(wrap64 (x3_2+1)),(by first|rfl|(simp;done)|(simp[*];done)),H',⟨by have:=HJ1.out;have:=HK2.out;omega⟩,by repeat (first|exact Drawn0.refl _|apply Drawn0.step)⟩
            ·rw[if_neg c28]at H
             have c28b0:((bt a0 x3_2)==95)=false:=beq_eq_false_iff_ne.mpr c28;have c28b1:((bt a0 x3_2) !=95)=true:=bne_iff_ne.mpr c28
             by_cases c29:((bt a0 x3_2)≤57)
             ·rw[if_pos c29]at H
              have c29b0:decide ((bt a0 x3_2)≤57)=true:=decide_eq_true c29;clear c29
              by_cases c30:x3_2=0
              ·rw[if_pos c30]at H
               have c30b0:(x3_2==0)=true:=beq_iff_eq.mpr c30;have c30b1:(x3_2 !=0)=false:=bne_eq_false_iff_eq.mpr c30;clear c30;obtain rfl:=Option.some.inj H;have p7:0≤(x3_2:Int):=of_decide_eq_true (by first|(with_reducible assumption)|assumption);have q7:x3_2<(a0.size:Int):=of_decide_eq_true (by first|(with_reducible assumption)|assumption)
               have hx7:=bt_at a0 x3_2
               replace p7:=eq_true p7;replace q7:=eq_true q7;go_wp2
               all_goals go_ret
               all_goals exact⟨by first|rfl|(simp;done)|(simp[*];done),by repeat (first|exact Drawn0.refl _|apply Drawn0.step)⟩
              ·rw[if_neg c30]at H
               have c30b0:(x3_2==0)=false:=beq_eq_false_iff_ne.mpr c30;have c30b1:(x3_2 !=0)=true:=bne_iff_ne.mpr c30;have H':=Aside0.mk H;clear H;have p7:0≤(x3_2:Int):=of_decide_eq_true (by first|(with_reducible assumption)|assumption);have q7:x3_2<(a0.size:Int):=of_decide_eq_true (by first|(with_reducible assumption)|assumption)
               have hx7:=bt_at a0 x3_2
               replace p7:=eq_true p7;replace q7:=eq_true q7;go_wp2
               go_roundg k2
               case measure=>have:=HJ1.out;have:=HK2.out;omega
               case rel=>exact⟨(wrap64 (x3_2+1)),(by first|rfl|(simp;done)|(simp[*];done)),H',⟨by have:=HJ1.out;have:=HK2.out;omega⟩,by repeat (first|exact Drawn0.refl _|apply Drawn0.step)⟩
             ·rw[if_neg c29]at H
              have c29b0:decide ((bt a0 x3_2)≤57)=false:=decide_eq_false c29;clear c29;obtain rfl:=Option.some.inj H;have p7:0≤(x3_2:Int):=of_decide_eq_true (by first|(with_reducible assumption)|assumption);have q7:x3_2<(a0.size:Int):=of_decide_eq_true (by first|(with_reducible assumption)|assumption)
              have hx7:=bt_at a0 x3_2
              replace p7:=eq_true p7;replace q7:=eq_true q7;go_wp2
              all_goals go_ret
              all_goals exact⟨by first|rfl|(simp;done)|(simp[*];done),by repeat (first|exact Drawn0.refl _|apply Drawn0.step)⟩
           ·rw[if_neg c27]at H
            have c27b0:decide (48≤(bt a0 x3_2))=false:=decide_eq_false c27;clear c27
            by_cases c31:((bt a0 x3_2)=95)
            ·rw[if_pos c31]at H
             have c31b0:((bt a0 x3_2)==95)=true:=beq_iff_eq.mpr c31;have c31b1:((bt a0 x3_2) !=95)=false:=bne_eq_false_iff_eq.mpr c31;clear c31;have H':=Aside0.mk H;clear H;have p7:0≤(x3_2:Int):=of_decide_eq_true (by first|(with_reducible assumption)|assumption);have q7:x3_2<(a0.size:Int):=of_decide_eq_true (by first|(with_reducible assumption)|assumption)
             have hx7:=bt_at a0 x3_2
             replace p7:=eq_true p7;replace q7:=eq_true q7;go_wp2
             go_roundg k2
             case measure=>have:=HJ1.out;have:=HK2.out;omega
             case rel=>exact⟨(wrap64 (x3_2+1)),(by first|rfl|(simp;done)|(simp[*];done)),H',⟨by have:=HJ1.out;have:=HK2.out;omega⟩,by repeat (first|exact Drawn0.refl _|apply Drawn0.step)⟩
            ·rw[if_neg c31]at H
             have c31b0:((bt a0 x3_2)==95)=false:=beq_eq_false_iff_ne.mpr c31;have c31b1:((bt a0 x3_2) !=95)=true:=bne_iff_ne.mpr c31;obtain rfl:=Option.some.inj H;have p7:0≤(x3_2:Int):=of_decide_eq_true (by first|(with_reducible assumption)|assumption);have q7:x3_2<(a0.size:Int):=of_decide_eq_true (by first|(with_reducible assumption)|assumption)
             have hx7:=bt_at a0 x3_2
             replace p7:=eq_true p7;replace q7:=eq_true q7;go_wp2
             all_goals go_ret
             all_goals exact⟨by first|rfl|(simp;done)|(simp[*];done),by repeat (first|exact Drawn0.refl _|apply Drawn0.step)⟩
         ·rw[if_neg c24]at H
          have c24b0:decide (65≤(bt a0 x3_2))=false:=decide_eq_false c24;clear c24
          by_cases c32:(bt a0 x3_2)≥48
          ·rw[if_pos c32]at H
           have c32b0:decide (48≤(bt a0 x3_2))=true:=decide_eq_true c32;clear c32
           by_cases c33:((bt a0 x3_2)=95)
           ·rw[if_pos c33]at H
            have c33b0:((bt a0 x3_2)==95)=true:=beq_iff_eq.mpr c33;have c33b1:((bt a0 x3_2) !=95)=false:=bne_eq_false_iff_eq.mpr c33;clear c33;have H':=Aside0.mk H;clear H;have p7:0≤(x3_2:Int):=of_decide_eq_true (by first|(with_reducible assumption)|assumption);have q7:x3_2<(a0.size:Int):=of_decide_eq_true (by first|(with_reducible assumption)|assumption)
            have hx7:=bt_at a0 x3_2
            replace p7:=eq_true p7;replace q7:=eq_true q7;go_wp2
            go_roundg k2
            case measure=>have:=HJ1.out;have:=HK2.out;omega
            case rel=>exact⟨(wrap64 (x3_2+1)),(by first|rfl|(simp;done)|(simp[*];done)),H',⟨by have:=HJ1.out;have:=HK2.out;omega⟩,by repeat (first|exact Drawn0.refl _|apply Drawn0.step)⟩
           ·rw[if_neg c33]at H
            have c33b0:((bt a0 x3_2)==95)=false:=beq_eq_false_iff_ne.mpr c33;have c33b1:((bt a0 x3_2) !=95)=true:=bne_iff_ne.mpr c33
            by_cases c34:((bt a0 x3_2)≤57)
            ·rw[if_pos c34]at H
             have c34b0:decide ((bt a0 x3_2)≤57)=true:=decide_eq_true c34;clear c34
             by_cases c35:x3_2=0
             ·rw[if_pos c35]at H
              have c35b0:(x3_2==0)=true:=beq_iff_eq.mpr c35;have c35b1:(x3_2 !=0)=false:=bne_eq_false_iff_eq.mpr c35;clear c35;obtain rfl:=Option.some.inj H;have p7:0≤(x3_2:Int):=of_decide_eq_true (by first|(with_reducible assumption)|assumption);have q7:x3_2<(a0.size:Int):=of_decide_eq_true (by first|(with_reducible assumption)|assumption)
              have hx7:=bt_at a0 x3_2
              replace p7:=eq_true p7;replace q7:=eq_true q7;go_wp2
              all_goals go_ret
              all_goals exact⟨by first|rfl|(simp;done)|(simp[*];done),by repeat (first|exact Drawn0.refl _|apply Drawn0.step)⟩
             ·rw[if_neg c35]at H
              have c35b0:(x3_2==0)=false:=beq_eq_false_iff_ne.mpr c35;have c35b1:(x3_2 !=0)=true:=bne_iff_ne.mpr c35;have H':=Aside0.mk H;clear H;have p7:0≤(x3_2:Int):=of_decide_eq_true (by first|(with_reducible assumption)|assumption);have q7:x3_2<(a0.size:Int):=of_decide_eq_true (by first|(with_reducible assumption)|assumption)
              have hx7:=bt_at a0 x3_2
              replace p7:=eq_true p7;replace q7:=eq_true q7;go_wp2
              go_roundg k2
              case measure=>have:=HJ1.out;have:=HK2.out;omega
              case rel=>exact⟨(wrap64 (x3_2+1)),(by first|rfl|(simp;done)|(simp[*];done)),H',⟨by have:=HJ1.out;have:=HK2.out;omega⟩,by repeat (first|exact Drawn0.refl _|apply Drawn0.step)⟩
            ·rw[if_neg c34]at H
             have c34b0:decide ((bt a0 x3_2)≤57)=false:=decide_eq_false c34;clear c34;obtain rfl:=Option.some.inj H;have p7:0≤(x3_2:Int):=of_decide_eq_true (by first|(with_reducible assumption)|assumption);have q7:x3_2<(a0.size:Int):=of_decide_eq_true (by first|(with_reducible assumption)|assumption)
             have hx7:=bt_at a0 x3_2
             replace p7:=eq_true p7;replace q7:=eq_true q7;go_wp2
             all_goals go_ret
             all_goals exact⟨by first|rfl|(simp;done)|(simp[*];done),by repeat (first|exact Drawn0.refl _|apply Drawn0.step)⟩
          ·rw[if_neg c32]at H
           have c32b0:decide (48≤(bt a0 x3_2))=false:=decide_eq_false c32;clear c32
           by_cases c36:((bt a0 x3_2)=95)
           ·rw[if_pos c36]at H
            have c36b0:((bt a0 x3_2)==95)=true:=beq_iff_eq.mpr c36;have c36b1:((bt a0 x3_2) !=95)=false:=bne_eq_false_iff_eq.mpr c36;clear c36;have H':=Aside0.mk H;clear H;have p7:0≤(x3_2:Int):=of_decide_eq_true (by first|(with_reducible assumption)|assumption);have q7:x3_2<(a0.size:Int):=of_decide_eq_true (by first|(with_reducible assumption)|assumption)
            have hx7:=bt_at a0 x3_2
            replace p7:=eq_true p7;replace q7:=eq_true q7;go_wp2
            go_roundg k2
            case measure=>have:=HJ1.out;have:=HK2.out;omega
            case rel=>exact⟨(wrap64 (x3_2+1)),(by first|rfl|(simp;done)|(simp[*];done)),H',⟨by have:=HJ1.out;have:=HK2.out;omega⟩,by repeat (first|exact Drawn0.refl _|apply Drawn0.step)⟩
           ·rw[if_neg c36]at H
            have c36b0:((bt a0 x3_2)==95)=false:=beq_eq_false_iff_ne.mpr c36;have c36b1:((bt a0 x3_2) !=95)=true:=bne_iff_ne.mpr c36;obtain rfl:=Option.some.inj H;have p7:0≤(x3_2:Int):=of_decide_eq_true (by first|(with_reducible assumption)|assumption);have q7:x3_2<(a0.size:Int):=of_decide_eq_true (by first|(with_reducible assumption)|assumption)
            have hx7:=bt_at a0 x3_2
            replace p7:=eq_true p7;replace q7:=eq_true q7;go_wp2
            all_goals go_ret
            all_goals exact⟨by first|rfl|(simp;done)|(simp[*];done),by repeat (first|exact Drawn0.refl _|apply Drawn0.step)⟩
       ·rw[if_neg c6]at H
        exact absurd H (by simp)
      ·rw[if_neg c5]at H
       have c5b0:decide (x3_2<(a0.size:Int))=false:=decide_eq_false c5;clear c5;obtain rfl:=Option.some.inj H;go_wp2
       all_goals go_ret
       all_goals exact⟨by first|rfl|(simp;done)|(simp[*];done),by repeat (first|exact Drawn0.refl _|apply Drawn0.step)⟩
end Go.Proofs.YthnajefdiljneaaDoor.Q
end
section
-- SQUEEZED
-- Written by the program wip/tools/mp.py of this work, which drives the print of the kit; hand texts of this session among it.
namespace Go.Proofs.YthnajefdiljneaaDoor.Q
open Go.RowKit Go.Proofs.HW Go.Proofs.YthnajefdiljneaaDoorW.PrintWords Go.Proofs.YthnajefdiljneaaDoorW.PrintLast
set_option linter.unusedVariables false
set_option linter.unusedSimpArgs false
-- HANDTEXT
def strings_TrimLeft.f(a0:ByteArray)(a1:ByteArray):Option (ByteArray):=if a1=(⟨#[91]⟩:ByteArray)then some (⟨(Lib.trimLeftB a0.data.toList 91).toArray⟩:ByteArray)else none
theorem strings_TrimLeft.calls(a0:ByteArray)(a1:ByteArray)(r:ByteArray)(w:World)(h:strings_TrimLeft.f a0 a1=some r):
  Calls Tryd.prog 33 #[.string a0, .string a1] w fun e w'=>e= .returned (.string r)∧Drawn0 w w':=by
 unfold strings_TrimLeft.f at h;split at h
 ·rename_i h1
  subst h1;obtain rfl:=Option.some.inj h
  exact(Tryd.strings_TrimLeft_one a0 91 (by decide) w).mono fun e w' ⟨he,hw⟩=>⟨he,hw▸Drawn0.refl _⟩
 ·cases h
end Go.Proofs.YthnajefdiljneaaDoor.Q
end
section
-- SQUEEZED
-- Written by the program wip/tools/mp.py of this work, which drives the print of the kit; hand texts of this session among it.
namespace Go.Proofs.YthnajefdiljneaaDoor.Q
open Go.RowKit Go.Proofs.HW Go.Proofs.YthnajefdiljneaaDoorW.PrintWords Go.Proofs.YthnajefdiljneaaDoorW.PrintLast
set_option linter.unusedVariables false
set_option linter.unusedSimpArgs false
def desc_bare.f(a0:ByteArray):Option (ByteArray×Int):=(strings_TrimLeft.f a0 (⟨#[91]⟩:ByteArray)).bind fun t104=>(some (t104,wrap64 ((a0.size:Int)-(t104.size:Int))))
set_option maxHeartbeats 8000000 in
set_option maxRecDepth 100000 in
theorem desc_bare.calls(a0:ByteArray)(r1:ByteArray)(r2:Int)(w:World)(h:desc_bare.f a0=some (r1,r2)):
  Calls Tryd.prog 46 #[.string a0] w fun e w'=>e= .returned (.tuple #[.string r1, .int .i64 r2])∧Drawn0 w w':=by
 have H:((strings_TrimLeft.f a0 (⟨#[91]⟩:ByteArray)).bind fun t104=>(some (t104,wrap64 ((a0.size:Int)-(t104.size:Int)))))=some (r1,r2):=h;clear h;replace H:=Option.bind_eq_some_iff.mp H;obtain⟨t104,A20,H⟩:=H;replace H:(some (t104,wrap64 ((a0.size:Int)-(t104.size:Int))))=some (r1,r2):=H
 have A2:=Aside0.mk A20
 clear A20;simp only[Option.some.injEq,Prod.mk.injEq]at H;obtain⟨rfl,rfl⟩:=H
 go_enter Tryd.func46,Tryd.ntmps46
 go_wp2_with (first|((with_reducible refine gate_callee (f:=33) rfl ?_);refine goesL_ (some 6) rfl rfl Tryd.func33 (by kernel_rfl) rfl #[.string a0, .string (⟨#[91]⟩:ByteArray)] rfl (by(try simp only[List.map_toArray,List.map_cons,List.map_nil]);first|done|rfl|(simp only[List.length_drop,List.length_take];rfl)) ?_;(with_reducible refine(strings_TrimLeft.calls a0 (⟨#[91]⟩:ByteArray) t104 _ A2.out).mono ?_);rintro e w' ⟨rfl,⟨nd,rfl⟩⟩;refine⟨_,rfl,?_⟩))
 all_goals go_ret2
 all_goals exact⟨by first|rfl|(simp;done)|(simp[*];done),by repeat (first|exact Drawn0.refl _|apply Drawn0.step)⟩
def stringslite_HasPrefix.f(a0:ByteArray)(a1:ByteArray):Option (Bool):=if(a0.size:Int)≥(a1.size:Int)then(if 0≤(a1.size:Int)then(if(a1.size:Int)≤(a0.size:Int)then(some ((a0.extract 0 ((a1.size:Int):Int).toNat).toList==a1.toList))else(none))else(none))else(some false)
set_option maxHeartbeats 8000000 in
set_option maxRecDepth 100000 in
theorem stringslite_HasPrefix.calls(a0:ByteArray)(a1:ByteArray)(r:Bool)(w:World)(h:stringslite_HasPrefix.f a0 a1=some r):
  Calls Tryd.prog 70 #[.string a0, .string a1] w fun e w'=>e= .returned (.bool r)∧Drawn0 w w':=by
 have H:(if(a0.size:Int)≥(a1.size:Int)then(if 0≤(a1.size:Int)then(if(a1.size:Int)≤(a0.size:Int)then(some ((a0.extract 0 ((a1.size:Int):Int).toNat).toList==a1.toList))else(none))else(none))else(some false))=some r:=h;clear h
 by_cases c3:(a0.size:Int)≥(a1.size:Int)
 ·rw[if_pos c3]at H
  have c3b0:decide ((a1.size:Int)≤(a0.size:Int))=true:=decide_eq_true c3;have c3b1:decide (a1.size≤a0.size)=true:=decide_eq_true (Int.ofNat_le.mp c3);clear c3
  by_cases c4:0≤(a1.size:Int)
  ·rw[if_pos c4]at H
   have c4b0:=eq_true c4
   have c4b1:decide (0≤(a1.size:Int))=true:=decide_eq_true c4;clear c4
   by_cases c5:(a1.size:Int)≤(a0.size:Int)
   ·rw[if_pos c5]at H
    have c5b0:=eq_true c5
    have c5b1:decide ((a1.size:Int)≤(a0.size:Int))=true:=decide_eq_true c5;clear c5;obtain rfl:=Option.some.inj H
    go_enter Tryd.func70,Tryd.ntmps70
    go_wp2
    all_goals go_ret
    all_goals exact⟨by first|rfl|(simp;done)|(simp[*];done),by repeat (first|exact Drawn0.refl _|apply Drawn0.step)⟩
   ·rw[if_neg c5]at H
    exact absurd H (by simp)
  ·rw[if_neg c4]at H
   exact absurd H (by simp)
 ·rw[if_neg c3]at H
  have c3b0:decide ((a1.size:Int)≤(a0.size:Int))=false:=decide_eq_false c3;have c3b1:decide (a1.size≤a0.size)=false:=decide_eq_false (fun h=>c3 (Int.ofNat_le.mpr h));clear c3;obtain rfl:=Option.some.inj H
  go_enter Tryd.func70,Tryd.ntmps70
  go_wp2
  all_goals go_ret
  all_goals exact⟨by first|rfl|(simp;done)|(simp[*];done),by repeat (first|exact Drawn0.refl _|apply Drawn0.step)⟩
def stringslite_CutPrefix.f(a0:ByteArray)(a1:ByteArray):Option (ByteArray×Bool):=(stringslite_HasPrefix.f a0 a1).bind fun t105=>(if t105=true then(if 0≤(a1.size:Int)then(if(a1.size:Int)≤(a0.size:Int)then(some (a0.extract ((a1.size:Int):Int).toNat a0.size,true))else(none))else(none))else(some (a0,false)))
set_option maxHeartbeats 8000000 in
set_option maxRecDepth 100000 in
theorem stringslite_CutPrefix.calls(a0:ByteArray)(a1:ByteArray)(r1:ByteArray)(r2:Bool)(w:World)(h:stringslite_CutPrefix.f a0 a1=some (r1,r2)):
  Calls Tryd.prog 69 #[.string a0, .string a1] w fun e w'=>e= .returned (.tuple #[.string r1, .bool r2])∧Drawn0 w w':=by
 have H:((stringslite_HasPrefix.f a0 a1).bind fun t105=>(if t105=true then(if 0≤(a1.size:Int)then(if(a1.size:Int)≤(a0.size:Int)then(some (a0.extract ((a1.size:Int):Int).toNat a0.size,true))else(none))else(none))else(some (a0,false))))=some (r1,r2):=h;clear h;replace H:=Option.bind_eq_some_iff.mp H;obtain⟨t105,A30,H⟩:=H;replace H:(if t105=true then(if 0≤(a1.size:Int)then(if(a1.size:Int)≤(a0.size:Int)then(some (a0.extract ((a1.size:Int):Int).toNat a0.size,true))else(none))else(none))else(some (a0,false)))=some (r1,r2):=H
 have A3:=Aside0.mk A30
 clear A30
 by_cases c4:t105=true
 ·subst c4
  have H1:(if 0≤(a1.size:Int)then(if(a1.size:Int)≤(a0.size:Int)then(some (a0.extract ((a1.size:Int):Int).toNat a0.size,true))else(none))else(none))=some (r1,r2):=by rw[if_pos rfl]at H;exact H
  clear H
  have H:=H1
  clear H1
  by_cases c5:0≤(a1.size:Int)
  ·rw[if_pos c5]at H
   have c5b0:=eq_true c5
   have c5b1:decide (0≤(a1.size:Int))=true:=decide_eq_true c5;clear c5
   by_cases c6:(a1.size:Int)≤(a0.size:Int)
   ·rw[if_pos c6]at H
    have c6b0:=eq_true c6
    have c6b1:decide ((a1.size:Int)≤(a0.size:Int))=true:=decide_eq_true c6;clear c6;simp only[Option.some.injEq,Prod.mk.injEq]at H;obtain⟨rfl,rfl⟩:=H
    go_enter Tryd.func69,Tryd.ntmps69
    go_wp2_with (first|((with_reducible refine gate_callee (f:=70) rfl ?_);refine goesL_ (some 8) rfl rfl Tryd.func70 (by kernel_rfl) rfl #[.string a0, .string a1] rfl (by(try simp only[List.map_toArray,List.map_cons,List.map_nil]);first|done|rfl|(simp only[List.length_drop,List.length_take];rfl)) ?_;(with_reducible refine(stringslite_HasPrefix.calls a0 a1 true _ A3.out).mono ?_);rintro e w' ⟨rfl,⟨nd,rfl⟩⟩;refine⟨_,rfl,?_⟩))
    all_goals go_ret2
    all_goals exact⟨by first|rfl|(simp;done)|(simp[*];done),by repeat (first|exact Drawn0.refl _|apply Drawn0.step)⟩
   ·rw[if_neg c6]at H
    exact absurd H (by simp)
  ·rw[if_neg c5]at H
   exact absurd H (by simp)
 ·replace c4:=Bool.eq_false_iff.mpr c4
  subst c4
  have H1:(some (a0,false))=some (r1,r2):=by rw[if_neg (show¬(false=true) by decide)]at H;exact H
  clear H
  have H:=H1
  clear H1;simp only[Option.some.injEq,Prod.mk.injEq]at H;obtain⟨rfl,rfl⟩:=H
  go_enter Tryd.func69,Tryd.ntmps69
  go_wp2_with (first|((with_reducible refine gate_callee (f:=70) rfl ?_);refine goesL_ (some 8) rfl rfl Tryd.func70 (by kernel_rfl) rfl #[.string a0, .string a1] rfl (by(try simp only[List.map_toArray,List.map_cons,List.map_nil]);first|done|rfl|(simp only[List.length_drop,List.length_take];rfl)) ?_;(with_reducible refine(stringslite_HasPrefix.calls a0 a1 false _ A3.out).mono ?_);rintro e w' ⟨rfl,⟨nd,rfl⟩⟩;refine⟨_,rfl,?_⟩))
  all_goals go_ret2
  all_goals exact⟨by first|rfl|(simp;done)|(simp[*];done),by repeat (first|exact Drawn0.refl _|apply Drawn0.step)⟩
def strings_CutPrefix.f(a0:ByteArray)(a1:ByteArray):Option (ByteArray×Bool):=(stringslite_CutPrefix.f a0 a1).bind fun bt106=>(some (bt106.1,bt106.2))
set_option maxHeartbeats 8000000 in
set_option maxRecDepth 100000 in
theorem strings_CutPrefix.calls(a0:ByteArray)(a1:ByteArray)(r1:ByteArray)(r2:Bool)(w:World)(h:strings_CutPrefix.f a0 a1=some (r1,r2)):
  Calls Tryd.prog 49 #[.string a0, .string a1] w fun e w'=>e= .returned (.tuple #[.string r1, .bool r2])∧Drawn0 w w':=by
 have H:((stringslite_CutPrefix.f a0 a1).bind fun bt106=>(some (bt106.1,bt106.2)))=some (r1,r2):=h;clear h;replace H:=Option.bind_eq_some_iff.mp H;obtain⟨⟨t106,t107⟩,A30,H⟩:=H;replace H:(some (t106,t107))=some (r1,r2):=H
 have A3:=Aside0.mk A30
 clear A30;simp only[Option.some.injEq,Prod.mk.injEq]at H;obtain⟨rfl,rfl⟩:=H
 go_enter Tryd.func49,Tryd.ntmps49
 go_wp2_with (first|((with_reducible refine gate_callee (f:=69) rfl ?_);refine goesL_ (some 8) rfl rfl Tryd.func69 (by kernel_rfl) rfl #[.string a0, .string a1] rfl (by(try simp only[List.map_toArray,List.map_cons,List.map_nil]);first|done|rfl|(simp only[List.length_drop,List.length_take];rfl)) ?_;(with_reducible refine(stringslite_CutPrefix.calls a0 a1 t106 t107 _ A3.out).mono ?_);rintro e w' ⟨rfl,⟨nd,rfl⟩⟩;refine⟨_,rfl,?_⟩))
 all_goals go_ret2
 all_goals exact⟨by first|rfl|(simp;done)|(simp[*];done),by repeat (first|exact Drawn0.refl _|apply Drawn0.step)⟩
def stringslite_HasSuffix.f(a0:ByteArray)(a1:ByteArray):Option (Bool):=if(a0.size:Int)≥(a1.size:Int)then(if 0≤(wrap64 ((a0.size:Int)-(a1.size:Int)))then(if(wrap64 ((a0.size:Int)-(a1.size:Int)))≤(a0.size:Int)then(some ((a0.extract ((wrap64 ((a0.size:Int)-(a1.size:Int))):Int).toNat a0.size).toList==a1.toList))else(none))else(none))else(some false)
set_option maxHeartbeats 8000000 in
set_option maxRecDepth 100000 in
theorem stringslite_HasSuffix.calls(a0:ByteArray)(a1:ByteArray)(r:Bool)(w:World)(h:stringslite_HasSuffix.f a0 a1=some r):
  Calls Tryd.prog 84 #[.string a0, .string a1] w fun e w'=>e= .returned (.bool r)∧Drawn0 w w':=by
 have H:(if(a0.size:Int)≥(a1.size:Int)then(if 0≤(wrap64 ((a0.size:Int)-(a1.size:Int)))then(if(wrap64 ((a0.size:Int)-(a1.size:Int)))≤(a0.size:Int)then(some ((a0.extract ((wrap64 ((a0.size:Int)-(a1.size:Int))):Int).toNat a0.size).toList==a1.toList))else(none))else(none))else(some false))=some r:=h;clear h
 by_cases c3:(a0.size:Int)≥(a1.size:Int)
 ·rw[if_pos c3]at H
  have c3b0:decide ((a1.size:Int)≤(a0.size:Int))=true:=decide_eq_true c3;have c3b1:decide (a1.size≤a0.size)=true:=decide_eq_true (Int.ofNat_le.mp c3);clear c3;obtain⟨ji4,hji4⟩: ∃j_:Int,(wrap64 ((a0.size:Int)-(a1.size:Int)))=j_:=⟨_,rfl⟩
  replace H:(if 0≤(ji4)then(if(ji4)≤(a0.size:Int)then(some ((a0.extract ((ji4):Int).toNat a0.size).toList==a1.toList))else(none))else(none))=some r:=by first|(rw[hji4]at H;exact H)|(simp only[hji4]at H ⊢;exact H)
  have hji4w:(IntKind.i64.wrap ((a0.size:Int)-(a1.size:Int)))=ji4:=(i64_w _).trans hji4
  by_cases c5:0≤(ji4)
  ·rw[if_pos c5]at H
   have c5b0:=eq_true c5
   have c5b1:decide (0≤(ji4))=true:=decide_eq_true c5;clear c5
   by_cases c6:(ji4)≤(a0.size:Int)
   ·rw[if_pos c6]at H
    have c6b0:=eq_true c6
    have c6b1:decide ((ji4)≤(a0.size:Int))=true:=decide_eq_true c6;clear c6;obtain rfl:=Option.some.inj H
    go_enter Tryd.func84,Tryd.ntmps84
    go_wp2
    all_goals go_ret
    all_goals exact⟨by first|rfl|(simp;done)|(simp only[←hji4]<;>(first|rfl|simp))|(simp[*];done),by repeat (first|exact Drawn0.refl _|apply Drawn0.step)⟩
   ·rw[if_neg c6]at H
    exact absurd H (by simp)
  ·rw[if_neg c5]at H
   exact absurd H (by simp)
 ·rw[if_neg c3]at H
  have c3b0:decide ((a1.size:Int)≤(a0.size:Int))=false:=decide_eq_false c3;have c3b1:decide (a1.size≤a0.size)=false:=decide_eq_false (fun h=>c3 (Int.ofNat_le.mpr h));clear c3;obtain rfl:=Option.some.inj H
  go_enter Tryd.func84,Tryd.ntmps84
  go_wp2
  all_goals go_ret
  all_goals exact⟨by first|rfl|(simp;done)|(simp[*];done),by repeat (first|exact Drawn0.refl _|apply Drawn0.step)⟩
def stringslite_CutSuffix.f(a0:ByteArray)(a1:ByteArray):Option (ByteArray×Bool):=(stringslite_HasSuffix.f a0 a1).bind fun t108=>(if t108=true then(if 0≤(wrap64 ((a0.size:Int)-(a1.size:Int)))then(if(wrap64 ((a0.size:Int)-(a1.size:Int)))≤(a0.size:Int)then(some (a0.extract 0 ((wrap64 ((a0.size:Int)-(a1.size:Int))):Int).toNat,true))else(none))else(none))else(some (a0,false)))
set_option maxHeartbeats 8000000 in
set_option maxRecDepth 100000 in
theorem stringslite_CutSuffix.calls(a0:ByteArray)(a1:ByteArray)(r1:ByteArray)(r2:Bool)(w:World)(h:stringslite_CutSuffix.f a0 a1=some (r1,r2)):
  Calls Tryd.prog 77 #[.string a0, .string a1] w fun e w'=>e= .returned (.tuple #[.string r1, .bool r2])∧Drawn0 w w':=by
 have H:((stringslite_HasSuffix.f a0 a1).bind fun t108=>(if t108=true then(if 0≤(wrap64 ((a0.size:Int)-(a1.size:Int)))then(if(wrap64 ((a0.size:Int)-(a1.size:Int)))≤(a0.size:Int)then(some (a0.extract 0 ((wrap64 ((a0.size:Int)-(a1.size:Int))):Int).toNat,true))else(none))else(none))else(some (a0,false))))=some (r1,r2):=h;clear h;replace H:=Option.bind_eq_some_iff.mp H;obtain⟨t108,A30,H⟩:=H;replace H:(if t108=true then(if 0≤(wrap64 ((a0.size:Int)-(a1.size:Int)))then(if(wrap64 ((a0.size:Int)-(a1.size:Int)))≤(a0.size:Int)then(some (a0.extract 0 ((wrap64 ((a0.size:Int)-(a1.size:Int))):Int).toNat,true))else(none))else(none))else(some (a0,false)))=some (r1,r2):=H
 have A3:=Aside0.mk A30
 clear A30
 by_cases c4:t108=true
 ·subst c4
  have H1:(if 0≤(wrap64 ((a0.size:Int)-(a1.size:Int)))then(if(wrap64 ((a0.size:Int)-(a1.size:Int)))≤(a0.size:Int)then(some (a0.extract 0 ((wrap64 ((a0.size:Int)-(a1.size:Int))):Int).toNat,true))else(none))else(none))=some (r1,r2):=by rw[if_pos rfl]at H;exact H
  clear H
  have H:=H1
  clear H1;obtain⟨ji5,hji5⟩: ∃j_:Int,(wrap64 ((a0.size:Int)-(a1.size:Int)))=j_:=⟨_,rfl⟩
  replace H:(if 0≤(ji5)then(if(ji5)≤(a0.size:Int)then(some (a0.extract 0 ((ji5):Int).toNat,true))else(none))else(none))=some (r1,r2):=by first|(rw[hji5]at H;exact H)|(simp only[hji5]at H ⊢;exact H)
  (try rw[hji5]at A3)
  have hji5w:(IntKind.i64.wrap ((a0.size:Int)-(a1.size:Int)))=ji5:=(i64_w _).trans hji5
  by_cases c6:0≤(ji5)
  ·rw[if_pos c6]at H
   have c6b0:=eq_true c6
   have c6b1:decide (0≤(ji5))=true:=decide_eq_true c6;clear c6
   by_cases c7:(ji5)≤(a0.size:Int)
   ·rw[if_pos c7]at H
    have c7b0:=eq_true c7
    have c7b1:decide ((ji5)≤(a0.size:Int))=true:=decide_eq_true c7;clear c7;simp only[Option.some.injEq,Prod.mk.injEq]at H;obtain⟨rfl,rfl⟩:=H
    go_enter Tryd.func77,Tryd.ntmps77
    go_wp2_with (first|((with_reducible refine gate_callee (f:=84) rfl ?_);refine goesL_ (some 8) rfl rfl Tryd.func84 (by kernel_rfl) rfl #[.string a0, .string a1] rfl (by(try simp only[List.map_toArray,List.map_cons,List.map_nil]);first|done|rfl|(simp only[List.length_drop,List.length_take];rfl)) ?_;(with_reducible refine(stringslite_HasSuffix.calls a0 a1 true _ A3.out).mono ?_);rintro e w' ⟨rfl,⟨nd,rfl⟩⟩;refine⟨_,rfl,?_⟩))
    all_goals go_ret2
    all_goals exact⟨by first|rfl|(simp;done)|(simp only[←hji5]<;>(first|rfl|simp))|(simp[*];done),by repeat (first|exact Drawn0.refl _|apply Drawn0.step)⟩
   ·rw[if_neg c7]at H
    exact absurd H (by simp)
  ·rw[if_neg c6]at H
   exact absurd H (by simp)
 ·replace c4:=Bool.eq_false_iff.mpr c4
  subst c4
  have H1:(some (a0,false))=some (r1,r2):=by rw[if_neg (show¬(false=true) by decide)]at H;exact H
  clear H
  have H:=H1
  clear H1;simp only[Option.some.injEq,Prod.mk.injEq]at H;obtain⟨rfl,rfl⟩:=H
  go_enter Tryd.func77,Tryd.ntmps77
  go_wp2_with (first|((with_reducible refine gate_callee (f:=84) rfl ?_);refine goesL_ (some 8) rfl rfl Tryd.func84 (by kernel_rfl) rfl #[.string a0, .string a1] rfl (by(try simp only[List.map_toArray,List.map_cons,List.map_nil]);first|done|rfl|(simp only[List.length_drop,List.length_take];rfl)) ?_;(with_reducible refine(stringslite_HasSuffix.calls a0 a1 false _ A3.out).mono ?_);rintro e w' ⟨rfl,⟨nd,rfl⟩⟩;refine⟨_,rfl,?_⟩))
  all_goals go_ret2
  all_goals exact⟨by first|rfl|(simp;done)|(simp[*];done),by repeat (first|exact Drawn0.refl _|apply Drawn0.step)⟩
def strings_CutSuffix.f(a0:ByteArray)(a1:ByteArray):Option (ByteArray×Bool):=(stringslite_CutSuffix.f a0 a1).bind fun bt109=>(some (bt109.1,bt109.2))
set_option maxHeartbeats 8000000 in
set_option maxRecDepth 100000 in
theorem strings_CutSuffix.calls(a0:ByteArray)(a1:ByteArray)(r1:ByteArray)(r2:Bool)(w:World)(h:strings_CutSuffix.f a0 a1=some (r1,r2)):
  Calls Tryd.prog 68 #[.string a0, .string a1] w fun e w'=>e= .returned (.tuple #[.string r1, .bool r2])∧Drawn0 w w':=by
 have H:((stringslite_CutSuffix.f a0 a1).bind fun bt109=>(some (bt109.1,bt109.2)))=some (r1,r2):=h;clear h;replace H:=Option.bind_eq_some_iff.mp H;obtain⟨⟨t109,t110⟩,A30,H⟩:=H;replace H:(some (t109,t110))=some (r1,r2):=H
 have A3:=Aside0.mk A30
 clear A30;simp only[Option.some.injEq,Prod.mk.injEq]at H;obtain⟨rfl,rfl⟩:=H
 go_enter Tryd.func68,Tryd.ntmps68
 go_wp2_with (first|((with_reducible refine gate_callee (f:=77) rfl ?_);refine goesL_ (some 8) rfl rfl Tryd.func77 (by kernel_rfl) rfl #[.string a0, .string a1] rfl (by(try simp only[List.map_toArray,List.map_cons,List.map_nil]);first|done|rfl|(simp only[List.length_drop,List.length_take];rfl)) ?_;(with_reducible refine(stringslite_CutSuffix.calls a0 a1 t109 t110 _ A3.out).mono ?_);rintro e w' ⟨rfl,⟨nd,rfl⟩⟩;refine⟨_,rfl,?_⟩))
 all_goals go_ret2
 all_goals exact⟨by first|rfl|(simp;done)|(simp[*];done),by repeat (first|exact Drawn0.refl _|apply Drawn0.step)⟩
def desc_name.f(k:Nat)(a0:ByteArray):Option (ByteArray×Bool):=(strings_CutPrefix.f a0 (⟨#[76]⟩:ByteArray)).bind fun bt111=>((strings_CutSuffix.f bt111.1 (⟨#[59]⟩:ByteArray)).bind fun bt113=>(if bt111.2=true then(if bt113.2=true then((bin_Name.f k bt113.1).bind fun t115=>(some (bt113.1,t115)))else(some (bt113.1,false)))else(some (bt113.1,false))))
set_option maxHeartbeats 8000000 in
set_option maxRecDepth 100000 in
theorem desc_name.calls(k:Nat)(a0:ByteArray)(r1:ByteArray)(r2:Bool)(w:World)(h:desc_name.f k a0=some (r1,r2)):
  Calls Tryd.prog 47 #[.string a0] w fun e w'=>e= .returned (.tuple #[.string r1, .bool r2])∧Drawn0 w w':=by
 have H:((strings_CutPrefix.f a0 (⟨#[76]⟩:ByteArray)).bind fun bt111=>((strings_CutSuffix.f bt111.1 (⟨#[59]⟩:ByteArray)).bind fun bt113=>(if bt111.2=true then(if bt113.2=true then((bin_Name.f k bt113.1).bind fun t115=>(some (bt113.1,t115)))else(some (bt113.1,false)))else(some (bt113.1,false)))))=some (r1,r2):=h;clear h;replace H:=Option.bind_eq_some_iff.mp H;obtain⟨⟨t111,t112⟩,A20,H⟩:=H;replace H:((strings_CutSuffix.f t111 (⟨#[59]⟩:ByteArray)).bind fun bt113=>(if t112=true then(if bt113.2=true then((bin_Name.f k bt113.1).bind fun t115=>(some (bt113.1,t115)))else(some (bt113.1,false)))else(some (bt113.1,false))))=some (r1,r2):=H
 have A2:=Aside0.mk A20
 clear A20;replace H:=Option.bind_eq_some_iff.mp H;obtain⟨⟨t113,t114⟩,A30,H⟩:=H;replace H:(if t112=true then(if t114=true then((bin_Name.f k t113).bind fun t115=>(some (t113,t115)))else(some (t113,false)))else(some (t113,false)))=some (r1,r2):=H
 have A3:=Aside0.mk A30
 clear A30
 by_cases c4:t112=true
 ·subst c4
  have H1:(if t114=true then((bin_Name.f k t113).bind fun t115=>(some (t113,t115)))else(some (t113,false)))=some (r1,r2):=by rw[if_pos rfl]at H;exact H
  clear H
  have H:=H1
  clear H1
  by_cases c5:t114=true
  ·subst c5
   have H1:((bin_Name.f k t113).bind fun t115=>(some (t113,t115)))=some (r1,r2):=by rw[if_pos rfl]at H;exact H
   clear H
   have H:=H1
   clear H1;replace H:=Option.bind_eq_some_iff.mp H;obtain⟨t115,A60,H⟩:=H;replace H:(some (t113,t115))=some (r1,r2):=H
   have A6:=Aside0.mk A60
   clear A60;simp only[Option.some.injEq,Prod.mk.injEq]at H;obtain⟨rfl,rfl⟩:=H
   go_enter Tryd.func47,Tryd.ntmps47
   go_wp2_with (first|((with_reducible refine gate_callee (f:=49) rfl ?_);refine goesL_ (some 10) rfl rfl Tryd.func49 (by kernel_rfl) rfl #[.string a0, .string (⟨#[76]⟩:ByteArray)] rfl (by(try simp only[List.map_toArray,List.map_cons,List.map_nil]);first|done|rfl|(simp only[List.length_drop,List.length_take];rfl)) ?_;(with_reducible refine(strings_CutPrefix.calls a0 (⟨#[76]⟩:ByteArray) t111 true _ A2.out).mono ?_);rintro e w' ⟨rfl,⟨nd,rfl⟩⟩;refine⟨_,rfl,?_⟩)|((with_reducible refine gate_callee (f:=68) rfl ?_);refine goesL_ (some 15) rfl rfl Tryd.func68 (by kernel_rfl) rfl #[.string t111, .string (⟨#[59]⟩:ByteArray)] rfl (by(try simp only[List.map_toArray,List.map_cons,List.map_nil]);first|done|rfl|(simp only[List.length_drop,List.length_take];rfl)) ?_;(with_reducible refine(strings_CutSuffix.calls t111 (⟨#[59]⟩:ByteArray) t113 true _ A3.out).mono ?_);rintro e w' ⟨rfl,⟨nd,rfl⟩⟩;refine⟨_,rfl,?_⟩)|(go_at_call 27;(with_reducible refine(bin_Name.calls k t113 t115 _ A6.out).mono ?_);rintro e w' ⟨rfl,⟨nd,rfl⟩⟩))
   all_goals go_ret2
   all_goals exact⟨by first|rfl|(simp;done)|(simp[*];done),by repeat (first|exact Drawn0.refl _|apply Drawn0.step)⟩
  ·replace c5:=Bool.eq_false_iff.mpr c5
   subst c5
   have H1:(some (t113,false))=some (r1,r2):=by rw[if_neg (show¬(false=true) by decide)]at H;exact H
   clear H
   have H:=H1
   clear H1;simp only[Option.some.injEq,Prod.mk.injEq]at H;obtain⟨rfl,rfl⟩:=H
   go_enter Tryd.func47,Tryd.ntmps47
   go_wp2_with (first|((with_reducible refine gate_callee (f:=49) rfl ?_);refine goesL_ (some 10) rfl rfl Tryd.func49 (by kernel_rfl) rfl #[.string a0, .string (⟨#[76]⟩:ByteArray)] rfl (by(try simp only[List.map_toArray,List.map_cons,List.map_nil]);first|done|rfl|(simp only[List.length_drop,List.length_take];rfl)) ?_;(with_reducible refine(strings_CutPrefix.calls a0 (⟨#[76]⟩:ByteArray) t111 true _ A2.out).mono ?_);rintro e w' ⟨rfl,⟨nd,rfl⟩⟩;refine⟨_,rfl,?_⟩)|((with_reducible refine gate_callee (f:=68) rfl ?_);refine goesL_ (some 15) rfl rfl Tryd.func68 (by kernel_rfl) rfl #[.string t111, .string (⟨#[59]⟩:ByteArray)] rfl (by(try simp only[List.map_toArray,List.map_cons,List.map_nil]);first|done|rfl|(simp only[List.length_drop,List.length_take];rfl)) ?_;(with_reducible refine(strings_CutSuffix.calls t111 (⟨#[59]⟩:ByteArray) t113 false _ A3.out).mono ?_);rintro e w' ⟨rfl,⟨nd,rfl⟩⟩;refine⟨_,rfl,?_⟩))
   all_goals go_ret2
   all_goals exact⟨by first|rfl|(simp;done)|(simp[*];done),by repeat (first|exact Drawn0.refl _|apply Drawn0.step)⟩
 ·replace c4:=Bool.eq_false_iff.mpr c4
  subst c4
  have H1:(some (t113,false))=some (r1,r2):=by rw[if_neg (show¬(false=true) by decide)]at H;exact H
  clear H
  have H:=H1
  clear H1;simp only[Option.some.injEq,Prod.mk.injEq]at H;obtain⟨rfl,rfl⟩:=H
  go_enter Tryd.func47,Tryd.ntmps47
  go_wp2_with (first|((with_reducible refine gate_callee (f:=49) rfl ?_);refine goesL_ (some 10) rfl rfl Tryd.func49 (by kernel_rfl) rfl #[.string a0, .string (⟨#[76]⟩:ByteArray)] rfl (by(try simp only[List.map_toArray,List.map_cons,List.map_nil]);first|done|rfl|(simp only[List.length_drop,List.length_take];rfl)) ?_;(with_reducible refine(strings_CutPrefix.calls a0 (⟨#[76]⟩:ByteArray) t111 false _ A2.out).mono ?_);rintro e w' ⟨rfl,⟨nd,rfl⟩⟩;refine⟨_,rfl,?_⟩)|((with_reducible refine gate_callee (f:=68) rfl ?_);refine goesL_ (some 15) rfl rfl Tryd.func68 (by kernel_rfl) rfl #[.string t111, .string (⟨#[59]⟩:ByteArray)] rfl (by(try simp only[List.map_toArray,List.map_cons,List.map_nil]);first|done|rfl|(simp only[List.length_drop,List.length_take];rfl)) ?_;(with_reducible refine(strings_CutSuffix.calls t111 (⟨#[59]⟩:ByteArray) t113 t114 _ A3.out).mono ?_);rintro e w' ⟨rfl,⟨nd,rfl⟩⟩;refine⟨_,rfl,?_⟩))
  all_goals go_ret2
  all_goals exact⟨by first|rfl|(simp;done)|(simp[*];done),by repeat (first|exact Drawn0.refl _|apply Drawn0.step)⟩
def desc_plain.f(a0:ByteArray):Option (Bool):=if a0.toList=([73]:List UInt8)then(some true)else(if a0.toList=([66]:List UInt8)then(some true)else(some (a0.toList==([83]:List UInt8))))
set_option maxHeartbeats 8000000 in
set_option maxRecDepth 100000 in
theorem desc_plain.calls(a0:ByteArray)(r:Bool)(w:World)(h:desc_plain.f a0=some r):
  Calls Tryd.prog 48 #[.string a0] w fun e w'=>e= .returned (.bool r)∧Drawn0 w w':=by
 have H:(if a0.toList=([73]:List UInt8)then(some true)else(if a0.toList=([66]:List UInt8)then(some true)else(some (a0.toList==([83]:List UInt8)))))=some r:=h;clear h
 by_cases c2:a0.toList=([73]:List UInt8)
 ·rw[if_pos c2]at H
  have c2b0:(a0.toList==([73]:List UInt8))=true:=beq_iff_eq.mpr c2;have c2b1:(a0.toList !=([73]:List UInt8))=false:=bne_eq_false_iff_eq.mpr c2;clear c2;obtain rfl:=Option.some.inj H
  go_enter Tryd.func48,Tryd.ntmps48
  go_wp2
  all_goals go_ret
  all_goals exact⟨by first|rfl|(simp;done)|(simp[*];done),by repeat (first|exact Drawn0.refl _|apply Drawn0.step)⟩
 ·rw[if_neg c2]at H
  have c2b0:(a0.toList==([73]:List UInt8))=false:=beq_eq_false_iff_ne.mpr c2;have c2b1:(a0.toList !=([73]:List UInt8))=true:=bne_iff_ne.mpr c2
  by_cases c3:a0.toList=([66]:List UInt8)
  ·rw[if_pos c3]at H
   have c3b0:(a0.toList==([66]:List UInt8))=true:=beq_iff_eq.mpr c3;have c3b1:(a0.toList !=([66]:List UInt8))=false:=bne_eq_false_iff_eq.mpr c3;clear c3;obtain rfl:=Option.some.inj H
   go_enter Tryd.func48,Tryd.ntmps48
   go_wp2
   all_goals go_ret
   all_goals exact⟨by first|rfl|(simp;done)|(simp[*];done),by repeat (first|exact Drawn0.refl _|apply Drawn0.step)⟩
  ·rw[if_neg c3]at H
   have c3b0:(a0.toList==([66]:List UInt8))=false:=beq_eq_false_iff_ne.mpr c3;have c3b1:(a0.toList !=([66]:List UInt8))=true:=bne_iff_ne.mpr c3;obtain rfl:=Option.some.inj H
   go_enter Tryd.func48,Tryd.ntmps48
   go_wp2
   all_goals go_ret
   all_goals exact⟨by first|rfl|(simp;done)|(simp[*];done),by repeat (first|exact Drawn0.refl _|apply Drawn0.step)⟩
def desc_Right.f(k:Nat)(a0:ByteArray):Option (Bool):=(desc_bare.f a0).bind fun bt116=>((desc_name.f k bt116.1).bind fun bt118=>(if bt116.2≤4 then(if bt118.2=true then(some true)else((desc_plain.f bt116.1).bind fun t120=>(some t120)))else(some false)))
set_option maxHeartbeats 8000000 in
set_option maxRecDepth 100000 in
theorem desc_Right.calls(k:Nat)(a0:ByteArray)(r:Bool)(w:World)(h:desc_Right.f k a0=some r):
  Calls Tryd.prog 25 #[.string a0] w fun e w'=>e= .returned (.bool r)∧Drawn0 w w':=by
 have H:((desc_bare.f a0).bind fun bt116=>((desc_name.f k bt116.1).bind fun bt118=>(if bt116.2≤4 then(if bt118.2=true then(some true)else((desc_plain.f bt116.1).bind fun t120=>(some t120)))else(some false))))=some r:=h;clear h;replace H:=Option.bind_eq_some_iff.mp H;obtain⟨⟨t116,t117⟩,A20,H⟩:=H;replace H:((desc_name.f k t116).bind fun bt118=>(if t117≤4 then(if bt118.2=true then(some true)else((desc_plain.f t116).bind fun t120=>(some t120)))else(some false)))=some r:=H
 have A2:=Aside0.mk A20
 clear A20;replace H:=Option.bind_eq_some_iff.mp H;obtain⟨⟨t118,t119⟩,A30,H⟩:=H;replace H:(if t117≤4 then(if t119=true then(some true)else((desc_plain.f t116).bind fun t120=>(some t120)))else(some false))=some r:=H
 have A3:=Aside0.mk A30
 clear A30
 by_cases c4:t117≤4
 ·rw[if_pos c4]at H
  have c4b0:decide (t117≤4)=true:=decide_eq_true c4;clear c4
  by_cases c5:t119=true
  ·subst c5
   have H1:(some true)=some r:=by rw[if_pos rfl]at H;exact H
   clear H
   have H:=H1
   clear H1;obtain rfl:=Option.some.inj H
   go_enter Tryd.func25,Tryd.ntmps25
   go_wp2_with (first|((with_reducible refine gate_callee (f:=46) rfl ?_);refine goesL_ (some 9) rfl rfl Tryd.func46 (by kernel_rfl) rfl #[.string a0] rfl (by(try simp only[List.map_toArray,List.map_cons,List.map_nil]);first|done|rfl|(simp only[List.length_drop,List.length_take];rfl)) ?_;(with_reducible refine(desc_bare.calls a0 t116 t117 _ A2.out).mono ?_);rintro e w' ⟨rfl,⟨nd,rfl⟩⟩;refine⟨_,rfl,?_⟩)|((with_reducible refine gate_callee (f:=47) rfl ?_);refine goesL_ (some 14) rfl rfl Tryd.func47 (by kernel_rfl) rfl #[.string t116] rfl (by(try simp only[List.map_toArray,List.map_cons,List.map_nil]);first|done|rfl|(simp only[List.length_drop,List.length_take];rfl)) ?_;(with_reducible refine(desc_name.calls k t116 t118 true _ A3.out).mono ?_);rintro e w' ⟨rfl,⟨nd,rfl⟩⟩;refine⟨_,rfl,?_⟩))
   all_goals go_ret
   all_goals exact⟨by first|rfl|(simp;done)|(simp[*];done),by repeat (first|exact Drawn0.refl _|apply Drawn0.step)⟩
  ·replace c5:=Bool.eq_false_iff.mpr c5
   subst c5
   have H1:((desc_plain.f t116).bind fun t120=>(some t120))=some r:=by rw[if_neg (show¬(false=true) by decide)]at H;exact H
   clear H
   have H:=H1
   clear H1;replace H:=Option.bind_eq_some_iff.mp H;obtain⟨t120,A60,H⟩:=H;replace H:(some t120)=some r:=H
   have A6:=Aside0.mk A60
   clear A60;obtain rfl:=Option.some.inj H
   go_enter Tryd.func25,Tryd.ntmps25
   go_wp2_with (first|((with_reducible refine gate_callee (f:=46) rfl ?_);refine goesL_ (some 9) rfl rfl Tryd.func46 (by kernel_rfl) rfl #[.string a0] rfl (by(try simp only[List.map_toArray,List.map_cons,List.map_nil]);first|done|rfl|(simp only[List.length_drop,List.length_take];rfl)) ?_;(with_reducible refine(desc_bare.calls a0 t116 t117 _ A2.out).mono ?_);rintro e w' ⟨rfl,⟨nd,rfl⟩⟩;refine⟨_,rfl,?_⟩)|((with_reducible refine gate_callee (f:=47) rfl ?_);refine goesL_ (some 14) rfl rfl Tryd.func47 (by kernel_rfl) rfl #[.string t116] rfl (by(try simp only[List.map_toArray,List.map_cons,List.map_nil]);first|done|rfl|(simp only[List.length_drop,List.length_take];rfl)) ?_;(with_reducible refine(desc_name.calls k t116 t118 false _ A3.out).mono ?_);rintro e w' ⟨rfl,⟨nd,rfl⟩⟩;refine⟨_,rfl,?_⟩)|(go_at_call 48;(with_reducible refine(desc_plain.calls t116 t120 _ A6.out).mono ?_);rintro e w' ⟨rfl,⟨nd,rfl⟩⟩))
   all_goals go_ret
   all_goals exact⟨by first|rfl|(simp;done)|(simp[*];done),by repeat (first|exact Drawn0.refl _|apply Drawn0.step)⟩
 ·rw[if_neg c4]at H
  have c4b0:decide (t117≤4)=false:=decide_eq_false c4;clear c4;obtain rfl:=Option.some.inj H
  go_enter Tryd.func25,Tryd.ntmps25
  go_wp2_with (first|((with_reducible refine gate_callee (f:=46) rfl ?_);refine goesL_ (some 9) rfl rfl Tryd.func46 (by kernel_rfl) rfl #[.string a0] rfl (by(try simp only[List.map_toArray,List.map_cons,List.map_nil]);first|done|rfl|(simp only[List.length_drop,List.length_take];rfl)) ?_;(with_reducible refine(desc_bare.calls a0 t116 t117 _ A2.out).mono ?_);rintro e w' ⟨rfl,⟨nd,rfl⟩⟩;refine⟨_,rfl,?_⟩)|((with_reducible refine gate_callee (f:=47) rfl ?_);refine goesL_ (some 14) rfl rfl Tryd.func47 (by kernel_rfl) rfl #[.string t116] rfl (by(try simp only[List.map_toArray,List.map_cons,List.map_nil]);first|done|rfl|(simp only[List.length_drop,List.length_take];rfl)) ?_;(with_reducible refine(desc_name.calls k t116 t118 t119 _ A3.out).mono ?_);rintro e w' ⟨rfl,⟨nd,rfl⟩⟩;refine⟨_,rfl,?_⟩))
  all_goals go_ret
  all_goals exact⟨by first|rfl|(simp;done)|(simp[*];done),by repeat (first|exact Drawn0.refl _|apply Drawn0.step)⟩
mutual
def hornbookref02_Right.j1:Nat→ByteArray→Int→Option (Bool)
 |0,_,_=>none
 |k+1,x0,x3=>if x3>4 then(some false)else(if 0≤x3 then(if x3≤(x0.size:Int)then(if(x0.extract (x3:Int).toNat x0.size).toList=([73]:List UInt8)then(some true)else(if(x0.extract (x3:Int).toNat x0.size).toList=([66]:List UInt8)then(some true)else(if(x0.extract (x3:Int).toNat x0.size).toList=([83]:List UInt8)then(some true)else(if((x0.extract (x3:Int).toNat x0.size).size:Int)>2 then(if 0<((x0.extract (x3:Int).toNat x0.size).size:Int)then(if(bt (x0.extract (x3:Int).toNat x0.size) 0)=76 then(if 0≤(wrap64 (((x0.extract (x3:Int).toNat x0.size).size:Int)-1))then(if(wrap64 (((x0.extract (x3:Int).toNat x0.size).size:Int)-1))<((x0.extract (x3:Int).toNat x0.size).size:Int)then(if(bt (x0.extract (x3:Int).toNat x0.size) (wrap64 (((x0.extract (x3:Int).toNat x0.size).size:Int)-1)))=59 then(if 1≤(wrap64 (((x0.extract (x3:Int).toNat x0.size).size:Int)-1))then(if(wrap64 (((x0.extract (x3:Int).toNat x0.size).size:Int)-1))≤((x0.extract (x3:Int).toNat x0.size).size:Int)then((hornbookref01_Name.f k ((x0.extract (x3:Int).toNat x0.size).extract 1 ((wrap64 (((x0.extract (x3:Int).toNat x0.size).size:Int)-1)):Int).toNat)).bind fun t121=>(some t121))else(none))else(none))else(some false))else(none))else(none))else(some false))else(none))else(some false)))))else(none))else(none))
def hornbookref02_Right.l0:Nat→ByteArray→Int→Option (Bool)
 |0,_,_=>none
 |k+1,x0,x3=>if x3<(x0.size:Int)then(if 0≤x3 then(if(bt x0 x3)=91 then(hornbookref02_Right.l0 k x0 (wrap64 (x3+1)))else(hornbookref02_Right.j1 k x0 x3))else(none))else(hornbookref02_Right.j1 k x0 x3)
end
def hornbookref02_Right.f(k:Nat)(a0:ByteArray):Option (Bool):=hornbookref02_Right.l0 k a0 0
set_option maxHeartbeats 8000000 in
set_option maxRecDepth 100000 in
theorem hornbookref02_Right.calls(k:Nat)(a0:ByteArray)(r:Bool)(w:World)(h:hornbookref02_Right.f k a0=some r):
  Calls Tryd.prog 28 #[.string a0] w fun e w'=>e= .returned (.bool r)∧Drawn0 w w':=by
 have H:(hornbookref02_Right.l0 k a0 0)=some r:=h;clear h
 have HC2:=Aside0.mk H
 clear H
 go_enter Tryd.func28,Tryd.ntmps28
 go_upto_block 0 with(fail)
 go_cut [3] (fun v3 wc=> ∃(kq:Nat) (x3_1:Int),v3= .int .i64 x3_1∧Aside0 (hornbookref02_Right.j1 kq a0 x3_1=some r)∧Aside0 (kq≤k)∧Drawn0 w wc)
 case first=>
  have H:=HC2.out
  clear HC2;have H':=Aside0.mk H;clear H;go_wp2
  go_loopg [3] k (fun kq v3 w'=> ∃(x3_1:Int),v3= .int .i64 x3_1∧Aside0 (hornbookref02_Right.l0 kq a0 x3_1=some r)∧Aside0 (kq≤k)∧Drawn0 w w')
  case atStart=>exact⟨(0),(by first|rfl|(simp;done)|(simp[*];done)),H',⟨Nat.le_refl _⟩,by repeat (first|exact Drawn0.refl _|apply Drawn0.step)⟩
  case round=>
   clear H';(try clear c2);(try clear p2);obtain⟨x3_1,rfl,HA,HK1,⟨m1,rfl⟩⟩:=hrel
   cases gk with
   |zero=>exact absurd HA.out (by simp[hornbookref02_Right.l0])
   |succ k1=>
    have H:=HA.out
    clear HA;simp only[hornbookref02_Right.l0]at H
    by_cases c3:x3_1<(a0.size:Int)
    ·rw[if_pos c3]at H
     have c3b0:decide (x3_1<(a0.size:Int))=true:=decide_eq_true c3;clear c3;(first|rw [c3b0]|(simp only[i64_w,i32_w];rw[c3b0])|skip)
     by_cases c4:0≤x3_1
     ·rw[if_pos c4]at H
      have c4b0:decide (0≤x3_1)=true:=decide_eq_true c4;clear c4
      by_cases c6:(bt a0 x3_1)=91
      ·rw[if_pos c6]at H
       have c6b0:((bt a0 x3_1)==91)=true:=beq_iff_eq.mpr c6;have c6b1:((bt a0 x3_1) !=91)=false:=bne_eq_false_iff_eq.mpr c6;clear c6;have H':=Aside0.mk H;clear H;have p5:0≤(x3_1:Int):=of_decide_eq_true (by first|(with_reducible assumption)|assumption);have q5:x3_1<(a0.size:Int):=of_decide_eq_true (by first|(with_reducible assumption)|assumption)
       have hx5:=bt_at a0 x3_1
       replace p5:=eq_true p5;replace q5:=eq_true q5;go_wp2
       go_roundg k1
       case measure=>have:=HK1.out;omega
       case rel=>exact⟨(wrap64 (x3_1+1)),(by first|rfl|(simp;done)|(simp[*];done)),H',⟨by have:=HK1.out;omega⟩,by repeat (first|exact Drawn0.refl _|apply Drawn0.step)⟩
      ·rw[if_neg c6]at H
       have c6b0:((bt a0 x3_1)==91)=false:=beq_eq_false_iff_ne.mpr c6;have c6b1:((bt a0 x3_1) !=91)=true:=bne_iff_ne.mpr c6;have H':=Aside0.mk H;clear H;have p5:0≤(x3_1:Int):=of_decide_eq_true (by first|(with_reducible assumption)|assumption);have q5:x3_1<(a0.size:Int):=of_decide_eq_true (by first|(with_reducible assumption)|assumption)
       have hx5:=bt_at a0 x3_1
       replace p5:=eq_true p5;replace q5:=eq_true q5;go_wp2;go_meet
       case rel=>exact⟨_,(x3_1),(by first|rfl|(simp;done)|(simp[*];done)),H',⟨by have:=HK1.out;first|omega|exact Nat.le_refl _⟩,by repeat (first|exact Drawn0.refl _|apply Drawn0.step)⟩
     ·rw[if_neg c4]at H
      exact absurd H (by simp)
    ·rw[if_neg c3]at H
     have c3b0:decide (x3_1<(a0.size:Int))=false:=decide_eq_false c3;clear c3;(first|rw [c3b0]|(simp only[i64_w,i32_w];rw[c3b0])|skip);have H':=Aside0.mk H;clear H;go_wp2;go_meet
     case rel=>exact⟨_,(x3_1),(by first|rfl|(simp;done)|(simp[*];done)),H',⟨by have:=HK1.out;first|omega|exact Nat.le_refl _⟩,by repeat (first|exact Drawn0.refl _|apply Drawn0.step)⟩
 case rest=>
  clear HC2;(try clear c2);(try clear p2);(try clear c3);(try clear c3b0);(try clear c4);(try clear c4b0);(try clear p5);(try clear q5);(try clear hx5);(try clear c6);(try clear c6b0);(try clear c6b1);(try clear p6);(try clear p2);(try clear p5);(try clear q5);obtain⟨kq,x3_1,rfl,HA,HJ1,⟨mc1,rfl⟩⟩:=hcut
  cases kq with
  |zero=>exact absurd HA.out (by simp[hornbookref02_Right.j1])
  |succ kj1=>
   have H:=HA.out
   clear HA;simp only[hornbookref02_Right.j1]at H
   by_cases c7:x3_1>4
   ·rw[if_pos c7]at H
    have c7b0:decide (4<x3_1)=true:=decide_eq_true c7;clear c7;obtain rfl:=Option.some.inj H;go_wp2
    all_goals go_ret
    all_goals exact⟨by first|rfl|(simp;done)|(simp[*];done),by repeat (first|exact Drawn0.refl _|apply Drawn0.step)⟩
   ·rw[if_neg c7]at H
    have c7b0:decide (4<x3_1)=false:=decide_eq_false c7;clear c7
    by_cases c8:0≤x3_1
    ·rw[if_pos c8]at H
     have c8b0:=eq_true c8
     have c8b1:decide (0≤x3_1)=true:=decide_eq_true c8;clear c8
     by_cases c9:x3_1≤(a0.size:Int)
     ·rw[if_pos c9]at H
      have c9b0:=eq_true c9
      have c9b1:decide (x3_1≤(a0.size:Int))=true:=decide_eq_true c9;clear c9;obtain⟨d1_,hd1_⟩: ∃d_,a0.extract (x3_1:Int).toNat a0.size=d_:=⟨_,rfl⟩;rw[hd1_]at H
      have sd1_: ∀W_:World,(Instr.slice 9 (.string a0) (some (.int .i64 x3_1)) none none).run Tryd.prog W_= .ok (.string d1_) W_:=fun W_=>by rw[run_slice_string_l W_ 9 a0 Tryd.underlying9 .i64 _ (of_decide_eq_true (show decide (0≤x3_1)=true by assumption)) (of_decide_eq_true (show decide (x3_1≤(a0.size:Int))=true by assumption)),hd1_]
      clear hd1_
      by_cases c10:d1_.toList=([73]:List UInt8)
      ·rw[if_pos c10]at H
       have c10b0:(d1_.toList==([73]:List UInt8))=true:=beq_iff_eq.mpr c10;have c10b1:(d1_.toList !=([73]:List UInt8))=false:=bne_eq_false_iff_eq.mpr c10;clear c10;obtain rfl:=Option.some.inj H;go_wp2
       all_goals go_ret
       all_goals exact⟨by first|rfl|(simp;done)|(simp[*];done),by repeat (first|exact Drawn0.refl _|apply Drawn0.step)⟩
      ·rw[if_neg c10]at H
       have c10b0:(d1_.toList==([73]:List UInt8))=false:=beq_eq_false_iff_ne.mpr c10;have c10b1:(d1_.toList !=([73]:List UInt8))=true:=bne_iff_ne.mpr c10
       by_cases c11:d1_.toList=([66]:List UInt8)
       ·rw[if_pos c11]at H
        have c11b0:(d1_.toList==([66]:List UInt8))=true:=beq_iff_eq.mpr c11;have c11b1:(d1_.toList !=([66]:List UInt8))=false:=bne_eq_false_iff_eq.mpr c11;clear c11;obtain rfl:=Option.some.inj H;go_wp2
        all_goals go_ret
        all_goals exact⟨by first|rfl|(simp;done)|(simp[*];done),by repeat (first|exact Drawn0.refl _|apply Drawn0.step)⟩
       ·rw[if_neg c11]at H
        have c11b0:(d1_.toList==([66]:List UInt8))=false:=beq_eq_false_iff_ne.mpr c11;have c11b1:(d1_.toList !=([66]:List UInt8))=true:=bne_iff_ne.mpr c11
        by_cases c12:d1_.toList=([83]:List UInt8)
        ·rw[if_pos c12]at H
         have c12b0:(d1_.toList==([83]:List UInt8))=true:=beq_iff_eq.mpr c12;have c12b1:(d1_.toList !=([83]:List UInt8))=false:=bne_eq_false_iff_eq.mpr c12;clear c12;obtain rfl:=Option.some.inj H;go_wp2
         all_goals go_ret
         all_goals exact⟨by first|rfl|(simp;done)|(simp[*];done),by repeat (first|exact Drawn0.refl _|apply Drawn0.step)⟩
        ·rw[if_neg c12]at H
         have c12b0:(d1_.toList==([83]:List UInt8))=false:=beq_eq_false_iff_ne.mpr c12;have c12b1:(d1_.toList !=([83]:List UInt8))=true:=bne_iff_ne.mpr c12
         by_cases c13:(d1_.size:Int)>2
         ·rw[if_pos c13]at H
          have c13b0:decide (2<(d1_.size:Int))=true:=decide_eq_true c13;have c13b1:decide (2<d1_.size)=true:=decide_eq_true (by omega);clear c13
          by_cases c14:0<(d1_.size:Int)
          ·rw[if_pos c14]at H
           have c14b0:decide (0<(d1_.size:Int))=true:=decide_eq_true c14;have c14b1:decide (0<d1_.size)=true:=decide_eq_true (by omega);clear c14
           by_cases c16:(bt d1_ 0)=76
           ·rw[if_pos c16]at H
            have c16b0:((bt d1_ 0)==76)=true:=beq_iff_eq.mpr c16;have c16b1:((bt d1_ 0) !=76)=false:=bne_eq_false_iff_eq.mpr c16;clear c16;obtain⟨ji17,hji17⟩: ∃j_:Int,(wrap64 ((d1_.size:Int)-1))=j_:=⟨_,rfl⟩
            replace H:(if 0≤(ji17)then(if(ji17)<(d1_.size:Int)then(if(bt d1_ (ji17))=59 then(if 1≤(ji17)then(if(ji17)≤(d1_.size:Int)then((hornbookref01_Name.f kj1 (d1_.extract 1 ((ji17):Int).toNat)).bind fun t121=>(some t121))else(none))else(none))else(some false))else(none))else(none))=some r:=by first|(rw[hji17]at H;exact H)|(simp only[hji17]at H ⊢;exact H)
            have hji17w:(IntKind.i64.wrap ((d1_.size:Int)-1))=ji17:=(i64_w _).trans hji17
            by_cases c18:0≤(ji17)
            ·rw[if_pos c18]at H
             have c18b0:decide (0≤(ji17))=true:=decide_eq_true c18;clear c18
             by_cases c19:(ji17)<(d1_.size:Int)
             ·rw[if_pos c19]at H
              have c19b0:decide ((ji17)<(d1_.size:Int))=true:=decide_eq_true c19;clear c19
              by_cases c21:(bt d1_ (ji17))=59
              ·rw[if_pos c21]at H
               have c21b0:((bt d1_ (ji17))==59)=true:=beq_iff_eq.mpr c21;have c21b1:((bt d1_ (ji17)) !=59)=false:=bne_eq_false_iff_eq.mpr c21;clear c21
               by_cases c22:1≤(ji17)
               ·rw[if_pos c22]at H
                have c22b0:=eq_true c22
                have c22b1:decide (1≤(ji17))=true:=decide_eq_true c22;clear c22
                by_cases c23:(ji17)≤(d1_.size:Int)
                ·rw[if_pos c23]at H
                 have c23b0:=eq_true c23
                 have c23b1:decide ((ji17)≤(d1_.size:Int))=true:=decide_eq_true c23;clear c23;replace H:=Option.bind_eq_some_iff.mp H;obtain⟨t121,A240,H⟩:=H;replace H:(some t121)=some r:=H
                 have A24:=Aside0.mk A240
                 clear A240;obtain rfl:=Option.some.inj H;have p15:0≤(0:Int):=(by omega);have q15:0<d1_.size:=(by have:(0:Int)<(d1_.size:Int):=of_decide_eq_true (by first|(with_reducible assumption)|assumption);omega);have hx15: ∀h:0<d1_.size,((d1_[0]'h).toNat:Int)=bt d1_ 0:=bt_at d1_ 0;clear p15;have qi15:(0<(d1_.size:Int))=True:=eq_true (of_decide_eq_true (by first|(with_reducible assumption)|assumption));replace q15:=eq_true q15;have p20:0≤((ji17):Int):=of_decide_eq_true (by first|(with_reducible assumption)|assumption)
                 have q20:(ji17)<(d1_.size:Int):=of_decide_eq_true (by first|(with_reducible assumption)|assumption)
                 have hx20:=bt_at d1_ (ji17)
                 replace p20:=eq_true p20;replace q20:=eq_true q20
                 go_wp2_with (first|(go_at_call 29;(with_reducible refine(hornbookref01_Name.calls kj1 (d1_.extract 1 ((ji17):Int).toNat) t121 _ A24.out).mono ?_);rintro e w' ⟨rfl,⟨nd,rfl⟩⟩))
                 all_goals go_ret
                 all_goals exact⟨by first|rfl|(simp;done)|(simp only[←hji17]<;>(first|rfl|simp))|(simp[*];done),by repeat (first|exact Drawn0.refl _|apply Drawn0.step)⟩
                ·rw[if_neg c23]at H
                 exact absurd H (by simp)
               ·rw[if_neg c22]at H
                exact absurd H (by simp)
              ·rw[if_neg c21]at H
               have c21b0:((bt d1_ (ji17))==59)=false:=beq_eq_false_iff_ne.mpr c21;have c21b1:((bt d1_ (ji17)) !=59)=true:=bne_iff_ne.mpr c21;obtain rfl:=Option.some.inj H;have p15:0≤(0:Int):=(by omega);have q15:0<d1_.size:=(by have:(0:Int)<(d1_.size:Int):=of_decide_eq_true (by first|(with_reducible assumption)|assumption);omega);have hx15: ∀h:0<d1_.size,((d1_[0]'h).toNat:Int)=bt d1_ 0:=bt_at d1_ 0;clear p15;have qi15:(0<(d1_.size:Int))=True:=eq_true (of_decide_eq_true (by first|(with_reducible assumption)|assumption))
               replace q15:=eq_true q15;have p20:0≤((ji17):Int):=of_decide_eq_true (by first|(with_reducible assumption)|assumption);have q20:(ji17)<(d1_.size:Int):=of_decide_eq_true (by first|(with_reducible assumption)|assumption)
               have hx20:=bt_at d1_ (ji17)
               replace p20:=eq_true p20;replace q20:=eq_true q20;go_wp2
               all_goals go_ret
               all_goals exact⟨by first|rfl|(simp;done)|(simp only[←hji17]<;>(first|rfl|simp))|(simp[*];done),by repeat (first|exact Drawn0.refl _|apply Drawn0.step)⟩
             ·rw[if_neg c19]at H
              exact absurd H (by simp)
            ·rw[if_neg c18]at H
             exact absurd H (by simp)
           ·rw[if_neg c16]at H
            have c16b0:((bt d1_ 0)==76)=false:=beq_eq_false_iff_ne.mpr c16;have c16b1:((bt d1_ 0) !=76)=true:=bne_iff_ne.mpr c16;obtain rfl:=Option.some.inj H;have p15:0≤(0:Int):=(by omega);have q15:0<d1_.size:=(by have:(0:Int)<(d1_.size:Int):=of_decide_eq_true (by first|(with_reducible assumption)|assumption);omega);have hx15: ∀h:0<d1_.size,((d1_[0]'h).toNat:Int)=bt d1_ 0:=bt_at d1_ 0;clear p15;have qi15:(0<(d1_.size:Int))=True:=eq_true (of_decide_eq_true (by first|(with_reducible assumption)|assumption))
            replace q15:=eq_true q15;go_wp2
            all_goals go_ret
            all_goals exact⟨by first|rfl|(simp;done)|(simp[*];done),by repeat (first|exact Drawn0.refl _|apply Drawn0.step)⟩
          ·rw[if_neg c14]at H
           exact absurd H (by simp)
         ·rw[if_neg c13]at H
          have c13b0:decide (2<(d1_.size:Int))=false:=decide_eq_false c13;have c13b1:decide (2<d1_.size)=false:=decide_eq_false (by omega);clear c13;obtain rfl:=Option.some.inj H;go_wp2
          all_goals go_ret
          all_goals exact⟨by first|rfl|(simp;done)|(simp[*];done),by repeat (first|exact Drawn0.refl _|apply Drawn0.step)⟩
     ·rw[if_neg c9]at H
      exact absurd H (by simp)
    ·rw[if_neg c8]at H
     exact absurd H (by simp)
def strings_HasPrefix.f(a0:ByteArray)(a1:ByteArray):Option (Bool):=(stringslite_HasPrefix.f a0 a1).bind fun t122=>(some t122)
set_option maxHeartbeats 8000000 in
set_option maxRecDepth 100000 in
theorem strings_HasPrefix.calls(a0:ByteArray)(a1:ByteArray)(r:Bool)(w:World)(h:strings_HasPrefix.f a0 a1=some r):
  Calls Tryd.prog 50 #[.string a0, .string a1] w fun e w'=>e= .returned (.bool r)∧Drawn0 w w':=by
 have H:((stringslite_HasPrefix.f a0 a1).bind fun t122=>(some t122))=some r:=h;clear h;replace H:=Option.bind_eq_some_iff.mp H;obtain⟨t122,A30,H⟩:=H;replace H:(some t122)=some r:=H
 have A3:=Aside0.mk A30
 clear A30;obtain rfl:=Option.some.inj H
 go_enter Tryd.func50,Tryd.ntmps50
 go_wp2_with (first|((with_reducible refine gate_callee (f:=70) rfl ?_);refine goesL_ (some 7) rfl rfl Tryd.func70 (by kernel_rfl) rfl #[.string a0, .string a1] rfl (by(try simp only[List.map_toArray,List.map_cons,List.map_nil]);first|done|rfl|(simp only[List.length_drop,List.length_take];rfl)) ?_;(with_reducible refine(stringslite_HasPrefix.calls a0 a1 t122 _ A3.out).mono ?_);rintro e w' ⟨rfl,⟨nd,rfl⟩⟩;refine⟨_,rfl,?_⟩))
 all_goals go_ret
 all_goals exact⟨by first|rfl|(simp;done)|(simp[*];done),by repeat (first|exact Drawn0.refl _|apply Drawn0.step)⟩
end Go.Proofs.YthnajefdiljneaaDoor.Q
end
section
-- SQUEEZED
-- Written by the program wip/tools/mp.py of this work, which drives the print of the kit; hand texts of this session among it.
namespace Go.Proofs.YthnajefdiljneaaDoor.Q
open Go.RowKit Go.Proofs.HW Go.Proofs.YthnajefdiljneaaDoorW.PrintWords Go.Proofs.YthnajefdiljneaaDoorW.PrintLast
set_option linter.unusedVariables false
set_option linter.unusedSimpArgs false
-- HANDTEXT
def strings_IndexByte.f(a0:ByteArray)(a1:Int):Option (Int):=some (Lib.indexByte a0.data.toList a1.toNat.toUInt8)
theorem strings_IndexByte.calls(a0:ByteArray)(a1:Int)(r:Int)(w:World)(h:strings_IndexByte.f a0 a1=some r):
  Calls Tryd.prog 71 #[.string a0, .int .u8 a1] w fun e w'=>e= .returned (.int .i64 r)∧Drawn0 w w':=by
 obtain rfl:=Option.some.inj h
 exact(Tryd.strings_IndexByte a0 a1 w).mono fun e w' ⟨he,hw⟩=>⟨he,hw▸Drawn0.refl _⟩
end Go.Proofs.YthnajefdiljneaaDoor.Q
end
section
-- SQUEEZED
-- Written by the program wip/tools/mp.py of this work, which drives the print of the kit; hand texts of this session among it.
namespace Go.Proofs.YthnajefdiljneaaDoor.Q
open Go.RowKit Go.Proofs.HW Go.Proofs.YthnajefdiljneaaDoorW.PrintWords Go.Proofs.YthnajefdiljneaaDoorW.PrintLast
set_option linter.unusedVariables false
set_option linter.unusedSimpArgs false
def desc_first.f(k:Nat)(a0:ByteArray):Option (ByteArray×ByteArray×Bool):=(desc_bare.f a0).bind fun bt123=>((strings_HasPrefix.f bt123.1 (⟨#[76]⟩:ByteArray)).bind fun t125=>(if t125=true then((strings_IndexByte.f bt123.1 59).bind fun t126=>(if(wrap64 (t126+1))=0 then(some ((⟨#[]⟩:ByteArray),(⟨#[]⟩:ByteArray),false))else(if(wrap64 (t126+1))>(bt123.1.size:Int)then(some ((⟨#[]⟩:ByteArray),(⟨#[]⟩:ByteArray),false))else(if 0≤(wrap64 (bt123.2+(wrap64 (t126+1))))then(if(wrap64 (bt123.2+(wrap64 (t126+1))))≤(a0.size:Int)then((desc_Right.f k (a0.extract 0 ((wrap64 (bt123.2+(wrap64 (t126+1)))):Int).toNat)).bind fun t127=>(some (a0.extract 0 ((wrap64 (bt123.2+(wrap64 (t126+1)))):Int).toNat,a0.extract ((wrap64 (bt123.2+(wrap64 (t126+1)))):Int).toNat a0.size,t127)))else(none))else(none)))))else(if 1=0 then(some ((⟨#[]⟩:ByteArray),(⟨#[]⟩:ByteArray),false))else(if 1>(bt123.1.size:Int)then(some ((⟨#[]⟩:ByteArray),(⟨#[]⟩:ByteArray),false))else(if 0≤(wrap64 (bt123.2+1))then(if(wrap64 (bt123.2+1))≤(a0.size:Int)then((desc_Right.f k (a0.extract 0 ((wrap64 (bt123.2+1)):Int).toNat)).bind fun t128=>(some (a0.extract 0 ((wrap64 (bt123.2+1)):Int).toNat,a0.extract ((wrap64 (bt123.2+1)):Int).toNat a0.size,t128)))else(none))else(none))))))
set_option maxHeartbeats 8000000 in
set_option maxRecDepth 100000 in
theorem desc_first.calls(k:Nat)(a0:ByteArray)(r1:ByteArray)(r2:ByteArray)(r3:Bool)(w:World)(h:desc_first.f k a0=some (r1,r2,r3)):
  Calls Tryd.prog 51 #[.string a0] w fun e w'=>e= .returned (.tuple #[.string r1, .string r2, .bool r3])∧Drawn0 w w':=by
 have H:((desc_bare.f a0).bind fun bt123=>((strings_HasPrefix.f bt123.1 (⟨#[76]⟩:ByteArray)).bind fun t125=>(if t125=true then((strings_IndexByte.f bt123.1 59).bind fun t126=>(if(wrap64 (t126+1))=0 then(some ((⟨#[]⟩:ByteArray),(⟨#[]⟩:ByteArray),false))else(if(wrap64 (t126+1))>(bt123.1.size:Int)then(some ((⟨#[]⟩:ByteArray),(⟨#[]⟩:ByteArray),false))else(if 0≤(wrap64 (bt123.2+(wrap64 (t126+1))))then(if(wrap64 (bt123.2+(wrap64 (t126+1))))≤(a0.size:Int)then((desc_Right.f k (a0.extract 0 ((wrap64 (bt123.2+(wrap64 (t126+1)))):Int).toNat)).bind fun t127=>(some (a0.extract 0 ((wrap64 (bt123.2+(wrap64 (t126+1)))):Int).toNat,a0.extract ((wrap64 (bt123.2+(wrap64 (t126+1)))):Int).toNat a0.size,t127)))else(none))else(none)))))else(if 1=0 then(some ((⟨#[]⟩:ByteArray),(⟨#[]⟩:ByteArray),false))else(if 1>(bt123.1.size:Int)then(some ((⟨#[]⟩:ByteArray),(⟨#[]⟩:ByteArray),false))else(if 0≤(wrap64 (bt123.2+1))then(if(wrap64 (bt123.2+1))≤(a0.size:Int)then((desc_Right.f k (a0.extract 0 ((wrap64 (bt123.2+1)):Int).toNat)).bind fun t128=>(some (a0.extract 0 ((wrap64 (bt123.2+1)):Int).toNat,a0.extract ((wrap64 (bt123.2+1)):Int).toNat a0.size,t128)))else(none))else(none)))))))=some (r1,r2,r3):=h
 clear h;replace H:=Option.bind_eq_some_iff.mp H;obtain⟨⟨t123,t124⟩,A20,H⟩:=H;replace H:((strings_HasPrefix.f t123 (⟨#[76]⟩:ByteArray)).bind fun t125=>(if t125=true then((strings_IndexByte.f t123 59).bind fun t126=>(if(wrap64 (t126+1))=0 then(some ((⟨#[]⟩:ByteArray),(⟨#[]⟩:ByteArray),false))else(if(wrap64 (t126+1))>(t123.size:Int)then(some ((⟨#[]⟩:ByteArray),(⟨#[]⟩:ByteArray),false))else(if 0≤(wrap64 (t124+(wrap64 (t126+1))))then(if(wrap64 (t124+(wrap64 (t126+1))))≤(a0.size:Int)then((desc_Right.f k (a0.extract 0 ((wrap64 (t124+(wrap64 (t126+1)))):Int).toNat)).bind fun t127=>(some (a0.extract 0 ((wrap64 (t124+(wrap64 (t126+1)))):Int).toNat,a0.extract ((wrap64 (t124+(wrap64 (t126+1)))):Int).toNat a0.size,t127)))else(none))else(none)))))else(if 1=0 then(some ((⟨#[]⟩:ByteArray),(⟨#[]⟩:ByteArray),false))else(if 1>(t123.size:Int)then(some ((⟨#[]⟩:ByteArray),(⟨#[]⟩:ByteArray),false))else(if 0≤(wrap64 (t124+1))then(if(wrap64 (t124+1))≤(a0.size:Int)then((desc_Right.f k (a0.extract 0 ((wrap64 (t124+1)):Int).toNat)).bind fun t128=>(some (a0.extract 0 ((wrap64 (t124+1)):Int).toNat,a0.extract ((wrap64 (t124+1)):Int).toNat a0.size,t128)))else(none))else(none))))))=some (r1,r2,r3):=H
 have A2:=Aside0.mk A20
 clear A20;replace H:=Option.bind_eq_some_iff.mp H;obtain⟨t125,A30,H⟩:=H;replace H:(if t125=true then((strings_IndexByte.f t123 59).bind fun t126=>(if(wrap64 (t126+1))=0 then(some ((⟨#[]⟩:ByteArray),(⟨#[]⟩:ByteArray),false))else(if(wrap64 (t126+1))>(t123.size:Int)then(some ((⟨#[]⟩:ByteArray),(⟨#[]⟩:ByteArray),false))else(if 0≤(wrap64 (t124+(wrap64 (t126+1))))then(if(wrap64 (t124+(wrap64 (t126+1))))≤(a0.size:Int)then((desc_Right.f k (a0.extract 0 ((wrap64 (t124+(wrap64 (t126+1)))):Int).toNat)).bind fun t127=>(some (a0.extract 0 ((wrap64 (t124+(wrap64 (t126+1)))):Int).toNat,a0.extract ((wrap64 (t124+(wrap64 (t126+1)))):Int).toNat a0.size,t127)))else(none))else(none)))))else(if 1=0 then(some ((⟨#[]⟩:ByteArray),(⟨#[]⟩:ByteArray),false))else(if 1>(t123.size:Int)then(some ((⟨#[]⟩:ByteArray),(⟨#[]⟩:ByteArray),false))else(if 0≤(wrap64 (t124+1))then(if(wrap64 (t124+1))≤(a0.size:Int)then((desc_Right.f k (a0.extract 0 ((wrap64 (t124+1)):Int).toNat)).bind fun t128=>(some (a0.extract 0 ((wrap64 (t124+1)):Int).toNat,a0.extract ((wrap64 (t124+1)):Int).toNat a0.size,t128)))else(none))else(none)))))=some (r1,r2,r3):=H
 have A3:=Aside0.mk A30
 clear A30
 by_cases c4:t125=true
 ·subst c4
  have H1:((strings_IndexByte.f t123 59).bind fun t126=>(if(wrap64 (t126+1))=0 then(some ((⟨#[]⟩:ByteArray),(⟨#[]⟩:ByteArray),false))else(if(wrap64 (t126+1))>(t123.size:Int)then(some ((⟨#[]⟩:ByteArray),(⟨#[]⟩:ByteArray),false))else(if 0≤(wrap64 (t124+(wrap64 (t126+1))))then(if(wrap64 (t124+(wrap64 (t126+1))))≤(a0.size:Int)then((desc_Right.f k (a0.extract 0 ((wrap64 (t124+(wrap64 (t126+1)))):Int).toNat)).bind fun t127=>(some (a0.extract 0 ((wrap64 (t124+(wrap64 (t126+1)))):Int).toNat,a0.extract ((wrap64 (t124+(wrap64 (t126+1)))):Int).toNat a0.size,t127)))else(none))else(none)))))=some (r1,r2,r3):=by rw[if_pos rfl]at H;exact H
  clear H
  have H:=H1
  clear H1;replace H:=Option.bind_eq_some_iff.mp H;obtain⟨t126,A50,H⟩:=H;replace H:(if(wrap64 (t126+1))=0 then(some ((⟨#[]⟩:ByteArray),(⟨#[]⟩:ByteArray),false))else(if(wrap64 (t126+1))>(t123.size:Int)then(some ((⟨#[]⟩:ByteArray),(⟨#[]⟩:ByteArray),false))else(if 0≤(wrap64 (t124+(wrap64 (t126+1))))then(if(wrap64 (t124+(wrap64 (t126+1))))≤(a0.size:Int)then((desc_Right.f k (a0.extract 0 ((wrap64 (t124+(wrap64 (t126+1)))):Int).toNat)).bind fun t127=>(some (a0.extract 0 ((wrap64 (t124+(wrap64 (t126+1)))):Int).toNat,a0.extract ((wrap64 (t124+(wrap64 (t126+1)))):Int).toNat a0.size,t127)))else(none))else(none))))=some (r1,r2,r3):=H
  have A5:=Aside0.mk A50
  clear A50
  by_cases c6:(wrap64 (t126+1))=0
  ·rw[if_pos c6]at H
   have c6b0:((wrap64 (t126+1))==0)=true:=beq_iff_eq.mpr c6;have c6b1:((wrap64 (t126+1)) !=0)=false:=bne_eq_false_iff_eq.mpr c6;clear c6;simp only[Option.some.injEq,Prod.mk.injEq]at H;obtain⟨rfl,rfl,rfl⟩:=H
   go_enter Tryd.func51,Tryd.ntmps51
   go_wp2_with (first|(go_at_call 46;(with_reducible refine(desc_bare.calls a0 t123 t124 _ A2.out).mono ?_);rintro e w' ⟨rfl,⟨nd,rfl⟩⟩;(try first|exact⟨rfl,_,World.drewN_drewN _ _ _⟩|exact⟨rfl,_,Eq.trans (World.drewN_drewN _ _ _) (congrArg (World.drewN _) (Nat.add_assoc _ _ _))⟩))|(go_at_call 50;(with_reducible refine(strings_HasPrefix.calls t123 (⟨#[76]⟩:ByteArray) true _ A3.out).mono ?_);rintro e w' ⟨rfl,⟨nd,rfl⟩⟩;(try first|exact⟨rfl,_,World.drewN_drewN _ _ _⟩|exact⟨rfl,_,Eq.trans (World.drewN_drewN _ _ _) (congrArg (World.drewN _) (Nat.add_assoc _ _ _))⟩))|(go_at_call 71;(with_reducible refine(strings_IndexByte.calls t123 59 t126 _ A5.out).mono ?_);rintro e w' ⟨rfl,⟨nd,rfl⟩⟩;(try first|exact⟨rfl,_,World.drewN_drewN _ _ _⟩|exact⟨rfl,_,Eq.trans (World.drewN_drewN _ _ _) (congrArg (World.drewN _) (Nat.add_assoc _ _ _))⟩)))
   repeat (go_quiet (first|(go_at_call 46;(with_reducible refine(desc_bare.calls a0 t123 t124 _ A2.out).mono ?_);rintro e w' ⟨rfl,⟨nd,rfl⟩⟩;(try first|exact⟨rfl,_,World.drewN_drewN _ _ _⟩|exact⟨rfl,_,Eq.trans (World.drewN_drewN _ _ _) (congrArg (World.drewN _) (Nat.add_assoc _ _ _))⟩))|(go_at_call 50;(with_reducible refine(strings_HasPrefix.calls t123 (⟨#[76]⟩:ByteArray) true _ A3.out).mono ?_);rintro e w' ⟨rfl,⟨nd,rfl⟩⟩;(try first|exact⟨rfl,_,World.drewN_drewN _ _ _⟩|exact⟨rfl,_,Eq.trans (World.drewN_drewN _ _ _) (congrArg (World.drewN _) (Nat.add_assoc _ _ _))⟩))|(go_at_call 71;(with_reducible refine(strings_IndexByte.calls t123 59 t126 _ A5.out).mono ?_);rintro e w' ⟨rfl,⟨nd,rfl⟩⟩;(try first|exact⟨rfl,_,World.drewN_drewN _ _ _⟩|exact⟨rfl,_,Eq.trans (World.drewN_drewN _ _ _) (congrArg (World.drewN _) (Nat.add_assoc _ _ _))⟩)));try go_wp2_with (first|(go_at_call 46;(with_reducible refine(desc_bare.calls a0 t123 t124 _ A2.out).mono ?_);rintro e w' ⟨rfl,⟨nd,rfl⟩⟩;(try first|exact⟨rfl,_,World.drewN_drewN _ _ _⟩|exact⟨rfl,_,Eq.trans (World.drewN_drewN _ _ _) (congrArg (World.drewN _) (Nat.add_assoc _ _ _))⟩))|(go_at_call 50;(with_reducible refine(strings_HasPrefix.calls t123 (⟨#[76]⟩:ByteArray) true _ A3.out).mono ?_);rintro e w' ⟨rfl,⟨nd,rfl⟩⟩;(try first|exact⟨rfl,_,World.drewN_drewN _ _ _⟩|exact⟨rfl,_,Eq.trans (World.drewN_drewN _ _ _) (congrArg (World.drewN _) (Nat.add_assoc _ _ _))⟩))|(go_at_call 71;(with_reducible refine(strings_IndexByte.calls t123 59 t126 _ A5.out).mono ?_);rintro e w' ⟨rfl,⟨nd,rfl⟩⟩;(try first|exact⟨rfl,_,World.drewN_drewN _ _ _⟩|exact⟨rfl,_,Eq.trans (World.drewN_drewN _ _ _) (congrArg (World.drewN _) (Nat.add_assoc _ _ _))⟩))))
   all_goals go_ret3
   all_goals exact⟨by first|rfl|(simp;done)|(simp[*];done),by repeat (first|exact Drawn0.refl _|apply Drawn0.step)⟩
  ·rw[if_neg c6]at H
   have c6b0:((wrap64 (t126+1))==0)=false:=beq_eq_false_iff_ne.mpr c6;have c6b1:((wrap64 (t126+1)) !=0)=true:=bne_iff_ne.mpr c6
   by_cases c7:(wrap64 (t126+1))>(t123.size:Int)
   ·rw[if_pos c7]at H
    have c7b0:decide ((t123.size:Int)<(wrap64 (t126+1)))=true:=decide_eq_true c7;clear c7;simp only[Option.some.injEq,Prod.mk.injEq]at H;obtain⟨rfl,rfl,rfl⟩:=H
    go_enter Tryd.func51,Tryd.ntmps51
    go_wp2_with (first|(go_at_call 46;(with_reducible refine(desc_bare.calls a0 t123 t124 _ A2.out).mono ?_);rintro e w' ⟨rfl,⟨nd,rfl⟩⟩;(try first|exact⟨rfl,_,World.drewN_drewN _ _ _⟩|exact⟨rfl,_,Eq.trans (World.drewN_drewN _ _ _) (congrArg (World.drewN _) (Nat.add_assoc _ _ _))⟩))|(go_at_call 50;(with_reducible refine(strings_HasPrefix.calls t123 (⟨#[76]⟩:ByteArray) true _ A3.out).mono ?_);rintro e w' ⟨rfl,⟨nd,rfl⟩⟩;(try first|exact⟨rfl,_,World.drewN_drewN _ _ _⟩|exact⟨rfl,_,Eq.trans (World.drewN_drewN _ _ _) (congrArg (World.drewN _) (Nat.add_assoc _ _ _))⟩))|(go_at_call 71;(with_reducible refine(strings_IndexByte.calls t123 59 t126 _ A5.out).mono ?_);rintro e w' ⟨rfl,⟨nd,rfl⟩⟩;(try first|exact⟨rfl,_,World.drewN_drewN _ _ _⟩|exact⟨rfl,_,Eq.trans (World.drewN_drewN _ _ _) (congrArg (World.drewN _) (Nat.add_assoc _ _ _))⟩)))
    repeat (go_quiet (first|(go_at_call 46;(with_reducible refine(desc_bare.calls a0 t123 t124 _ A2.out).mono ?_);rintro e w' ⟨rfl,⟨nd,rfl⟩⟩;(try first|exact⟨rfl,_,World.drewN_drewN _ _ _⟩|exact⟨rfl,_,Eq.trans (World.drewN_drewN _ _ _) (congrArg (World.drewN _) (Nat.add_assoc _ _ _))⟩))|(go_at_call 50;(with_reducible refine(strings_HasPrefix.calls t123 (⟨#[76]⟩:ByteArray) true _ A3.out).mono ?_);rintro e w' ⟨rfl,⟨nd,rfl⟩⟩;(try first|exact⟨rfl,_,World.drewN_drewN _ _ _⟩|exact⟨rfl,_,Eq.trans (World.drewN_drewN _ _ _) (congrArg (World.drewN _) (Nat.add_assoc _ _ _))⟩))|(go_at_call 71;(with_reducible refine(strings_IndexByte.calls t123 59 t126 _ A5.out).mono ?_);rintro e w' ⟨rfl,⟨nd,rfl⟩⟩;(try first|exact⟨rfl,_,World.drewN_drewN _ _ _⟩|exact⟨rfl,_,Eq.trans (World.drewN_drewN _ _ _) (congrArg (World.drewN _) (Nat.add_assoc _ _ _))⟩)));try go_wp2_with (first|(go_at_call 46;(with_reducible refine(desc_bare.calls a0 t123 t124 _ A2.out).mono ?_);rintro e w' ⟨rfl,⟨nd,rfl⟩⟩;(try first|exact⟨rfl,_,World.drewN_drewN _ _ _⟩|exact⟨rfl,_,Eq.trans (World.drewN_drewN _ _ _) (congrArg (World.drewN _) (Nat.add_assoc _ _ _))⟩))|(go_at_call 50;(with_reducible refine(strings_HasPrefix.calls t123 (⟨#[76]⟩:ByteArray) true _ A3.out).mono ?_);rintro e w' ⟨rfl,⟨nd,rfl⟩⟩;(try first|exact⟨rfl,_,World.drewN_drewN _ _ _⟩|exact⟨rfl,_,Eq.trans (World.drewN_drewN _ _ _) (congrArg (World.drewN _) (Nat.add_assoc _ _ _))⟩))|(go_at_call 71;(with_reducible refine(strings_IndexByte.calls t123 59 t126 _ A5.out).mono ?_);rintro e w' ⟨rfl,⟨nd,rfl⟩⟩;(try first|exact⟨rfl,_,World.drewN_drewN _ _ _⟩|exact⟨rfl,_,Eq.trans (World.drewN_drewN _ _ _) (congrArg (World.drewN _) (Nat.add_assoc _ _ _))⟩))))
    all_goals go_ret3
    all_goals exact⟨by first|rfl|(simp;done)|(simp[*];done),by repeat (first|exact Drawn0.refl _|apply Drawn0.step)⟩
   ·rw[if_neg c7]at H
    have c7b0:decide ((t123.size:Int)<(wrap64 (t126+1)))=false:=decide_eq_false c7;clear c7;obtain⟨ji8,hji8⟩: ∃j_:Int,(wrap64 (t124+(wrap64 (t126+1))))=j_:=⟨_,rfl⟩
    replace H:(if 0≤(ji8)then(if(ji8)≤(a0.size:Int)then((desc_Right.f k (a0.extract 0 ((ji8):Int).toNat)).bind fun t127=>(some (a0.extract 0 ((ji8):Int).toNat,a0.extract ((ji8):Int).toNat a0.size,t127)))else(none))else(none))=some (r1,r2,r3):=by first|(rw[hji8]at H;exact H)|(simp only[hji8]at H ⊢;exact H)
    (try rw[hji8]at A2)
    (try rw[hji8]at A3)
    (try rw[hji8]at A5)
    have hji8w:(IntKind.i64.wrap (t124+(wrap64 (t126+1))))=ji8:=(i64_w _).trans hji8
    by_cases c9:0≤(ji8)
    ·rw[if_pos c9]at H
     have c9b0:=eq_true c9
     have c9b1:decide (0≤(ji8))=true:=decide_eq_true c9;clear c9
     by_cases c10:(ji8)≤(a0.size:Int)
     ·rw[if_pos c10]at H
      have c10b0:=eq_true c10
      have c10b1:decide ((ji8)≤(a0.size:Int))=true:=decide_eq_true c10;clear c10
      have c11b0:=eq_true (of_decide_eq_true (by first|(with_reducible assumption)|assumption):0≤(ji8))
      have c12b0:=eq_true (of_decide_eq_true (by first|(with_reducible assumption)|assumption):(ji8)≤(a0.size:Int))
      replace H:=Option.bind_eq_some_iff.mp H;obtain⟨t127,A130,H⟩:=H;replace H:(some (a0.extract 0 ((ji8):Int).toNat,a0.extract ((ji8):Int).toNat a0.size,t127))=some (r1,r2,r3):=H
      have A13:=Aside0.mk A130
      clear A130;simp only[Option.some.injEq,Prod.mk.injEq]at H;obtain⟨rfl,rfl,rfl⟩:=H
      go_enter Tryd.func51,Tryd.ntmps51
      go_wp2_with (first|(go_at_call 46;(with_reducible refine(desc_bare.calls a0 t123 t124 _ A2.out).mono ?_);rintro e w' ⟨rfl,⟨nd,rfl⟩⟩;(try first|exact⟨rfl,_,World.drewN_drewN _ _ _⟩|exact⟨rfl,_,Eq.trans (World.drewN_drewN _ _ _) (congrArg (World.drewN _) (Nat.add_assoc _ _ _))⟩))|(go_at_call 50;(with_reducible refine(strings_HasPrefix.calls t123 (⟨#[76]⟩:ByteArray) true _ A3.out).mono ?_);rintro e w' ⟨rfl,⟨nd,rfl⟩⟩;(try first|exact⟨rfl,_,World.drewN_drewN _ _ _⟩|exact⟨rfl,_,Eq.trans (World.drewN_drewN _ _ _) (congrArg (World.drewN _) (Nat.add_assoc _ _ _))⟩))|(go_at_call 71;(with_reducible refine(strings_IndexByte.calls t123 59 t126 _ A5.out).mono ?_);rintro e w' ⟨rfl,⟨nd,rfl⟩⟩;(try first|exact⟨rfl,_,World.drewN_drewN _ _ _⟩|exact⟨rfl,_,Eq.trans (World.drewN_drewN _ _ _) (congrArg (World.drewN _) (Nat.add_assoc _ _ _))⟩))|(go_at_call 25;(with_reducible refine(desc_Right.calls k (a0.extract 0 ((ji8):Int).toNat) t127 _ A13.out).mono ?_);rintro e w' ⟨rfl,⟨nd,rfl⟩⟩;(try first|exact⟨rfl,_,World.drewN_drewN _ _ _⟩|exact⟨rfl,_,Eq.trans (World.drewN_drewN _ _ _) (congrArg (World.drewN _) (Nat.add_assoc _ _ _))⟩)))
      repeat (go_quiet (first|(go_at_call 46;(with_reducible refine(desc_bare.calls a0 t123 t124 _ A2.out).mono ?_);rintro e w' ⟨rfl,⟨nd,rfl⟩⟩;(try first|exact⟨rfl,_,World.drewN_drewN _ _ _⟩|exact⟨rfl,_,Eq.trans (World.drewN_drewN _ _ _) (congrArg (World.drewN _) (Nat.add_assoc _ _ _))⟩))|(go_at_call 50;(with_reducible refine(strings_HasPrefix.calls t123 (⟨#[76]⟩:ByteArray) true _ A3.out).mono ?_);rintro e w' ⟨rfl,⟨nd,rfl⟩⟩;(try first|exact⟨rfl,_,World.drewN_drewN _ _ _⟩|exact⟨rfl,_,Eq.trans (World.drewN_drewN _ _ _) (congrArg (World.drewN _) (Nat.add_assoc _ _ _))⟩))|(go_at_call 71;(with_reducible refine(strings_IndexByte.calls t123 59 t126 _ A5.out).mono ?_);rintro e w' ⟨rfl,⟨nd,rfl⟩⟩;(try first|exact⟨rfl,_,World.drewN_drewN _ _ _⟩|exact⟨rfl,_,Eq.trans (World.drewN_drewN _ _ _) (congrArg (World.drewN _) (Nat.add_assoc _ _ _))⟩))|(go_at_call 25;(with_reducible refine(desc_Right.calls k (a0.extract 0 ((ji8):Int).toNat) t127 _ A13.out).mono ?_);rintro e w' ⟨rfl,⟨nd,rfl⟩⟩;(try first|exact⟨rfl,_,World.drewN_drewN _ _ _⟩|exact⟨rfl,_,Eq.trans (World.drewN_drewN _ _ _) (congrArg (World.drewN _) (Nat.add_assoc _ _ _))⟩)));try go_wp2_with (first|(go_at_call 46;(with_reducible refine(desc_bare.calls a0 t123 t124 _ A2.out).mono ?_);rintro e w' ⟨rfl,⟨nd,rfl⟩⟩;(try first|exact⟨rfl,_,World.drewN_drewN _ _ _⟩|exact⟨rfl,_,Eq.trans (World.drewN_drewN _ _ _) (congrArg (World.drewN _) (Nat.add_assoc _ _ _))⟩))|(go_at_call 50;(with_reducible refine(strings_HasPrefix.calls t123 (⟨#[76]⟩:ByteArray) true _ A3.out).mono ?_);rintro e w' ⟨rfl,⟨nd,rfl⟩⟩;(try first|exact⟨rfl,_,World.drewN_drewN _ _ _⟩|exact⟨rfl,_,Eq.trans (World.drewN_drewN _ _ _) (congrArg (World.drewN _) (Nat.add_assoc _ _ _))⟩))|(go_at_call 71;(with_reducible refine(strings_IndexByte.calls t123 59 t126 _ A5.out).mono ?_);rintro e w' ⟨rfl,⟨nd,rfl⟩⟩;(try first|exact⟨rfl,_,World.drewN_drewN _ _ _⟩|exact⟨rfl,_,Eq.trans (World.drewN_drewN _ _ _) (congrArg (World.drewN _) (Nat.add_assoc _ _ _))⟩))|(go_at_call 25;(with_reducible refine(desc_Right.calls k (a0.extract 0 ((ji8):Int).toNat) t127 _ A13.out).mono ?_);rintro e w' ⟨rfl,⟨nd,rfl⟩⟩;(try first|exact⟨rfl,_,World.drewN_drewN _ _ _⟩|exact⟨rfl,_,Eq.trans (World.drewN_drewN _ _ _) (congrArg (World.drewN _) (Nat.add_assoc _ _ _))⟩))))
      all_goals go_ret3
      all_goals exact⟨by first|rfl|(simp;done)|(simp only[←hji8]<;>(first|rfl|simp))|(simp[*];done),by repeat (first|exact Drawn0.refl _|apply Drawn0.step)⟩
     ·rw[if_neg c10]at H
      exact absurd H (by simp)
    ·rw[if_neg c9]at H
     exact absurd H (by simp)
 ·replace c4:=Bool.eq_false_iff.mpr c4
  subst c4
  have H1:(if 1=0 then(some ((⟨#[]⟩:ByteArray),(⟨#[]⟩:ByteArray),false))else(if 1>(t123.size:Int)then(some ((⟨#[]⟩:ByteArray),(⟨#[]⟩:ByteArray),false))else(if 0≤(wrap64 (t124+1))then(if(wrap64 (t124+1))≤(a0.size:Int)then((desc_Right.f k (a0.extract 0 ((wrap64 (t124+1)):Int).toNat)).bind fun t128=>(some (a0.extract 0 ((wrap64 (t124+1)):Int).toNat,a0.extract ((wrap64 (t124+1)):Int).toNat a0.size,t128)))else(none))else(none))))=some (r1,r2,r3):=by rw[if_neg (show¬(false=true) by decide)]at H;exact H
  clear H
  have H:=H1
  clear H1
  by_cases c14:1=0
  ·rw[if_pos c14]at H
   have c14b0:(1==0)=true:=beq_iff_eq.mpr c14;have c14b1:(1 !=0)=false:=bne_eq_false_iff_eq.mpr c14;clear c14;simp only[Option.some.injEq,Prod.mk.injEq]at H;obtain⟨rfl,rfl,rfl⟩:=H
   go_enter Tryd.func51,Tryd.ntmps51
   go_wp2_with (first|(go_at_call 46;(with_reducible refine(desc_bare.calls a0 t123 t124 _ A2.out).mono ?_);rintro e w' ⟨rfl,⟨nd,rfl⟩⟩;(try first|exact⟨rfl,_,World.drewN_drewN _ _ _⟩|exact⟨rfl,_,Eq.trans (World.drewN_drewN _ _ _) (congrArg (World.drewN _) (Nat.add_assoc _ _ _))⟩))|(go_at_call 50;(with_reducible refine(strings_HasPrefix.calls t123 (⟨#[76]⟩:ByteArray) false _ A3.out).mono ?_);rintro e w' ⟨rfl,⟨nd,rfl⟩⟩;(try first|exact⟨rfl,_,World.drewN_drewN _ _ _⟩|exact⟨rfl,_,Eq.trans (World.drewN_drewN _ _ _) (congrArg (World.drewN _) (Nat.add_assoc _ _ _))⟩)))
   repeat (go_quiet (first|(go_at_call 46;(with_reducible refine(desc_bare.calls a0 t123 t124 _ A2.out).mono ?_);rintro e w' ⟨rfl,⟨nd,rfl⟩⟩;(try first|exact⟨rfl,_,World.drewN_drewN _ _ _⟩|exact⟨rfl,_,Eq.trans (World.drewN_drewN _ _ _) (congrArg (World.drewN _) (Nat.add_assoc _ _ _))⟩))|(go_at_call 50;(with_reducible refine(strings_HasPrefix.calls t123 (⟨#[76]⟩:ByteArray) false _ A3.out).mono ?_);rintro e w' ⟨rfl,⟨nd,rfl⟩⟩;(try first|exact⟨rfl,_,World.drewN_drewN _ _ _⟩|exact⟨rfl,_,Eq.trans (World.drewN_drewN _ _ _) (congrArg (World.drewN _) (Nat.add_assoc _ _ _))⟩)));try go_wp2_with (first|(go_at_call 46;(with_reducible refine(desc_bare.calls a0 t123 t124 _ A2.out).mono ?_);rintro e w' ⟨rfl,⟨nd,rfl⟩⟩;(try first|exact⟨rfl,_,World.drewN_drewN _ _ _⟩|exact⟨rfl,_,Eq.trans (World.drewN_drewN _ _ _) (congrArg (World.drewN _) (Nat.add_assoc _ _ _))⟩))|(go_at_call 50;(with_reducible refine(strings_HasPrefix.calls t123 (⟨#[76]⟩:ByteArray) false _ A3.out).mono ?_);rintro e w' ⟨rfl,⟨nd,rfl⟩⟩;(try first|exact⟨rfl,_,World.drewN_drewN _ _ _⟩|exact⟨rfl,_,Eq.trans (World.drewN_drewN _ _ _) (congrArg (World.drewN _) (Nat.add_assoc _ _ _))⟩))))
   all_goals go_ret3
   all_goals exact⟨by first|rfl|(simp;done)|(simp[*];done),by repeat (first|exact Drawn0.refl _|apply Drawn0.step)⟩
  ·rw[if_neg c14]at H
   have c14b0:(1==0)=false:=beq_eq_false_iff_ne.mpr c14;have c14b1:(1 !=0)=true:=bne_iff_ne.mpr c14
   by_cases c15:1>(t123.size:Int)
   ·rw[if_pos c15]at H
    have c15b0:decide ((t123.size:Int)<1)=true:=decide_eq_true c15;have c15b1:decide (t123.size<1)=true:=decide_eq_true (by omega);clear c15;simp only[Option.some.injEq,Prod.mk.injEq]at H;obtain⟨rfl,rfl,rfl⟩:=H
    go_enter Tryd.func51,Tryd.ntmps51
    go_wp2_with (first|(go_at_call 46;(with_reducible refine(desc_bare.calls a0 t123 t124 _ A2.out).mono ?_);rintro e w' ⟨rfl,⟨nd,rfl⟩⟩;(try first|exact⟨rfl,_,World.drewN_drewN _ _ _⟩|exact⟨rfl,_,Eq.trans (World.drewN_drewN _ _ _) (congrArg (World.drewN _) (Nat.add_assoc _ _ _))⟩))|(go_at_call 50;(with_reducible refine(strings_HasPrefix.calls t123 (⟨#[76]⟩:ByteArray) false _ A3.out).mono ?_);rintro e w' ⟨rfl,⟨nd,rfl⟩⟩;(try first|exact⟨rfl,_,World.drewN_drewN _ _ _⟩|exact⟨rfl,_,Eq.trans (World.drewN_drewN _ _ _) (congrArg (World.drewN _) (Nat.add_assoc _ _ _))⟩)))
    repeat (go_quiet (first|(go_at_call 46;(with_reducible refine(desc_bare.calls a0 t123 t124 _ A2.out).mono ?_);rintro e w' ⟨rfl,⟨nd,rfl⟩⟩;(try first|exact⟨rfl,_,World.drewN_drewN _ _ _⟩|exact⟨rfl,_,Eq.trans (World.drewN_drewN _ _ _) (congrArg (World.drewN _) (Nat.add_assoc _ _ _))⟩))|(go_at_call 50;(with_reducible refine(strings_HasPrefix.calls t123 (⟨#[76]⟩:ByteArray) false _ A3.out).mono ?_);rintro e w' ⟨rfl,⟨nd,rfl⟩⟩;(try first|exact⟨rfl,_,World.drewN_drewN _ _ _⟩|exact⟨rfl,_,Eq.trans (World.drewN_drewN _ _ _) (congrArg (World.drewN _) (Nat.add_assoc _ _ _))⟩)));try go_wp2_with (first|(go_at_call 46;(with_reducible refine(desc_bare.calls a0 t123 t124 _ A2.out).mono ?_);rintro e w' ⟨rfl,⟨nd,rfl⟩⟩;(try first|exact⟨rfl,_,World.drewN_drewN _ _ _⟩|exact⟨rfl,_,Eq.trans (World.drewN_drewN _ _ _) (congrArg (World.drewN _) (Nat.add_assoc _ _ _))⟩))|(go_at_call 50;(with_reducible refine(strings_HasPrefix.calls t123 (⟨#[76]⟩:ByteArray) false _ A3.out).mono ?_);rintro e w' ⟨rfl,⟨nd,rfl⟩⟩;(try first|exact⟨rfl,_,World.drewN_drewN _ _ _⟩|exact⟨rfl,_,Eq.trans (World.drewN_drewN _ _ _) (congrArg (World.drewN _) (Nat.add_assoc _ _ _))⟩))))
    all_goals go_ret3
    all_goals exact⟨by first|rfl|(simp;done)|(simp[*];done),by repeat (first|exact Drawn0.refl _|apply Drawn0.step)⟩
   ·rw[if_neg c15]at H
    have c15b0:decide ((t123.size:Int)<1)=false:=decide_eq_false c15;have c15b1:decide (t123.size<1)=false:=decide_eq_false (by omega);clear c15;obtain⟨ji16,hji16⟩: ∃j_:Int,(wrap64 (t124+1))=j_:=⟨_,rfl⟩
    replace H:(if 0≤(ji16)then(if(ji16)≤(a0.size:Int)then((desc_Right.f k (a0.extract 0 ((ji16):Int).toNat)).bind fun t128=>(some (a0.extract 0 ((ji16):Int).toNat,a0.extract ((ji16):Int).toNat a0.size,t128)))else(none))else(none))=some (r1,r2,r3):=by first|(rw[hji16]at H;exact H)|(simp only[hji16]at H ⊢;exact H)
    (try rw[hji16]at A2)
    (try rw[hji16]at A3)
    have hji16w:(IntKind.i64.wrap (t124+1))=ji16:=(i64_w _).trans hji16
    by_cases c17:0≤(ji16)
    ·rw[if_pos c17]at H
     have c17b0:=eq_true c17
     have c17b1:decide (0≤(ji16))=true:=decide_eq_true c17;clear c17
     by_cases c18:(ji16)≤(a0.size:Int)
     ·rw[if_pos c18]at H
      have c18b0:=eq_true c18
      have c18b1:decide ((ji16)≤(a0.size:Int))=true:=decide_eq_true c18;clear c18
      have c19b0:=eq_true (of_decide_eq_true (by first|(with_reducible assumption)|assumption):0≤(ji16))
      have c20b0:=eq_true (of_decide_eq_true (by first|(with_reducible assumption)|assumption):(ji16)≤(a0.size:Int))
      replace H:=Option.bind_eq_some_iff.mp H;obtain⟨t128,A210,H⟩:=H;replace H:(some (a0.extract 0 ((ji16):Int).toNat,a0.extract ((ji16):Int).toNat a0.size,t128))=some (r1,r2,r3):=H
      have A21:=Aside0.mk A210
      clear A210;simp only[Option.some.injEq,Prod.mk.injEq]at H;obtain⟨rfl,rfl,rfl⟩:=H
      go_enter Tryd.func51,Tryd.ntmps51
      go_wp2_with (first|(go_at_call 46;(with_reducible refine(desc_bare.calls a0 t123 t124 _ A2.out).mono ?_);rintro e w' ⟨rfl,⟨nd,rfl⟩⟩;(try first|exact⟨rfl,_,World.drewN_drewN _ _ _⟩|exact⟨rfl,_,Eq.trans (World.drewN_drewN _ _ _) (congrArg (World.drewN _) (Nat.add_assoc _ _ _))⟩))|(go_at_call 50;(with_reducible refine(strings_HasPrefix.calls t123 (⟨#[76]⟩:ByteArray) false _ A3.out).mono ?_);rintro e w' ⟨rfl,⟨nd,rfl⟩⟩;(try first|exact⟨rfl,_,World.drewN_drewN _ _ _⟩|exact⟨rfl,_,Eq.trans (World.drewN_drewN _ _ _) (congrArg (World.drewN _) (Nat.add_assoc _ _ _))⟩))|(go_at_call 25;(with_reducible refine(desc_Right.calls k (a0.extract 0 ((ji16):Int).toNat) t128 _ A21.out).mono ?_);rintro e w' ⟨rfl,⟨nd,rfl⟩⟩;(try first|exact⟨rfl,_,World.drewN_drewN _ _ _⟩|exact⟨rfl,_,Eq.trans (World.drewN_drewN _ _ _) (congrArg (World.drewN _) (Nat.add_assoc _ _ _))⟩)))
      repeat (go_quiet (first|(go_at_call 46;(with_reducible refine(desc_bare.calls a0 t123 t124 _ A2.out).mono ?_);rintro e w' ⟨rfl,⟨nd,rfl⟩⟩;(try first|exact⟨rfl,_,World.drewN_drewN _ _ _⟩|exact⟨rfl,_,Eq.trans (World.drewN_drewN _ _ _) (congrArg (World.drewN _) (Nat.add_assoc _ _ _))⟩))|(go_at_call 50;(with_reducible refine(strings_HasPrefix.calls t123 (⟨#[76]⟩:ByteArray) false _ A3.out).mono ?_);rintro e w' ⟨rfl,⟨nd,rfl⟩⟩;(try first|exact⟨rfl,_,World.drewN_drewN _ _ _⟩|exact⟨rfl,_,Eq.trans (World.drewN_drewN _ _ _) (congrArg (World.drewN _) (Nat.add_assoc _ _ _))⟩))|(go_at_call 25;(with_reducible refine(desc_Right.calls k (a0.extract 0 ((ji16):Int).toNat) t128 _ A21.out).mono ?_);rintro e w' ⟨rfl,⟨nd,rfl⟩⟩;(try first|exact⟨rfl,_,World.drewN_drewN _ _ _⟩|exact⟨rfl,_,Eq.trans (World.drewN_drewN _ _ _) (congrArg (World.drewN _) (Nat.add_assoc _ _ _))⟩)));try go_wp2_with (first|(go_at_call 46;(with_reducible refine(desc_bare.calls a0 t123 t124 _ A2.out).mono ?_);rintro e w' ⟨rfl,⟨nd,rfl⟩⟩;(try first|exact⟨rfl,_,World.drewN_drewN _ _ _⟩|exact⟨rfl,_,Eq.trans (World.drewN_drewN _ _ _) (congrArg (World.drewN _) (Nat.add_assoc _ _ _))⟩))|(go_at_call 50;(with_reducible refine(strings_HasPrefix.calls t123 (⟨#[76]⟩:ByteArray) false _ A3.out).mono ?_);rintro e w' ⟨rfl,⟨nd,rfl⟩⟩;(try first|exact⟨rfl,_,World.drewN_drewN _ _ _⟩|exact⟨rfl,_,Eq.trans (World.drewN_drewN _ _ _) (congrArg (World.drewN _) (Nat.add_assoc _ _ _))⟩))|(go_at_call 25;(with_reducible refine(desc_Right.calls k (a0.extract 0 ((ji16):Int).toNat) t128 _ A21.out).mono ?_);rintro e w' ⟨rfl,⟨nd,rfl⟩⟩;(try first|exact⟨rfl,_,World.drewN_drewN _ _ _⟩|exact⟨rfl,_,Eq.trans (World.drewN_drewN _ _ _) (congrArg (World.drewN _) (Nat.add_assoc _ _ _))⟩))))
      all_goals go_ret3
      all_goals exact⟨by first|rfl|(simp;done)|(simp only[←hji16]<;>(first|rfl|simp))|(simp[*];done),by repeat (first|exact Drawn0.refl _|apply Drawn0.step)⟩
     ·rw[if_neg c18]at H
      exact absurd H (by simp)
    ·rw[if_neg c17]at H
     exact absurd H (by simp)
end Go.Proofs.YthnajefdiljneaaDoor.Q
end
section
-- SQUEEZED
-- Written by the program wip/tools/mp.py of this work, which drives the print of the kit; hand texts of this session among it.
namespace Go.Proofs.YthnajefdiljneaaDoor.Q
open Go.RowKit Go.Proofs.HW Go.Proofs.YthnajefdiljneaaDoorW.PrintWords Go.Proofs.YthnajefdiljneaaDoorW.PrintLast
set_option linter.unusedVariables false
set_option linter.unusedSimpArgs false
-- HANDTEXT
def strings_Join.f(l0:List ByteArray)(a1:ByteArray):Option (ByteArray):=
 if l0.length≤140737488355328∧(Lib.join (l0.map (·.data.toList)) a1.data.toList).length≤140737488355328 then some (⟨(Lib.join (l0.map (·.data.toList)) a1.data.toList).toArray⟩:ByteArray)else none
theorem strings_Join.calls(A0:Option Addr)(c0:Nat)(l0:List ByteArray)(a1:ByteArray)(r:ByteArray)(w:World)(hr0:Kd.C Kd.string w A0 l0.length l0)(hc0:l0.length≤c0)(h:strings_Join.f l0 a1=some r):
  Calls Tryd.prog 72 #[.slice A0 l0.length c0, .string a1] w fun e w'=>e= .returned (.string r)∧Below w.heap.size w w':=by
 unfold strings_Join.f at h;split at h
 ·rename_i hb
  obtain rfl:=Option.some.inj h
  rcases Nat.eq_zero_or_pos l0.length with h0|h0
  ·obtain rfl:l0= []:=List.eq_nil_of_length_eq_zero h0
   exact(Tryd.strings_Join_none A0 c0 a1 w).mono fun e w' ⟨he,hw⟩=>⟨by rw[he];simp[Lib.join_nil],hw▸Below.refl _ _⟩
  ·obtain⟨b,o,rfl,hbk,hcell⟩:=HW.cells_of_C hr0 h0
   exact Tryd.strings_Join b o c0 l0 a1 w hcell hbk hb.1 hc0 hb.2
 ·cases h
end Go.Proofs.YthnajefdiljneaaDoor.Q
end
section
-- SQUEEZED
-- Written by the program wip/tools/mp.py of this work, which drives the print of the kit; hand texts of this session among it.
namespace Go.Proofs.YthnajefdiljneaaDoor.Q
open Go.RowKit Go.Proofs.HW Go.Proofs.YthnajefdiljneaaDoorW.PrintWords Go.Proofs.YthnajefdiljneaaDoorW.PrintLast
set_option linter.unusedVariables false
set_option linter.unusedSimpArgs false
attribute [local go_sem high] eqA24
def desc_Sig.l0:Nat→ByteArray→List ByteArray→List ByteArray→Int→Int→Option (ByteArray×Int)
 |0,_,_,_,_,_=>none
 |k+1,x0,x1,x11,x12,x13=>if x13<x12 then(if 0≤x13 then(if x13<(x11.length:Int)then((desc_Right.f k (rdOf ByteArray.empty x11 x13)).bind fun t130=>(if t130=true then(desc_Sig.l0 k x0 x1 x11 x12 (wrap64 (x13+1)))else(some ((⟨#[]⟩:ByteArray),10))))else(none))else(none))else(if x0.toList=([86]:List UInt8)then((strings_Join.f x1 (⟨#[]⟩:ByteArray)).bind fun t131=>(if 1+t131.size≤9223372036854775807 then(if((⟨#[40]⟩:ByteArray)++t131).size+1≤9223372036854775807 then(if(((⟨#[40]⟩:ByteArray)++t131)++(⟨#[41]⟩:ByteArray)).size+x0.size≤9223372036854775807 then(some ((((⟨#[40]⟩:ByteArray)++t131)++(⟨#[41]⟩:ByteArray))++x0,0))else(none))else(none))else(none)))else((desc_Right.f k x0).bind fun t132=>(if t132=true then((strings_Join.f x1 (⟨#[]⟩:ByteArray)).bind fun t133=>(if 1+t133.size≤9223372036854775807 then(if((⟨#[40]⟩:ByteArray)++t133).size+1≤9223372036854775807 then(if(((⟨#[40]⟩:ByteArray)++t133)++(⟨#[41]⟩:ByteArray)).size+x0.size≤9223372036854775807 then(some ((((⟨#[40]⟩:ByteArray)++t133)++(⟨#[41]⟩:ByteArray))++x0,0))else(none))else(none))else(none)))else(some ((⟨#[]⟩:ByteArray),10)))))
def desc_Sig.f(k:Nat)(a0:ByteArray)(l1:List ByteArray):Option (ByteArray×Int):=if(l1.length:Int)>6 then(some ((⟨#[]⟩:ByteArray),2))else(desc_Sig.l0 k a0 l1 l1 (l1.length:Int) 0)
set_option maxHeartbeats 8000000 in
set_option maxRecDepth 100000 in
theorem desc_Sig.calls(k:Nat)(a0:ByteArray)(A1:Option Addr)(c1:Nat)(l1:List ByteArray)(r1:ByteArray)(r2:Int)(w:World)(hr1:Kd.C Kd.string w A1 l1.length l1)(hc1:l1.length≤c1)(h:desc_Sig.f k a0 l1=some (r1,r2)):
  Calls Tryd.prog 52 #[.string a0, .slice A1 l1.length c1] w fun e w'=>e= .returned (.tuple #[.string r1, .int .i64 r2])∧Below w.heap.size w w':=by
 have HR1:=Aside0.mk hr1
 have HC1:=Aside0.mk hc1
 clear hr1 hc1
 have HB:=Aside0.mk (Below.refl w.heap.size w)
 have H:(if(l1.length:Int)>6 then(some ((⟨#[]⟩:ByteArray),2))else(desc_Sig.l0 k a0 l1 l1 (l1.length:Int) 0))=some (r1,r2):=h;clear h
 by_cases c3:(l1.length:Int)>6
 ·rw[if_pos c3]at H
  have c3b0:decide (6<(l1.length:Int))=true:=decide_eq_true c3;have c3b1:decide (6<l1.length)=true:=decide_eq_true (by omega);clear c3;simp only[Option.some.injEq,Prod.mk.injEq]at H;obtain⟨rfl,rfl⟩:=H
  go_enter Tryd.func52,Tryd.ntmps52
  go_wp2
  all_goals go_ret2
  all_goals exact⟨by first|rfl|(simp[errW_none,errW_some]<;>rfl)|(simp[*,errW_none,errW_some]<;>rfl),by repeat (first|(with_reducible first|exact HB.out|apply below_alloc|apply pw_below_drewN|apply below_drew1)|exact HB.out)⟩
 ·rw[if_neg c3]at H
  have c3b0:decide (6<(l1.length:Int))=false:=decide_eq_false c3;have c3b1:decide (6<l1.length)=false:=decide_eq_false (by omega);clear c3;have H':=Aside0.mk H;clear H
  go_enter Tryd.func52,Tryd.ntmps52
  go_wp2
  go_loopg [13] k (fun kq v13 w'=> ∃(x13_1:Int),v13= .int .i64 x13_1∧Aside0 (desc_Sig.l0 kq a0 l1 l1 (l1.length:Int) x13_1=some (r1,r2))∧Aside0 (kq≤k)∧Aside0 (Below w.heap.size w w'))
  case atStart=>exact⟨(0),(by first|rfl|(simp;done)|(simp[*];done)),H',⟨Nat.le_refl _⟩,⟨by repeat (first|(with_reducible first|exact HB.out|apply below_alloc|apply pw_below_drewN|apply below_drew1)|exact HB.out)⟩⟩
  case round=>
   clear H';(try clear c1);(try clear p2);(try clear c3);(try clear c3b0);(try clear c3b1);obtain⟨x13_1,rfl,HA,HK1,HB⟩:=hrel
   cases gk with
   |zero=>exact absurd HA.out (by simp[desc_Sig.l0])
   |succ k1=>
    have H:=HA.out
    clear HA;simp only[desc_Sig.l0]at H
    by_cases c4:x13_1<(l1.length:Int)
    ·rw[if_pos c4]at H
     have c4b0:decide (x13_1<(l1.length:Int))=true:=decide_eq_true c4;clear c4
     by_cases c5:0≤x13_1
     ·rw[if_pos c5]at H
      have c5b0:decide (0≤x13_1)=true:=decide_eq_true c5;clear c5
      by_cases c6:x13_1<(l1.length:Int)
      ·rw[if_pos c6]at H
       have c6b0:decide (x13_1<(l1.length:Int))=true:=decide_eq_true c6;clear c6;replace H:=Option.bind_eq_some_iff.mp H;obtain⟨t130,A70,H⟩:=H;replace H:(if t130=true then(desc_Sig.l0 k1 a0 l1 l1 (l1.length:Int) (wrap64 (x13_1+1)))else(some ((⟨#[]⟩:ByteArray),10)))=some (r1,r2):=H
       have A7:=Aside0.mk A70
       clear A70
       by_cases c8:t130=true
       ·subst c8
        have H1:(desc_Sig.l0 k1 a0 l1 l1 (l1.length:Int) (wrap64 (x13_1+1)))=some (r1,r2):=by rw[if_pos rfl]at H;exact H
        clear H
        have H:=H1
        clear H1;have H':=Aside0.mk H;clear H;have p129:0≤(x13_1:Int):=of_decide_eq_true (by first|(with_reducible assumption)|assumption);have q129:x13_1<(l1.length:Int):=of_decide_eq_true (by first|(with_reducible assumption)|assumption);obtain⟨ad129,e129,hx129_0⟩:=Kd.at_string HR1.out x13_1 p129 q129;cases e129;replace hx129_0:=(HB.out.cell (World.block_lt_of_cell? w _ hx129_0)).trans hx129_0;replace p129:=eq_true p129;replace q129:=eq_true q129
        go_wp2_with (first|((with_reducible refine gate_callee (f:=25) rfl ?_);refine goesL_ (some 18) rfl rfl Tryd.func25 (by kernel_rfl) rfl #[.string (rdOf ByteArray.empty l1 x13_1)] rfl (by(try simp only[List.map_toArray,List.map_cons,List.map_nil]);first|done|rfl|(simp only[List.length_drop,List.length_take];rfl)) ?_;(with_reducible refine(desc_Right.calls k1 (rdOf ByteArray.empty l1 x13_1) true _ A7.out).mono ?_);rintro e w' ⟨rfl,⟨nd,rfl⟩⟩;refine⟨_,rfl,?_⟩))
        go_roundg k1
        case measure=>have:=HK1.out;omega
        case rel=>exact⟨(wrap64 (x13_1+1)),(by first|rfl|(simp;done)|(simp[*];done)),H',⟨by have:=HK1.out;omega⟩,⟨by repeat (first|(with_reducible first|exact HB.out|apply below_alloc|apply pw_below_drewN|apply below_drew1)|exact HB.out)⟩⟩
       ·replace c8:=Bool.eq_false_iff.mpr c8
        subst c8
        have H1:(some ((⟨#[]⟩:ByteArray),10))=some (r1,r2):=by rw[if_neg (show¬(false=true) by decide)]at H;exact H
        clear H
        have H:=H1
        clear H1;simp only[Option.some.injEq,Prod.mk.injEq]at H;obtain⟨rfl,rfl⟩:=H;have p129:0≤(x13_1:Int):=of_decide_eq_true (by first|(with_reducible assumption)|assumption);have q129:x13_1<(l1.length:Int):=of_decide_eq_true (by first|(with_reducible assumption)|assumption);obtain⟨ad129,e129,hx129_0⟩:=Kd.at_string HR1.out x13_1 p129 q129;cases e129;replace hx129_0:=(HB.out.cell (World.block_lt_of_cell? w _ hx129_0)).trans hx129_0;replace p129:=eq_true p129;replace q129:=eq_true q129
        go_wp2_with (first|((with_reducible refine gate_callee (f:=25) rfl ?_);refine goesL_ (some 18) rfl rfl Tryd.func25 (by kernel_rfl) rfl #[.string (rdOf ByteArray.empty l1 x13_1)] rfl (by(try simp only[List.map_toArray,List.map_cons,List.map_nil]);first|done|rfl|(simp only[List.length_drop,List.length_take];rfl)) ?_;(with_reducible refine(desc_Right.calls k1 (rdOf ByteArray.empty l1 x13_1) false _ A7.out).mono ?_);rintro e w' ⟨rfl,⟨nd,rfl⟩⟩;refine⟨_,rfl,?_⟩))
        all_goals go_ret2
        all_goals exact⟨by first|rfl|(simp[errW_none,errW_some]<;>rfl)|(simp[*,errW_none,errW_some]<;>rfl),by repeat (first|(with_reducible first|exact HB.out|apply below_alloc|apply pw_below_drewN|apply below_drew1)|exact HB.out)⟩
      ·rw[if_neg c6]at H
       exact absurd H (by simp)
     ·rw[if_neg c5]at H
      exact absurd H (by simp)
    ·rw[if_neg c4]at H
     have c4b0:decide (x13_1<(l1.length:Int))=false:=decide_eq_false c4;clear c4
     by_cases c9:a0.toList=([86]:List UInt8)
     ·rw[if_pos c9]at H
      have c9b0:(a0.toList==([86]:List UInt8))=true:=beq_iff_eq.mpr c9;have c9b1:(a0.toList !=([86]:List UInt8))=false:=bne_eq_false_iff_eq.mpr c9;clear c9;replace H:=Option.bind_eq_some_iff.mp H;obtain⟨t131,A100,H⟩:=H;replace H:(if 1+t131.size≤9223372036854775807 then(if((⟨#[40]⟩:ByteArray)++t131).size+1≤9223372036854775807 then(if(((⟨#[40]⟩:ByteArray)++t131)++(⟨#[41]⟩:ByteArray)).size+a0.size≤9223372036854775807 then(some ((((⟨#[40]⟩:ByteArray)++t131)++(⟨#[41]⟩:ByteArray))++a0,0))else(none))else(none))else(none))=some (r1,r2):=H
      have A10:=Aside0.mk A100
      clear A100
      by_cases c11:1+t131.size≤9223372036854775807
      ·rw[if_pos c11]at H
       have c11b0:=eq_true c11
       have c11b1:decide (1+t131.size≤9223372036854775807)=true:=decide_eq_true c11
       try have c11b2:(9223372036854775807<1+t131.size)=False:=eq_false (Nat.not_lt.2 c11)
       by_cases c12:((⟨#[40]⟩:ByteArray)++t131).size+1≤9223372036854775807
       ·rw[if_pos c12]at H
        have c12b0:=eq_true c12
        have c12b1:decide (((⟨#[40]⟩:ByteArray)++t131).size+1≤9223372036854775807)=true:=decide_eq_true c12
        try have c12b2:(9223372036854775807<((⟨#[40]⟩:ByteArray)++t131).size+1)=False:=eq_false (Nat.not_lt.2 c12)
        try have c12bx:(9223372036854775807<1+t131.size+1)=False:=eq_false (Nat.not_lt.2 (by have h_:=c12;simp only[ByteArray.size_append]at h_;exact h_))
        by_cases c13:(((⟨#[40]⟩:ByteArray)++t131)++(⟨#[41]⟩:ByteArray)).size+a0.size≤9223372036854775807
        ·rw[if_pos c13]at H
         have c13b0:=eq_true c13
         have c13b1:decide ((((⟨#[40]⟩:ByteArray)++t131)++(⟨#[41]⟩:ByteArray)).size+a0.size≤9223372036854775807)=true:=decide_eq_true c13
         try have c13b2:(9223372036854775807<(((⟨#[40]⟩:ByteArray)++t131)++(⟨#[41]⟩:ByteArray)).size+a0.size)=False:=eq_false (Nat.not_lt.2 c13)
         try have c13bx:(9223372036854775807<1+t131.size+1+a0.size)=False:=eq_false (Nat.not_lt.2 (by have h_:=c13;simp only[ByteArray.size_append]at h_;exact h_))
         simp only[Option.some.injEq,Prod.mk.injEq]at H;obtain⟨rfl,rfl⟩:=H
         go_wp2_with (first|((with_reducible refine gate_callee (f:=72) rfl ?_);refine goesL_ (some 29) rfl rfl Tryd.func72 (by kernel_rfl) rfl #[.slice A1 l1.length c1, .string (⟨#[]⟩:ByteArray)] rfl (by(try simp only[List.map_toArray,List.map_cons,List.map_nil]);first|done|rfl|(simp only[List.length_drop,List.length_take];rfl)) ?_;(with_reducible refine(strings_Join.calls _ _ l1 (⟨#[]⟩:ByteArray) t131 _ ?side1 ?side2 A10.out).mono ?_);(case side1=>repeat (first|exact(Kd.C_below HR1.out HB.out)|(with_reducible refine Kd.C_alloc ?_ _)|(with_reducible refine Kd.C_drewN ?_ _)|(with_reducible refine Kd.C_drew ?_)));(case side2=>exact HC1.out);rintro e w14 ⟨rfl,hb⟩;refine⟨_,rfl,?_⟩;have n0_:=Aside0.mk (below_step (by repeat (first|(with_reducible first|exact HB.out|apply below_alloc|apply pw_below_drewN|apply below_drew1)|exact HB.out)) hb);clear HB;have HB:=n0_;clear n0_;(try clear hb);(try clear hb2);(try clear hk);(try clear hi)))
         all_goals go_ret2
         all_goals exact⟨by first|rfl|(simp[errW_none,errW_some]<;>rfl)|(simp[*,errW_none,errW_some]<;>rfl),by repeat (first|(with_reducible first|exact HB.out|apply below_alloc|apply pw_below_drewN|apply below_drew1)|exact HB.out)⟩
        ·rw[if_neg c13]at H
         exact absurd H (by simp)
       ·rw[if_neg c12]at H
        exact absurd H (by simp)
      ·rw[if_neg c11]at H
       exact absurd H (by simp)
     ·rw[if_neg c9]at H
      have c9b0:(a0.toList==([86]:List UInt8))=false:=beq_eq_false_iff_ne.mpr c9;have c9b1:(a0.toList !=([86]:List UInt8))=true:=bne_iff_ne.mpr c9;replace H:=Option.bind_eq_some_iff.mp H;obtain⟨t132,A150,H⟩:=H;replace H:(if t132=true then((strings_Join.f l1 (⟨#[]⟩:ByteArray)).bind fun t133=>(if 1+t133.size≤9223372036854775807 then(if((⟨#[40]⟩:ByteArray)++t133).size+1≤9223372036854775807 then(if(((⟨#[40]⟩:ByteArray)++t133)++(⟨#[41]⟩:ByteArray)).size+a0.size≤9223372036854775807 then(some ((((⟨#[40]⟩:ByteArray)++t133)++(⟨#[41]⟩:ByteArray))++a0,0))else(none))else(none))else(none)))else(some ((⟨#[]⟩:ByteArray),10)))=some (r1,r2):=H
      have A15:=Aside0.mk A150
      clear A150
      by_cases c16:t132=true
      ·subst c16
       have H1:((strings_Join.f l1 (⟨#[]⟩:ByteArray)).bind fun t133=>(if 1+t133.size≤9223372036854775807 then(if((⟨#[40]⟩:ByteArray)++t133).size+1≤9223372036854775807 then(if(((⟨#[40]⟩:ByteArray)++t133)++(⟨#[41]⟩:ByteArray)).size+a0.size≤9223372036854775807 then(some ((((⟨#[40]⟩:ByteArray)++t133)++(⟨#[41]⟩:ByteArray))++a0,0))else(none))else(none))else(none)))=some (r1,r2):=by rw[if_pos rfl]at H;exact H
       clear H
       have H:=H1
       clear H1;replace H:=Option.bind_eq_some_iff.mp H;obtain⟨t133,A170,H⟩:=H;replace H:(if 1+t133.size≤9223372036854775807 then(if((⟨#[40]⟩:ByteArray)++t133).size+1≤9223372036854775807 then(if(((⟨#[40]⟩:ByteArray)++t133)++(⟨#[41]⟩:ByteArray)).size+a0.size≤9223372036854775807 then(some ((((⟨#[40]⟩:ByteArray)++t133)++(⟨#[41]⟩:ByteArray))++a0,0))else(none))else(none))else(none))=some (r1,r2):=H
       have A17:=Aside0.mk A170
       clear A170
       by_cases c18:1+t133.size≤9223372036854775807
       ·rw[if_pos c18]at H
        have c18b0:=eq_true c18
        have c18b1:decide (1+t133.size≤9223372036854775807)=true:=decide_eq_true c18
        try have c18b2:(9223372036854775807<1+t133.size)=False:=eq_false (Nat.not_lt.2 c18)
        by_cases c19:((⟨#[40]⟩:ByteArray)++t133).size+1≤9223372036854775807
        ·rw[if_pos c19]at H
         have c19b0:=eq_true c19
         have c19b1:decide (((⟨#[40]⟩:ByteArray)++t133).size+1≤9223372036854775807)=true:=decide_eq_true c19
         try have c19b2:(9223372036854775807<((⟨#[40]⟩:ByteArray)++t133).size+1)=False:=eq_false (Nat.not_lt.2 c19)
         try have c19bx:(9223372036854775807<1+t133.size+1)=False:=eq_false (Nat.not_lt.2 (by have h_:=c19;simp only[ByteArray.size_append]at h_;exact h_))
         by_cases c20:(((⟨#[40]⟩:ByteArray)++t133)++(⟨#[41]⟩:ByteArray)).size+a0.size≤9223372036854775807
         ·rw[if_pos c20]at H
          have c20b0:=eq_true c20
          have c20b1:decide ((((⟨#[40]⟩:ByteArray)++t133)++(⟨#[41]⟩:ByteArray)).size+a0.size≤9223372036854775807)=true:=decide_eq_true c20
          try have c20b2:(9223372036854775807<(((⟨#[40]⟩:ByteArray)++t133)++(⟨#[41]⟩:ByteArray)).size+a0.size)=False:=eq_false (Nat.not_lt.2 c20)
          try have c20bx:(9223372036854775807<1+t133.size+1+a0.size)=False:=eq_false (Nat.not_lt.2 (by have h_:=c20;simp only[ByteArray.size_append]at h_;exact h_))
          simp only[Option.some.injEq,Prod.mk.injEq]at H;obtain⟨rfl,rfl⟩:=H
          go_wp2_with (first|(go_at_call 25;(with_reducible refine(desc_Right.calls k1 a0 true _ A15.out).mono ?_);rintro e w' ⟨rfl,⟨nd,rfl⟩⟩)|((with_reducible refine gate_callee (f:=72) rfl ?_);refine goesL_ (some 29) rfl rfl Tryd.func72 (by kernel_rfl) rfl #[.slice A1 l1.length c1, .string (⟨#[]⟩:ByteArray)] rfl (by(try simp only[List.map_toArray,List.map_cons,List.map_nil]);first|done|rfl|(simp only[List.length_drop,List.length_take];rfl)) ?_;(with_reducible refine(strings_Join.calls _ _ l1 (⟨#[]⟩:ByteArray) t133 _ ?side1 ?side2 A17.out).mono ?_);(case side1=>repeat (first|exact(Kd.C_below HR1.out (by repeat (first|(with_reducible first|exact HB.out|apply below_alloc|apply pw_below_drewN|apply below_drew1)|exact HB.out)))|(with_reducible refine Kd.C_alloc ?_ _)|(with_reducible refine Kd.C_drewN ?_ _)|(with_reducible refine Kd.C_drew ?_)));(case side2=>exact HC1.out);rintro e w21 ⟨rfl,hb⟩;refine⟨_,rfl,?_⟩;have n0_:=Aside0.mk (below_step (by repeat (first|(with_reducible first|exact HB.out|apply below_alloc|apply pw_below_drewN|apply below_drew1)|exact HB.out)) hb);clear HB;have HB:=n0_;clear n0_;(try clear hb);(try clear hb2);(try clear hk);(try clear hi)))
          all_goals go_ret2
          all_goals exact⟨by first|rfl|(simp[errW_none,errW_some]<;>rfl)|(simp[*,errW_none,errW_some]<;>rfl),by repeat (first|(with_reducible first|exact HB.out|apply below_alloc|apply pw_below_drewN|apply below_drew1)|exact HB.out)⟩
         ·rw[if_neg c20]at H
          exact absurd H (by simp)
        ·rw[if_neg c19]at H
         exact absurd H (by simp)
       ·rw[if_neg c18]at H
        exact absurd H (by simp)
      ·replace c16:=Bool.eq_false_iff.mpr c16
       subst c16
       have H1:(some ((⟨#[]⟩:ByteArray),10))=some (r1,r2):=by rw[if_neg (show¬(false=true) by decide)]at H;exact H
       clear H
       have H:=H1
       clear H1;simp only[Option.some.injEq,Prod.mk.injEq]at H;obtain⟨rfl,rfl⟩:=H
       go_wp2_with (first|(go_at_call 25;(with_reducible refine(desc_Right.calls k1 a0 false _ A15.out).mono ?_);rintro e w' ⟨rfl,⟨nd,rfl⟩⟩))
       all_goals go_ret2
       all_goals exact⟨by first|rfl|(simp[errW_none,errW_some]<;>rfl)|(simp[*,errW_none,errW_some]<;>rfl),by repeat (first|(with_reducible first|exact HB.out|apply below_alloc|apply pw_below_drewN|apply below_drew1)|exact HB.out)⟩
mutual
def desc_Split.l0:Nat→ByteArray→Bool→List ByteArray→Option (ByteArray×List ByteArray×Int)
 |0,_,_,_=>none
 |k+1,x5,x6,x7=>if x6=true then((strings_HasPrefix.f x5 (⟨#[41]⟩:ByteArray)).bind fun t136=>(if t136=true then(desc_Split.j1 k x5 x6 x7 false)else(desc_Split.j1 k x5 x6 x7 (decide ((x7.length:Int)≤6)))))else(desc_Split.j1 k x5 x6 x7 false)
def desc_Split.j1:Nat→ByteArray→Bool→List ByteArray→Bool→Option (ByteArray×List ByteArray×Int)
 |0,_,_,_,_=>none
 |k+1,x5,x6,x7,x28=>if x28=true then((desc_first.f k x5).bind fun bt137=>(if bt137.2.2=true then(if x7.length<8796093022208 then(desc_Split.l0 k bt137.2.1 bt137.2.2 (x7++ [bt137.1]))else(none))else(desc_Split.l0 k bt137.2.1 bt137.2.2 x7)))else((strings_CutPrefix.f x5 (⟨#[41]⟩:ByteArray)).bind fun bt143=>(if x6=true then(desc_Split.j2 k x7 bt143.1 (!bt143.2))else(desc_Split.j2 k x7 bt143.1 true)))
def desc_Split.j2:Nat→List ByteArray→ByteArray→Bool→Option (ByteArray×List ByteArray×Int)
 |0,_,_,_=>none
 |k+1,x7,x9,x50=>if x50=true then(some ((⟨#[]⟩:ByteArray),([]:List ByteArray),5))else((desc_Sig.f k x9 x7).bind fun bt145=>(if bt145.2=0 then(some (x9,x7,0))else(some ((⟨#[]⟩:ByteArray),([]:List ByteArray),5))))
end
def desc_Split.f(k:Nat)(a0:ByteArray):Option (ByteArray×List ByteArray×Int):=(strings_CutPrefix.f a0 (⟨#[40]⟩:ByteArray)).bind fun bt134=>(desc_Split.l0 k bt134.1 bt134.2 ([]:List ByteArray))
set_option maxHeartbeats 8000000 in
set_option maxRecDepth 100000 in
theorem desc_Split.calls(k:Nat)(a0:ByteArray)(r1:ByteArray)(r2:List ByteArray)(r3:Int)(w:World)(h:desc_Split.f k a0=some (r1,r2,r3)):
  Calls Tryd.prog 26 #[.string a0] w fun e w'=> ∃v1_:Value,e= .returned (.tuple #[.string r1,v1_, .int .i64 r3])∧Kd.R Kd.string 9 w' w.heap.size (fun _=>True) v1_ r2∧Below w.heap.size w w':=by
 have HB:=Aside0.mk (Below.refl w.heap.size w)
 have H:((strings_CutPrefix.f a0 (⟨#[40]⟩:ByteArray)).bind fun bt134=>(desc_Split.l0 k bt134.1 bt134.2 ([]:List ByteArray)))=some (r1,r2,r3):=h;clear h;replace H:=Option.bind_eq_some_iff.mp H;obtain⟨⟨t134,t135⟩,A20,H⟩:=H;replace H:(desc_Split.l0 k t134 t135 ([]:List ByteArray))=some (r1,r2,r3):=H
 have A2:=Aside0.mk A20
 clear A20;have H':=Aside0.mk H;clear H
 go_enter Tryd.func26,Tryd.ntmps26
 go_wp2_with (first|((with_reducible refine gate_callee (f:=49) rfl ?_);refine goesL_ (some 15) rfl rfl Tryd.func49 (by kernel_rfl) rfl #[.string a0, .string (⟨#[40]⟩:ByteArray)] rfl (by(try simp only[List.map_toArray,List.map_cons,List.map_nil]);first|done|rfl|(simp only[List.length_drop,List.length_take];rfl)) ?_;(with_reducible refine(strings_CutPrefix.calls a0 (⟨#[40]⟩:ByteArray) t134 t135 _ A2.out).mono ?_);rintro e w' ⟨rfl,⟨nd,rfl⟩⟩;refine⟨_,rfl,?_⟩))
 go_loopg [5,6,7] k (fun kq v5 v6 v7 w'=> ∃(x5_1:ByteArray) (x6_1:Bool) (x7_1:List ByteArray),v5= .string x5_1∧v6= .bool x6_1∧Aside0 (desc_Split.l0 kq x5_1 x6_1 x7_1=some (r1,r2,r3))∧Aside0 (kq≤k)∧Aside0 (Kd.R Kd.string 9 w' w.heap.size (fun _=>True) v7 x7_1)∧Aside0 (Below w.heap.size w w'))
 case atStart=>exact⟨(t134),(t135),(([]:List ByteArray)),(by first|rfl|(simp;done)|(simp[*];done)),(by first|rfl|(simp;done)|(simp[*];done)),H',⟨Nat.le_refl _⟩,⟨by first|exact Kd.R_nil _ _ _ _ _|exact Kd.N_nil _ _ _ _ _|exact Kd.V_nil _ _ _ _ _|exact Kd.Q_nil _ _ _ _ _|exact Kd.S_nil _ _ _ _ _⟩,⟨by repeat (first|(with_reducible first|exact HB.out|apply below_alloc|apply pw_below_drewN|apply below_drew1)|exact HB.out)⟩⟩
 case round=>
  clear H';(try clear c2);(try clear p2);obtain⟨x5_1,x6_1,x7_1,rfl,rfl,HA,HK1,HO_7,HB⟩:=hrel
  cases gk with
  |zero=>exact absurd HA.out (by simp[desc_Split.l0])
  |succ k1=>
   have H:=HA.out
   clear HA;simp only[desc_Split.l0]at H
   have HC3:=Aside0.mk H
   clear H
   go_upto_region 3 with(fail)
   go_cut [28] (fun v28 wc=> ∃(kq:Nat) (x28_2:Bool),v28= .bool x28_2∧Aside0 (desc_Split.j1 kq x5_1 x6_1 x7_1 x28_2=some (r1,r2,r3))∧Aside0 (kq≤k1)∧Aside0 (Kd.R Kd.string 9 wc w.heap.size (fun _=>True) u7 x7_1)∧Aside0 (Below w.heap.size w wc))
   case first=>
    have H:=HC3.out
    clear HC3
    by_cases c4:x6_1=true
    ·subst c4
     have H1:((strings_HasPrefix.f x5_1 (⟨#[41]⟩:ByteArray)).bind fun t136=>(if t136=true then(desc_Split.j1 k1 x5_1 true x7_1 false)else(desc_Split.j1 k1 x5_1 true x7_1 (decide ((x7_1.length:Int)≤6)))))=some (r1,r2,r3):=by rw[if_pos rfl]at H;exact H
     clear H
     have H:=H1
     clear H1;replace H:=Option.bind_eq_some_iff.mp H;obtain⟨t136,A50,H⟩:=H;replace H:(if t136=true then(desc_Split.j1 k1 x5_1 true x7_1 false)else(desc_Split.j1 k1 x5_1 true x7_1 (decide ((x7_1.length:Int)≤6))))=some (r1,r2,r3):=H
     have A5:=Aside0.mk A50
     clear A50
     by_cases c6:t136=true
     ·subst c6
      have H1:(desc_Split.j1 k1 x5_1 true x7_1 false)=some (r1,r2,r3):=by rw[if_pos rfl]at H;exact H
      clear H
      have H:=H1
      clear H1;have H':=Aside0.mk H;clear H
      go_wp2_with (first|(go_at_call 50;(with_reducible refine(strings_HasPrefix.calls x5_1 (⟨#[41]⟩:ByteArray) true _ A5.out).mono ?_);rintro e w' ⟨rfl,⟨nd,rfl⟩⟩))
      go_meet
      case rel=>exact⟨_,(false),(by first|rfl|(simp;done)|(simp[*];done)),H',⟨by have:=HK1.out;first|omega|exact Nat.le_refl _⟩,⟨by(with_reducible repeat (first|apply Kd.R_alloc|apply Kd.R_drewN|apply Kd.R_drew));exact HO_7.out⟩,⟨by repeat (first|(with_reducible first|exact HB.out|apply below_alloc|apply pw_below_drewN|apply below_drew1)|exact HB.out)⟩⟩
     ·replace c6:=Bool.eq_false_iff.mpr c6
      subst c6
      have H1:(desc_Split.j1 k1 x5_1 true x7_1 (decide ((x7_1.length:Int)≤6)))=some (r1,r2,r3):=by rw[if_neg (show¬(false=true) by decide)]at H;exact H
      clear H
      have H:=H1
      clear H1;have H':=Aside0.mk H;clear H
      go_wp2_with (first|(go_at_call 50;(with_reducible refine(strings_HasPrefix.calls x5_1 (⟨#[41]⟩:ByteArray) false _ A5.out).mono ?_);rintro e w' ⟨rfl,⟨nd,rfl⟩⟩;obtain⟨Ao7,co7,eo7⟩:=Kd.R_slice HO_7.out;subst eo7))
      go_meet
      case rel=>exact⟨_,(decide ((x7_1.length:Int)≤6)),(by first|rfl|(simp;done)|(simp[*];done)),H',⟨by have:=HK1.out;first|omega|exact Nat.le_refl _⟩,⟨by(with_reducible repeat (first|apply Kd.R_alloc|apply Kd.R_drewN|apply Kd.R_drew));exact HO_7.out⟩,⟨by repeat (first|(with_reducible first|exact HB.out|apply below_alloc|apply pw_below_drewN|apply below_drew1)|exact HB.out)⟩⟩
    ·replace c4:=Bool.eq_false_iff.mpr c4
     subst c4
     have H1:(desc_Split.j1 k1 x5_1 false x7_1 false)=some (r1,r2,r3):=by rw[if_neg (show¬(false=true) by decide)]at H;exact H
     clear H
     have H:=H1
     clear H1;have H':=Aside0.mk H;clear H;go_wp2;go_meet
     case rel=>exact⟨_,(false),(by first|rfl|(simp;done)|(simp[*];done)),H',⟨by have:=HK1.out;first|omega|exact Nat.le_refl _⟩,⟨by(with_reducible repeat (first|apply Kd.R_alloc|apply Kd.R_drewN|apply Kd.R_drew));exact HO_7.out⟩,⟨by repeat (first|(with_reducible first|exact HB.out|apply below_alloc|apply pw_below_drewN|apply below_drew1)|exact HB.out)⟩⟩
   case rest=>
    clear HC3;(try clear c2);(try clear p2);(try clear c4);(try clear c6);(try clear p2);obtain⟨kq,x28_2,rfl,HA,HJ2,HO_7,HB⟩:=hcut
    cases kq with
    |zero=>exact absurd HA.out (by simp[desc_Split.j1])
    |succ kj2=>
     have H:=HA.out
     clear HA;simp only[desc_Split.j1]at H
     by_cases c8:x28_2=true
     ·subst c8
      have H1:((desc_first.f kj2 x5_1).bind fun bt137=>(if bt137.2.2=true then(if x7_1.length<8796093022208 then(desc_Split.l0 kj2 bt137.2.1 bt137.2.2 (x7_1++ [bt137.1]))else(none))else(desc_Split.l0 kj2 bt137.2.1 bt137.2.2 x7_1)))=some (r1,r2,r3):=by rw[if_pos rfl]at H;exact H
      clear H
      have H:=H1
      clear H1;replace H:=Option.bind_eq_some_iff.mp H;obtain⟨⟨t137,t138,t139⟩,A90,H⟩:=H;replace H:(if t139=true then(if x7_1.length<8796093022208 then(desc_Split.l0 kj2 t138 t139 (x7_1++ [t137]))else(none))else(desc_Split.l0 kj2 t138 t139 x7_1))=some (r1,r2,r3):=H
      have A9:=Aside0.mk A90
      clear A90
      by_cases c10:t139=true
      ·subst c10
       have H1:(if x7_1.length<8796093022208 then(desc_Split.l0 kj2 t138 true (x7_1++ [t137]))else(none))=some (r1,r2,r3):=by rw[if_pos rfl]at H;exact H
       clear H
       have H:=H1
       clear H1
       by_cases c11:x7_1.length<8796093022208
       ·rw[if_pos c11]at H
        have LMc11:=Aside0.mk c11
        clear c11;obtain⟨y140,hy140⟩: ∃y_:List ByteArray,y_=(x7_1++ [t137]):=⟨_,rfl⟩
        replace H:(desc_Split.l0 kj2 t138 true y140)=some (r1,r2,r3):=by first|(rw[hy140];with_reducible exact H)|(have H2_:=(Option.bind_some _ _).symm.trans H;rw[hy140];with_reducible exact H2_)|(have H2_:=(Option.bind_some _ _).symm.trans H;with_reducible exact H2_)|with_reducible exact H|(rw[hy140];exact H)|exact H
        have Ny140:=Aside0.mk hy140
        clear hy140;have H':=Aside0.mk H;clear H
        go_wp2_with (first|((with_reducible refine gate_callee (f:=51) rfl ?_);refine goesL_ (some 31) rfl rfl Tryd.func51 (by kernel_rfl) rfl #[.string x5_1] rfl (by(try simp only[List.map_toArray,List.map_cons,List.map_nil]);first|done|rfl|(simp only[List.length_drop,List.length_take];rfl)) ?_;(with_reducible refine(desc_first.calls kj2 x5_1 t137 t138 true _ A9.out).mono ?_);rintro e w' ⟨rfl,⟨nd,rfl⟩⟩;refine⟨_,rfl,?_⟩)|((with_reducible refine gate_builtin (b:= .append) (xs:= #[.tmp 36, .tmp 38]) rfl ?_);(try (refine gate_guard (by rfl) ?_;dsimp only));at_builtin;refine Kd.R_append Kd.string (w0:=w) w.heap.size rfl (.tmp 36) (.tmp 38) 31 9 (.string ⟨#[]⟩) 16 rfl Tryd.underlying31 info9 rfl (by decide) (by omega) u7 x7_1 t137 [.string t137] (fun _=>True) (fun _=>False) rfl rfl ?aP (fun _ hk=>hk.elim) ?aF ?aO ?aB ?aS ?aL ?_;(case aP=>exact rfl);(case aB=>exact(by repeat (first|(with_reducible first|exact HB.out|apply below_alloc|apply pw_below_drewN|apply below_drew1)|exact HB.out)));(case aF=>exact(fun _ _=>trivial));(case aO=>exact(by(with_reducible repeat (first|apply Kd.R_alloc|apply Kd.R_drewN|apply Kd.R_drew));exact HO_7.out));(case aS=>exact(below_size (by repeat (first|(with_reducible first|exact HB.out|apply below_alloc|apply pw_below_drewN|apply below_drew1)|exact HB.out))));(case aL=>have:=LMc11.out;omega);intro v141 w12 ho hb hg hat;rw[←Ny140.out]at ho;have n0_:=Aside0.mk (hb);have n1_:=Aside0.mk (ho);clear HB;clear HO_7;have HB:=n0_;have HO142:=n1_;clear n0_ n1_;clear ho hb hg hat))
        go_roundg kj2
        case measure=>have:=HK1.out;have:=HJ2.out;omega
        case rel=>exact⟨(t138),(true),(y140),(by first|rfl|(simp;done)|(simp[*];done)),(by first|rfl|(simp;done)|(simp[*];done)),H',⟨by have:=HK1.out;have:=HJ2.out;omega⟩,⟨by(with_reducible repeat (first|apply Kd.R_alloc|apply Kd.R_drewN|apply Kd.R_drew));exact HO142.out⟩,⟨by repeat (first|(with_reducible first|exact HB.out|apply below_alloc|apply pw_below_drewN|apply below_drew1)|exact HB.out)⟩⟩
       ·rw[if_neg c11]at H
        exact absurd H (by simp)
      ·replace c10:=Bool.eq_false_iff.mpr c10
       subst c10
       have H1:(desc_Split.l0 kj2 t138 false x7_1)=some (r1,r2,r3):=by rw[if_neg (show¬(false=true) by decide)]at H;exact H
       clear H
       have H:=H1
       clear H1;have H':=Aside0.mk H;clear H
       go_wp2_with (first|((with_reducible refine gate_callee (f:=51) rfl ?_);refine goesL_ (some 31) rfl rfl Tryd.func51 (by kernel_rfl) rfl #[.string x5_1] rfl (by(try simp only[List.map_toArray,List.map_cons,List.map_nil]);first|done|rfl|(simp only[List.length_drop,List.length_take];rfl)) ?_;(with_reducible refine(desc_first.calls kj2 x5_1 t137 t138 false _ A9.out).mono ?_);rintro e w' ⟨rfl,⟨nd,rfl⟩⟩;refine⟨_,rfl,?_⟩))
       go_roundg kj2
       case measure=>have:=HK1.out;have:=HJ2.out;omega
       case rel=>exact⟨(t138),(false),(x7_1),(by first|rfl|(simp;done)|(simp[*];done)),(by first|rfl|(simp;done)|(simp[*];done)),H',⟨by have:=HK1.out;have:=HJ2.out;omega⟩,⟨by(with_reducible repeat (first|apply Kd.R_alloc|apply Kd.R_drewN|apply Kd.R_drew));exact HO_7.out⟩,⟨by repeat (first|(with_reducible first|exact HB.out|apply below_alloc|apply pw_below_drewN|apply below_drew1)|exact HB.out)⟩⟩
     ·replace c8:=Bool.eq_false_iff.mpr c8
      subst c8
      have H1:((strings_CutPrefix.f x5_1 (⟨#[41]⟩:ByteArray)).bind fun bt143=>(if x6_1=true then(desc_Split.j2 kj2 x7_1 bt143.1 (!bt143.2))else(desc_Split.j2 kj2 x7_1 bt143.1 true)))=some (r1,r2,r3):=by rw[if_neg (show¬(false=true) by decide)]at H;exact H
      clear H
      have H:=H1
      clear H1;replace H:=Option.bind_eq_some_iff.mp H;obtain⟨⟨t143,t144⟩,A130,H⟩:=H;replace H:(if x6_1=true then(desc_Split.j2 kj2 x7_1 t143 (!t144))else(desc_Split.j2 kj2 x7_1 t143 true))=some (r1,r2,r3):=H
      have A13:=Aside0.mk A130
      clear A130
      have HC14:=Aside0.mk H
      clear H
      go_upto_region 9 with(first|((with_reducible refine gate_callee (f:=49) rfl ?_);refine goesL_ (some 42) rfl rfl Tryd.func49 (by kernel_rfl) rfl #[.string x5_1, .string (⟨#[41]⟩:ByteArray)] rfl (by(try simp only[List.map_toArray,List.map_cons,List.map_nil]);first|done|rfl|(simp only[List.length_drop,List.length_take];rfl)) ?_;(with_reducible refine(strings_CutPrefix.calls x5_1 (⟨#[41]⟩:ByteArray) t143 t144 _ A13.out).mono ?_);rintro e w' ⟨rfl,⟨nd,rfl⟩⟩;refine⟨_,rfl,?_⟩))
      (try simp only[Act.put,List.setIfInBounds_toArray,List.set_cons_zero,List.set_cons_succ])
      go_cut [50] (fun v50 wc=> ∃(kq:Nat) (x50_13:Bool),v50= .bool x50_13∧Aside0 (desc_Split.j2 kq x7_1 t143 x50_13=some (r1,r2,r3))∧Aside0 (kq≤kj2)∧Aside0 (Kd.R Kd.string 9 wc w.heap.size (fun _=>True) u7 x7_1)∧Aside0 (Below w.heap.size w wc))
      case first=>
       have H:=HC14.out
       clear HC14
       by_cases c15:x6_1=true
       ·subst c15
        have H1:(desc_Split.j2 kj2 x7_1 t143 (!t144))=some (r1,r2,r3):=by rw[if_pos rfl]at H;exact H
        clear H
        have H:=H1
        clear H1;have H':=Aside0.mk H;clear H;go_wp2;go_meet
        case rel=>exact⟨_,(!t144),(by first|rfl|(simp;done)|(simp[*];done)),H',⟨by have:=HK1.out;have:=HJ2.out;first|omega|exact Nat.le_refl _⟩,⟨by(with_reducible repeat (first|apply Kd.R_alloc|apply Kd.R_drewN|apply Kd.R_drew));exact HO_7.out⟩,⟨by repeat (first|(with_reducible first|exact HB.out|apply below_alloc|apply pw_below_drewN|apply below_drew1)|exact HB.out)⟩⟩
       ·replace c15:=Bool.eq_false_iff.mpr c15
        subst c15
        have H1:(desc_Split.j2 kj2 x7_1 t143 true)=some (r1,r2,r3):=by rw[if_neg (show¬(false=true) by decide)]at H;exact H
        clear H
        have H:=H1
        clear H1;have H':=Aside0.mk H;clear H;go_wp2;go_meet
        case rel=>exact⟨_,(true),(by first|rfl|(simp;done)|(simp[*];done)),H',⟨by have:=HK1.out;have:=HJ2.out;first|omega|exact Nat.le_refl _⟩,⟨by(with_reducible repeat (first|apply Kd.R_alloc|apply Kd.R_drewN|apply Kd.R_drew));exact HO_7.out⟩,⟨by repeat (first|(with_reducible first|exact HB.out|apply below_alloc|apply pw_below_drewN|apply below_drew1)|exact HB.out)⟩⟩
      case rest=>
       clear HC14;(try clear c1);(try clear c2);(try clear p2);(try clear c4);(try clear c5);(try clear c6);(try clear c8);(try clear c10);(try clear c11);(try clear c15);(try clear p2);obtain⟨kq,x50_13,rfl,HA,HJ13,HO_7,HB⟩:=hcut
       cases kq with
       |zero=>exact absurd HA.out (by simp[desc_Split.j2])
       |succ kj13=>
        have H:=HA.out
        clear HA;simp only[desc_Split.j2]at H
        by_cases c16:x50_13=true
        ·subst c16
         have H1:(some ((⟨#[]⟩:ByteArray),([]:List ByteArray),5))=some (r1,r2,r3):=by rw[if_pos rfl]at H;exact H
         clear H
         have H:=H1
         clear H1;simp only[Option.some.injEq,Prod.mk.injEq]at H;obtain⟨rfl,rfl,rfl⟩:=H;go_wp2;go_ret3;exact⟨_,by first|rfl|(simp[errW_none,errW_some]<;>rfl)|(simp[*,errW_none,errW_some]<;>rfl),by first|exact Kd.R_nil _ _ _ _ _|exact Kd.N_nil _ _ _ _ _|exact Kd.V_nil _ _ _ _ _|exact Kd.Q_nil _ _ _ _ _|exact Kd.S_nil _ _ _ _ _,by repeat (first|(with_reducible first|exact HB.out|apply below_alloc|apply pw_below_drewN|apply below_drew1)|exact HB.out)⟩
        ·replace c16:=Bool.eq_false_iff.mpr c16
         subst c16
         have H1:((desc_Sig.f kj13 t143 x7_1).bind fun bt145=>(if bt145.2=0 then(some (t143,x7_1,0))else(some ((⟨#[]⟩:ByteArray),([]:List ByteArray),5))))=some (r1,r2,r3):=by rw[if_neg (show¬(false=true) by decide)]at H;exact H
         clear H
         have H:=H1
         clear H1;replace H:=Option.bind_eq_some_iff.mp H;obtain⟨⟨t145,t146⟩,A170,H⟩:=H;replace H:(if t146=0 then(some (t143,x7_1,0))else(some ((⟨#[]⟩:ByteArray),([]:List ByteArray),5)))=some (r1,r2,r3):=H
         have A17:=Aside0.mk A170
         clear A170
         by_cases c18:t146=0
         ·rw[if_pos c18]at H
          have c18b0:(t146==0)=true:=beq_iff_eq.mpr c18;have c18b1:(t146 !=0)=false:=bne_eq_false_iff_eq.mpr c18;clear c18;simp only[Option.some.injEq,Prod.mk.injEq]at H;obtain⟨rfl,rfl,rfl⟩:=H;obtain⟨Ao19,co19,eo19⟩:=Kd.R_slice HO_7.out;subst eo19
          go_wp2_with (first|((with_reducible refine gate_callee (f:=52) rfl ?_);refine goesL_ (some 54) rfl rfl Tryd.func52 (by kernel_rfl) rfl #[.string t143, .slice Ao19 x7_1.length co19] rfl (by(try simp only[List.map_toArray,List.map_cons,List.map_nil]);first|done|rfl|(simp only[List.length_drop,List.length_take];rfl)) ?_;(with_reducible refine(desc_Sig.calls kj13 t143 _ _ x7_1 t145 t146 _ ?side1 ?side2 A17.out).mono ?_);(case side1=>repeat (first|exact(Kd.R_reads' HO_7.out).2.2|(with_reducible refine Kd.C_alloc ?_ _)|(with_reducible refine Kd.C_drewN ?_ _)|(with_reducible refine Kd.C_drew ?_)));(case side2=>exact(Kd.R_reads' HO_7.out).2.1);rintro e w20 ⟨rfl,hb⟩;refine⟨_,rfl,?_⟩;have n0_:=Aside0.mk (Kd.R_below (by(with_reducible repeat (first|apply Kd.R_alloc|apply Kd.R_drewN|apply Kd.R_drew));exact HO_7.out) hb);have n1_:=Aside0.mk (below_step (by repeat (first|(with_reducible first|exact HB.out|apply below_alloc|apply pw_below_drewN|apply below_drew1)|exact HB.out)) hb);clear HO_7;clear HB;have HO_7:=n0_;have HB:=n1_;clear n0_ n1_;(try clear hb);(try clear hb2);(try clear hk);(try clear hi)))
          go_ret3;exact⟨_,by first|rfl|(simp[errW_none,errW_some]<;>rfl)|(simp[*,errW_none,errW_some]<;>rfl),by(with_reducible repeat (first|apply Kd.R_alloc|apply Kd.R_drewN|apply Kd.R_drew));exact HO_7.out,by repeat (first|(with_reducible first|exact HB.out|apply below_alloc|apply pw_below_drewN|apply below_drew1)|exact HB.out)⟩
         ·rw[if_neg c18]at H
          have c18b0:(t146==0)=false:=beq_eq_false_iff_ne.mpr c18;have c18b1:(t146 !=0)=true:=bne_iff_ne.mpr c18;simp only[Option.some.injEq,Prod.mk.injEq]at H;obtain⟨rfl,rfl,rfl⟩:=H;obtain⟨Ao21,co21,eo21⟩:=Kd.R_slice HO_7.out;subst eo21
          go_wp2_with (first|((with_reducible refine gate_callee (f:=52) rfl ?_);refine goesL_ (some 54) rfl rfl Tryd.func52 (by kernel_rfl) rfl #[.string t143, .slice Ao21 x7_1.length co21] rfl (by(try simp only[List.map_toArray,List.map_cons,List.map_nil]);first|done|rfl|(simp only[List.length_drop,List.length_take];rfl)) ?_;(with_reducible refine(desc_Sig.calls kj13 t143 _ _ x7_1 t145 t146 _ ?side1 ?side2 A17.out).mono ?_);(case side1=>repeat (first|exact(Kd.R_reads' HO_7.out).2.2|(with_reducible refine Kd.C_alloc ?_ _)|(with_reducible refine Kd.C_drewN ?_ _)|(with_reducible refine Kd.C_drew ?_)));(case side2=>exact(Kd.R_reads' HO_7.out).2.1);rintro e w22 ⟨rfl,hb⟩;refine⟨_,rfl,?_⟩;have n0_:=Aside0.mk (Kd.R_below (by(with_reducible repeat (first|apply Kd.R_alloc|apply Kd.R_drewN|apply Kd.R_drew));exact HO_7.out) hb);have n1_:=Aside0.mk (below_step (by repeat (first|(with_reducible first|exact HB.out|apply below_alloc|apply pw_below_drewN|apply below_drew1)|exact HB.out)) hb);clear HO_7;clear HB;have HO_7:=n0_;have HB:=n1_;clear n0_ n1_;(try clear hb);(try clear hb2);(try clear hk);(try clear hi)))
          go_ret3;exact⟨_,by first|rfl|(simp[errW_none,errW_some]<;>rfl)|(simp[*,errW_none,errW_some]<;>rfl),by first|exact Kd.R_nil _ _ _ _ _|exact Kd.N_nil _ _ _ _ _|exact Kd.V_nil _ _ _ _ _|exact Kd.Q_nil _ _ _ _ _|exact Kd.S_nil _ _ _ _ _,by repeat (first|(with_reducible first|exact HB.out|apply below_alloc|apply pw_below_drewN|apply below_drew1)|exact HB.out)⟩
mutual
def hornbookref02_end.l0:Nat→ByteArray→Int→Option (Int)
 |0,_,_=>none
 |k+1,x0,x3=>if x3≤(x0.size:Int)then(hornbookref02_end.j1 k x0 x3 (decide (x3≤30)))else(hornbookref02_end.j1 k x0 x3 false)
def hornbookref02_end.j1:Nat→ByteArray→Int→Bool→Option (Int)
 |0,_,_,_=>none
 |k+1,x0,x3,x11=>if x11=true then(if 0≤x3 then(if x3≤(x0.size:Int)then((hornbookref02_Right.f k (x0.extract 0 (x3:Int).toNat)).bind fun t147=>(if t147=true then(some x3)else(hornbookref02_end.l0 k x0 (wrap64 (x3+1)))))else(none))else(none))else(some 0)
end
def hornbookref02_end.f(k:Nat)(a0:ByteArray):Option (Int):=hornbookref02_end.l0 k a0 1
set_option maxHeartbeats 8000000 in
set_option maxRecDepth 100000 in
theorem hornbookref02_end.calls(k:Nat)(a0:ByteArray)(r:Int)(w:World)(h:hornbookref02_end.f k a0=some r):
  Calls Tryd.prog 55 #[.string a0] w fun e w'=>e= .returned (.int .i64 r)∧Drawn0 w w':=by
 have H:(hornbookref02_end.l0 k a0 1)=some r:=h;clear h;have H':=Aside0.mk H;clear H
 go_enter Tryd.func55,Tryd.ntmps55
 go_wp2
 go_loopg [3] k (fun kq v3 w'=> ∃(x3_1:Int),v3= .int .i64 x3_1∧Aside0 (hornbookref02_end.l0 kq a0 x3_1=some r)∧Aside0 (kq≤k)∧Drawn0 w w')
 case atStart=>exact⟨(1),(by first|rfl|(simp;done)|(simp[*];done)),H',⟨Nat.le_refl _⟩,by repeat (first|exact Drawn0.refl _|apply Drawn0.step)⟩
 case round=>
  clear H';obtain⟨x3_1,rfl,HA,HK1,⟨m1,rfl⟩⟩:=hrel
  cases gk with
  |zero=>exact absurd HA.out (by simp[hornbookref02_end.l0])
  |succ k1=>
   have H:=HA.out
   clear HA;simp only[hornbookref02_end.l0]at H
   have HC2:=Aside0.mk H
   clear H
   go_upto_region 2 with(fail)
   go_cut [11] (fun v11 wc=> ∃(kq:Nat) (x11_1:Bool),v11= .bool x11_1∧Aside0 (hornbookref02_end.j1 kq a0 x3_1 x11_1=some r)∧Aside0 (kq≤k1)∧Drawn0 w wc)
   case first=>
    have H:=HC2.out
    clear HC2
    by_cases c3:x3_1≤(a0.size:Int)
    ·rw[if_pos c3]at H
     have c3b0:decide (x3_1≤(a0.size:Int))=true:=decide_eq_true c3;clear c3;(first|rw [c3b0]|(simp only[i64_w,i32_w];rw[c3b0])|skip);have H':=Aside0.mk H;clear H;go_wp2;go_meet
     case rel=>exact⟨_,(decide (x3_1≤30)),(by first|rfl|(simp;done)|(simp[*];done)),H',⟨by have:=HK1.out;first|omega|exact Nat.le_refl _⟩,by repeat (first|exact Drawn0.refl _|apply Drawn0.step)⟩
    ·rw[if_neg c3]at H
     have c3b0:decide (x3_1≤(a0.size:Int))=false:=decide_eq_false c3;clear c3;(first|rw [c3b0]|(simp only[i64_w,i32_w];rw[c3b0])|skip);have H':=Aside0.mk H;clear H;go_wp2;go_meet
     case rel=>exact⟨_,(false),(by first|rfl|(simp;done)|(simp[*];done)),H',⟨by have:=HK1.out;first|omega|exact Nat.le_refl _⟩,by repeat (first|exact Drawn0.refl _|apply Drawn0.step)⟩
   case rest=>
    clear HC2;(try clear p2);(try clear c3);(try clear c3b0);obtain⟨kq,x11_1,rfl,HA,HJ1,⟨mc1,rfl⟩⟩:=hcut
    cases kq with
    |zero=>exact absurd HA.out (by simp[hornbookref02_end.j1])
    |succ kj1=>
     have H:=HA.out
     clear HA;simp only[hornbookref02_end.j1]at H
     by_cases c4:x11_1=true
     ·subst c4
      have H1:(if 0≤x3_1 then(if x3_1≤(a0.size:Int)then((hornbookref02_Right.f kj1 (a0.extract 0 (x3_1:Int).toNat)).bind fun t147=>(if t147=true then(some x3_1)else(hornbookref02_end.l0 kj1 a0 (wrap64 (x3_1+1)))))else(none))else(none))=some r:=by rw[if_pos rfl]at H;exact H
      clear H
      have H:=H1
      clear H1
      by_cases c5:0≤x3_1
      ·rw[if_pos c5]at H
       have c5b0:=eq_true c5
       have c5b1:decide (0≤x3_1)=true:=decide_eq_true c5;clear c5
       by_cases c6:x3_1≤(a0.size:Int)
       ·rw[if_pos c6]at H
        have c6b0:=eq_true c6
        have c6b1:decide (x3_1≤(a0.size:Int))=true:=decide_eq_true c6;clear c6;replace H:=Option.bind_eq_some_iff.mp H;obtain⟨t147,A70,H⟩:=H;replace H:(if t147=true then(some x3_1)else(hornbookref02_end.l0 kj1 a0 (wrap64 (x3_1+1))))=some r:=H
        have A7:=Aside0.mk A70
        clear A70
        by_cases c8:t147=true
        ·subst c8
         have H1:(some x3_1)=some r:=by rw[if_pos rfl]at H;exact H
         clear H
         have H:=H1
         clear H1;obtain rfl:=Option.some.inj H
         go_wp2_with (first|((with_reducible refine gate_callee (f:=28) rfl ?_);refine goesL_ (some 17) rfl rfl Tryd.func28 (by kernel_rfl) rfl #[.string (a0.extract 0 (x3_1:Int).toNat)] rfl (by(try simp only[List.map_toArray,List.map_cons,List.map_nil]);first|done|rfl|(simp only[List.length_drop,List.length_take];rfl)) ?_;(with_reducible refine(hornbookref02_Right.calls kj1 (a0.extract 0 (x3_1:Int).toNat) true _ A7.out).mono ?_);rintro e w' ⟨rfl,⟨nd,rfl⟩⟩;refine⟨_,rfl,?_⟩))
         all_goals go_ret
         all_goals exact⟨by first|rfl|(simp;done)|(simp[*];done),by repeat (first|exact Drawn0.refl _|apply Drawn0.step)⟩
        ·replace c8:=Bool.eq_false_iff.mpr c8
         subst c8
         have H1:(hornbookref02_end.l0 kj1 a0 (wrap64 (x3_1+1)))=some r:=by rw[if_neg (show¬(false=true) by decide)]at H;exact H
         clear H
         have H:=H1
         clear H1;have H':=Aside0.mk H;clear H
         go_wp2_with (first|((with_reducible refine gate_callee (f:=28) rfl ?_);refine goesL_ (some 17) rfl rfl Tryd.func28 (by kernel_rfl) rfl #[.string (a0.extract 0 (x3_1:Int).toNat)] rfl (by(try simp only[List.map_toArray,List.map_cons,List.map_nil]);first|done|rfl|(simp only[List.length_drop,List.length_take];rfl)) ?_;(with_reducible refine(hornbookref02_Right.calls kj1 (a0.extract 0 (x3_1:Int).toNat) false _ A7.out).mono ?_);rintro e w' ⟨rfl,⟨nd,rfl⟩⟩;refine⟨_,rfl,?_⟩))
         go_roundg kj1
         case measure=>have:=HK1.out;have:=HJ1.out;omega
         case rel=>exact⟨(wrap64 (x3_1+1)),(by first|rfl|(simp;done)|(simp[*];done)),H',⟨by have:=HK1.out;have:=HJ1.out;omega⟩,by repeat (first|exact Drawn0.refl _|apply Drawn0.step)⟩
       ·rw[if_neg c6]at H
        exact absurd H (by simp)
      ·rw[if_neg c5]at H
       exact absurd H (by simp)
     ·replace c4:=Bool.eq_false_iff.mpr c4
      subst c4
      have H1:(some 0)=some r:=by rw[if_neg (show¬(false=true) by decide)]at H;exact H
      clear H
      have H:=H1
      clear H1;obtain rfl:=Option.some.inj H;go_wp2
      all_goals go_ret
      all_goals exact⟨by first|rfl|(simp;done)|(simp[*];done),by repeat (first|exact Drawn0.refl _|apply Drawn0.step)⟩
def hornbookref02_Sig.l0:Nat→ByteArray→List ByteArray→ByteArray→Int→Option (ByteArray×Int)
 |0,_,_,_,_=>none
 |k+1,x0,x1,x6,x7=>if x7<(x1.length:Int)then(if 0≤x7 then((hornbookref02_Right.f k (rdOf ByteArray.empty x1 x7)).bind fun t149=>(if t149=true then(if x6.size+(rdOf ByteArray.empty x1 x7).size≤9223372036854775807 then(hornbookref02_Sig.l0 k x0 x1 (x6++(rdOf ByteArray.empty x1 x7)) (wrap64 (x7+1)))else(none))else(some ((⟨#[]⟩:ByteArray),10))))else(none))else(if x0.toList=([86]:List UInt8)then(if x6.size+1≤9223372036854775807 then(if(x6++(⟨#[41]⟩:ByteArray)).size+x0.size≤9223372036854775807 then(some ((x6++(⟨#[41]⟩:ByteArray))++x0,0))else(none))else(none))else((hornbookref02_Right.f k x0).bind fun t151=>(if t151=true then(if x6.size+1≤9223372036854775807 then(if(x6++(⟨#[41]⟩:ByteArray)).size+x0.size≤9223372036854775807 then(some ((x6++(⟨#[41]⟩:ByteArray))++x0,0))else(none))else(none))else(some ((⟨#[]⟩:ByteArray),10)))))
def hornbookref02_Sig.f(k:Nat)(a0:ByteArray)(l1:List ByteArray):Option (ByteArray×Int):=if(l1.length:Int)>6 then(some ((⟨#[]⟩:ByteArray),2))else(hornbookref02_Sig.l0 k a0 l1 (⟨#[40]⟩:ByteArray) 0)
set_option maxHeartbeats 8000000 in
set_option maxRecDepth 100000 in
theorem hornbookref02_Sig.calls(k:Nat)(a0:ByteArray)(A1:Option Addr)(c1:Nat)(l1:List ByteArray)(r1:ByteArray)(r2:Int)(w:World)(hr1:Kd.C Kd.string w A1 l1.length l1)(hc1:l1.length≤c1)(h:hornbookref02_Sig.f k a0 l1=some (r1,r2)):
  Calls Tryd.prog 56 #[.string a0, .slice A1 l1.length c1] w fun e w'=>e= .returned (.tuple #[.string r1, .int .i64 r2])∧Drawn0 w w':=by
 have HR1:=Aside0.mk hr1
 have HC1:=Aside0.mk hc1
 clear hr1 hc1;have H:(if(l1.length:Int)>6 then(some ((⟨#[]⟩:ByteArray),2))else(hornbookref02_Sig.l0 k a0 l1 (⟨#[40]⟩:ByteArray) 0))=some (r1,r2):=h;clear h
 by_cases c3:(l1.length:Int)>6
 ·rw[if_pos c3]at H
  have c3b0:decide (6<(l1.length:Int))=true:=decide_eq_true c3;have c3b1:decide (6<l1.length)=true:=decide_eq_true (by omega);clear c3;simp only[Option.some.injEq,Prod.mk.injEq]at H;obtain⟨rfl,rfl⟩:=H
  go_enter Tryd.func56,Tryd.ntmps56
  go_wp2
  all_goals go_ret2
  all_goals exact⟨by first|rfl|(simp;done)|(simp[*];done),by repeat (first|exact Drawn0.refl _|apply Drawn0.step)⟩
 ·rw[if_neg c3]at H
  have c3b0:decide (6<(l1.length:Int))=false:=decide_eq_false c3;have c3b1:decide (6<l1.length)=false:=decide_eq_false (by omega);clear c3;have H':=Aside0.mk H;clear H
  go_enter Tryd.func56,Tryd.ntmps56
  go_wp2
  go_loopg [6,7] k (fun kq v6 v7 w'=> ∃(x6_1:ByteArray) (x7_1:Int),v6= .string x6_1∧v7= .int .i64 x7_1∧Aside0 (hornbookref02_Sig.l0 kq a0 l1 x6_1 x7_1=some (r1,r2))∧Aside0 (kq≤k)∧Drawn0 w w')
  case atStart=>exact⟨((⟨#[40]⟩:ByteArray)),(0),(by first|rfl|(simp;done)|(simp[*];done)),(by first|rfl|(simp;done)|(simp[*];done)),H',⟨Nat.le_refl _⟩,by repeat (first|exact Drawn0.refl _|apply Drawn0.step)⟩
  case round=>
   clear H';(try clear c1);(try clear p2);(try clear c3);(try clear c3b0);(try clear c3b1);obtain⟨x6_1,x7_1,rfl,rfl,HA,HK1,⟨m1,rfl⟩⟩:=hrel
   cases gk with
   |zero=>exact absurd HA.out (by simp[hornbookref02_Sig.l0])
   |succ k1=>
    have H:=HA.out
    clear HA;simp only[hornbookref02_Sig.l0]at H
    by_cases c4:x7_1<(l1.length:Int)
    ·rw[if_pos c4]at H
     have c4b0:decide (x7_1<(l1.length:Int))=true:=decide_eq_true c4;clear c4
     by_cases c5:0≤x7_1
     ·rw[if_pos c5]at H
      have c5b0:decide (0≤x7_1)=true:=decide_eq_true c5;clear c5;replace H:=Option.bind_eq_some_iff.mp H;obtain⟨t149,A60,H⟩:=H;replace H:(if t149=true then(if x6_1.size+(rdOf ByteArray.empty l1 x7_1).size≤9223372036854775807 then(hornbookref02_Sig.l0 k1 a0 l1 (x6_1++(rdOf ByteArray.empty l1 x7_1)) (wrap64 (x7_1+1)))else(none))else(some ((⟨#[]⟩:ByteArray),10)))=some (r1,r2):=H
      have A6:=Aside0.mk A60
      clear A60
      by_cases c7:t149=true
      ·subst c7
       have H1:(if x6_1.size+(rdOf ByteArray.empty l1 x7_1).size≤9223372036854775807 then(hornbookref02_Sig.l0 k1 a0 l1 (x6_1++(rdOf ByteArray.empty l1 x7_1)) (wrap64 (x7_1+1)))else(none))=some (r1,r2):=by rw[if_pos rfl]at H;exact H
       clear H
       have H:=H1
       clear H1
       by_cases c8:x6_1.size+(rdOf ByteArray.empty l1 x7_1).size≤9223372036854775807
       ·rw[if_pos c8]at H
        have c8b0:=eq_true c8
        have c8b1:decide (x6_1.size+(rdOf ByteArray.empty l1 x7_1).size≤9223372036854775807)=true:=decide_eq_true c8
        try have c8b2:(9223372036854775807<x6_1.size+(rdOf ByteArray.empty l1 x7_1).size)=False:=eq_false (Nat.not_lt.2 c8)
        have H':=Aside0.mk H;clear H;have p148:0≤(x7_1:Int):=of_decide_eq_true (by first|(with_reducible assumption)|assumption);have q148:x7_1<(l1.length:Int):=of_decide_eq_true (by first|(with_reducible assumption)|assumption);obtain⟨ad148,e148,hx148_0⟩:=Kd.at_string HR1.out x7_1 p148 q148;cases e148;replace p148:=eq_true p148;replace q148:=eq_true q148
        go_wp2_with (first|((with_reducible refine gate_callee (f:=28) rfl ?_);refine goesL_ (some 21) rfl rfl Tryd.func28 (by kernel_rfl) rfl #[.string (rdOf ByteArray.empty l1 x7_1)] rfl (by(try simp only[List.map_toArray,List.map_cons,List.map_nil]);first|done|rfl|(simp only[List.length_drop,List.length_take];rfl)) ?_;(with_reducible refine(hornbookref02_Right.calls k1 (rdOf ByteArray.empty l1 x7_1) true _ A6.out).mono ?_);rintro e w' ⟨rfl,⟨nd,rfl⟩⟩;refine⟨_,rfl,?_⟩;have p150:0≤(x7_1:Int):=of_decide_eq_true (by first|(with_reducible assumption)|assumption);have q150:x7_1<(l1.length:Int):=of_decide_eq_true (by first|(with_reducible assumption)|assumption);obtain⟨ad150,e150,hx150_0⟩:=Kd.at_string HR1.out x7_1 p150 q150;obtain rfl:ad148=ad150:=(by injection e150);replace p150:=eq_true p150;replace q150:=eq_true q150))
        go_roundg k1
        case measure=>have:=HK1.out;omega
        case rel=>exact⟨(x6_1++(rdOf ByteArray.empty l1 x7_1)),(wrap64 (x7_1+1)),(by first|rfl|(simp;done)|(simp[*];done)),(by first|rfl|(simp;done)|(simp[*];done)),H',⟨by have:=HK1.out;omega⟩,by repeat (first|exact Drawn0.refl _|apply Drawn0.step)⟩
       ·rw[if_neg c8]at H
        exact absurd H (by simp)
      ·replace c7:=Bool.eq_false_iff.mpr c7
       subst c7
       have H1:(some ((⟨#[]⟩:ByteArray),10))=some (r1,r2):=by rw[if_neg (show¬(false=true) by decide)]at H;exact H
       clear H
       have H:=H1
       clear H1;simp only[Option.some.injEq,Prod.mk.injEq]at H;obtain⟨rfl,rfl⟩:=H;have p148:0≤(x7_1:Int):=of_decide_eq_true (by first|(with_reducible assumption)|assumption);have q148:x7_1<(l1.length:Int):=of_decide_eq_true (by first|(with_reducible assumption)|assumption);obtain⟨ad148,e148,hx148_0⟩:=Kd.at_string HR1.out x7_1 p148 q148;cases e148;replace p148:=eq_true p148;replace q148:=eq_true q148
       go_wp2_with (first|((with_reducible refine gate_callee (f:=28) rfl ?_);refine goesL_ (some 21) rfl rfl Tryd.func28 (by kernel_rfl) rfl #[.string (rdOf ByteArray.empty l1 x7_1)] rfl (by(try simp only[List.map_toArray,List.map_cons,List.map_nil]);first|done|rfl|(simp only[List.length_drop,List.length_take];rfl)) ?_;(with_reducible refine(hornbookref02_Right.calls k1 (rdOf ByteArray.empty l1 x7_1) false _ A6.out).mono ?_);rintro e w' ⟨rfl,⟨nd,rfl⟩⟩;refine⟨_,rfl,?_⟩))
       all_goals go_ret2
       all_goals exact⟨by first|rfl|(simp;done)|(simp[*];done),by repeat (first|exact Drawn0.refl _|apply Drawn0.step)⟩
     ·rw[if_neg c5]at H
      exact absurd H (by simp)
    ·rw[if_neg c4]at H
     have c4b0:decide (x7_1<(l1.length:Int))=false:=decide_eq_false c4;clear c4
     by_cases c9:a0.toList=([86]:List UInt8)
     ·rw[if_pos c9]at H
      have c9b0:(a0.toList==([86]:List UInt8))=true:=beq_iff_eq.mpr c9;have c9b1:(a0.toList !=([86]:List UInt8))=false:=bne_eq_false_iff_eq.mpr c9;clear c9
      by_cases c10:x6_1.size+1≤9223372036854775807
      ·rw[if_pos c10]at H
       have c10b0:=eq_true c10
       have c10b1:decide (x6_1.size+1≤9223372036854775807)=true:=decide_eq_true c10
       try have c10b2:(9223372036854775807<x6_1.size+1)=False:=eq_false (Nat.not_lt.2 c10)
       by_cases c11:(x6_1++(⟨#[41]⟩:ByteArray)).size+a0.size≤9223372036854775807
       ·rw[if_pos c11]at H
        have c11b0:=eq_true c11
        have c11b1:decide ((x6_1++(⟨#[41]⟩:ByteArray)).size+a0.size≤9223372036854775807)=true:=decide_eq_true c11
        try have c11b2:(9223372036854775807<(x6_1++(⟨#[41]⟩:ByteArray)).size+a0.size)=False:=eq_false (Nat.not_lt.2 c11)
        try have c11bx:(9223372036854775807<x6_1.size+1+a0.size)=False:=eq_false (Nat.not_lt.2 (by have h_:=c11;simp only[ByteArray.size_append]at h_;exact h_))
        simp only[Option.some.injEq,Prod.mk.injEq]at H;obtain⟨rfl,rfl⟩:=H;go_wp2
        all_goals go_ret2
        all_goals exact⟨by first|rfl|(simp;done)|(simp[*];done),by repeat (first|exact Drawn0.refl _|apply Drawn0.step)⟩
       ·rw[if_neg c11]at H
        exact absurd H (by simp)
      ·rw[if_neg c10]at H
       exact absurd H (by simp)
     ·rw[if_neg c9]at H
      have c9b0:(a0.toList==([86]:List UInt8))=false:=beq_eq_false_iff_ne.mpr c9;have c9b1:(a0.toList !=([86]:List UInt8))=true:=bne_iff_ne.mpr c9;replace H:=Option.bind_eq_some_iff.mp H;obtain⟨t151,A120,H⟩:=H;replace H:(if t151=true then(if x6_1.size+1≤9223372036854775807 then(if(x6_1++(⟨#[41]⟩:ByteArray)).size+a0.size≤9223372036854775807 then(some ((x6_1++(⟨#[41]⟩:ByteArray))++a0,0))else(none))else(none))else(some ((⟨#[]⟩:ByteArray),10)))=some (r1,r2):=H
      have A12:=Aside0.mk A120
      clear A120
      by_cases c13:t151=true
      ·subst c13
       have H1:(if x6_1.size+1≤9223372036854775807 then(if(x6_1++(⟨#[41]⟩:ByteArray)).size+a0.size≤9223372036854775807 then(some ((x6_1++(⟨#[41]⟩:ByteArray))++a0,0))else(none))else(none))=some (r1,r2):=by rw[if_pos rfl]at H;exact H
       clear H
       have H:=H1
       clear H1
       by_cases c14:x6_1.size+1≤9223372036854775807
       ·rw[if_pos c14]at H
        have c14b0:=eq_true c14
        have c14b1:decide (x6_1.size+1≤9223372036854775807)=true:=decide_eq_true c14
        try have c14b2:(9223372036854775807<x6_1.size+1)=False:=eq_false (Nat.not_lt.2 c14)
        by_cases c15:(x6_1++(⟨#[41]⟩:ByteArray)).size+a0.size≤9223372036854775807
        ·rw[if_pos c15]at H
         have c15b0:=eq_true c15
         have c15b1:decide ((x6_1++(⟨#[41]⟩:ByteArray)).size+a0.size≤9223372036854775807)=true:=decide_eq_true c15
         try have c15b2:(9223372036854775807<(x6_1++(⟨#[41]⟩:ByteArray)).size+a0.size)=False:=eq_false (Nat.not_lt.2 c15)
         try have c15bx:(9223372036854775807<x6_1.size+1+a0.size)=False:=eq_false (Nat.not_lt.2 (by have h_:=c15;simp only[ByteArray.size_append]at h_;exact h_))
         simp only[Option.some.injEq,Prod.mk.injEq]at H;obtain⟨rfl,rfl⟩:=H
         go_wp2_with (first|(go_at_call 28;(with_reducible refine(hornbookref02_Right.calls k1 a0 true _ A12.out).mono ?_);rintro e w' ⟨rfl,⟨nd,rfl⟩⟩))
         all_goals go_ret2
         all_goals exact⟨by first|rfl|(simp;done)|(simp[*];done),by repeat (first|exact Drawn0.refl _|apply Drawn0.step)⟩
        ·rw[if_neg c15]at H
         exact absurd H (by simp)
       ·rw[if_neg c14]at H
        exact absurd H (by simp)
      ·replace c13:=Bool.eq_false_iff.mpr c13
       subst c13
       have H1:(some ((⟨#[]⟩:ByteArray),10))=some (r1,r2):=by rw[if_neg (show¬(false=true) by decide)]at H;exact H
       clear H
       have H:=H1
       clear H1;simp only[Option.some.injEq,Prod.mk.injEq]at H;obtain⟨rfl,rfl⟩:=H
       go_wp2_with (first|(go_at_call 28;(with_reducible refine(hornbookref02_Right.calls k1 a0 false _ A12.out).mono ?_);rintro e w' ⟨rfl,⟨nd,rfl⟩⟩))
       all_goals go_ret2
       all_goals exact⟨by first|rfl|(simp;done)|(simp[*];done),by repeat (first|exact Drawn0.refl _|apply Drawn0.step)⟩
mutual
def hornbookref02_Split.j0:Nat→ByteArray→List ByteArray→Bool→Option (ByteArray×List ByteArray×Int)
 |0,_,_,_=>none
 |k+1,x0,x5,x17=>if x17=true then(some ((⟨#[]⟩:ByteArray),([]:List ByteArray),5))else(if 1≤(x0.size:Int)then(hornbookref02_Split.l0 k x0 x5 (x0.extract 1 x0.size))else(none))
def hornbookref02_Split.l0:Nat→ByteArray→List ByteArray→ByteArray→Option (ByteArray×List ByteArray×Int)
 |0,_,_,_=>none
 |k+1,x0,x5,x6=>if(x6.size:Int)>0 then(if 0<(x6.size:Int)then(if(bt x6 0)=41 then(hornbookref02_Split.j2 k x0 x5 x6 false)else(hornbookref02_Split.j2 k x0 x5 x6 (decide ((x5.length:Int)≤6))))else(none))else(hornbookref02_Split.j2 k x0 x5 x6 false)
def hornbookref02_Split.j2:Nat→ByteArray→List ByteArray→ByteArray→Bool→Option (ByteArray×List ByteArray×Int)
 |0,_,_,_,_=>none
 |k+1,x0,x5,x6,x32=>if x32=true then((hornbookref02_end.f k x6).bind fun t152=>(if t152=0 then(some ((⟨#[]⟩:ByteArray),([]:List ByteArray),5))else(if 0≤t152 then(if t152≤(x6.size:Int)then(if x5.length<8796093022208 then(hornbookref02_Split.l0 k x0 (x5++ [x6.extract 0 (t152:Int).toNat]) (x6.extract (t152:Int).toNat x6.size))else(none))else(none))else(none))))else(if(x6.size:Int)<1 then(hornbookref02_Split.j3 k x0 x5 x6 true)else(if 0<(x6.size:Int)then(hornbookref02_Split.j3 k x0 x5 x6 ((bt x6 0) !=41))else(none)))
def hornbookref02_Split.j3:Nat→ByteArray→List ByteArray→ByteArray→Bool→Option (ByteArray×List ByteArray×Int)
 |0,_,_,_,_=>none
 |k+1,x0,x5,x6,x53=>if x53=true then(some ((⟨#[]⟩:ByteArray),([]:List ByteArray),5))else(if 1≤(x6.size:Int)then((hornbookref02_Sig.f k (x6.extract 1 x6.size) x5).bind fun bt156=>(if bt156.2=0 then(if bt156.1.toList=x0.toList then(some (x6.extract 1 x6.size,x5,0))else(some ((⟨#[]⟩:ByteArray),([]:List ByteArray),5)))else(some ((⟨#[]⟩:ByteArray),([]:List ByteArray),5))))else(none))
end
def hornbookref02_Split.f(k:Nat)(a0:ByteArray):Option (ByteArray×List ByteArray×Int):=if(a0.size:Int)<1 then(hornbookref02_Split.j0 k a0 ([]:List ByteArray) true)else(if 0<(a0.size:Int)then(hornbookref02_Split.j0 k a0 ([]:List ByteArray) ((bt a0 0) !=40))else(none))
set_option maxHeartbeats 8000000 in
set_option maxRecDepth 100000 in
theorem hornbookref02_Split.calls(k:Nat)(a0:ByteArray)(r1:ByteArray)(r2:List ByteArray)(r3:Int)(w:World)(h:hornbookref02_Split.f k a0=some (r1,r2,r3)):
  Calls Tryd.prog 30 #[.string a0] w fun e w'=> ∃v1_:Value,e= .returned (.tuple #[.string r1,v1_, .int .i64 r3])∧Kd.R Kd.string 9 w' w.heap.size (fun _=>True) v1_ r2∧Below w.heap.size w w':=by
 have HB:=Aside0.mk (Below.refl w.heap.size w)
 have H:(if(a0.size:Int)<1 then(hornbookref02_Split.j0 k a0 ([]:List ByteArray) true)else(if 0<(a0.size:Int)then(hornbookref02_Split.j0 k a0 ([]:List ByteArray) ((bt a0 0) !=40))else(none)))=some (r1,r2,r3):=h;clear h
 have HC2:=Aside0.mk H
 clear H
 go_enter Tryd.func30,Tryd.ntmps30
 go_upto_region 2 with(fail)
 go_cut [17] (fun v17 wc=> ∃(kq:Nat) (x17_1:Bool),v17= .bool x17_1∧Aside0 (hornbookref02_Split.j0 kq a0 ([]:List ByteArray) x17_1=some (r1,r2,r3))∧Aside0 (kq≤k)∧Aside0 (Kd.R Kd.string 9 wc w.heap.size (fun _=>True) (.slice none 0 0) ([]:List ByteArray))∧Aside0 (Below w.heap.size w wc))
 case first=>
  have H:=HC2.out
  clear HC2
  by_cases c3:(a0.size:Int)<1
  ·rw[if_pos c3]at H
   have c3b0:decide ((a0.size:Int)<1)=true:=decide_eq_true c3;have c3b1:decide (a0.size<1)=true:=decide_eq_true (by omega);clear c3;(first|rw [c3b0]|(simp only[i64_w,i32_w];rw[c3b0])|skip);have H':=Aside0.mk H;clear H;go_wp2;go_meet
   case rel=>exact⟨_,(true),(by first|rfl|(simp;done)|(simp[*];done)),H',⟨by first|omega|exact Nat.le_refl _⟩,⟨by first|exact Kd.R_nil _ _ _ _ _|exact Kd.N_nil _ _ _ _ _|exact Kd.V_nil _ _ _ _ _|exact Kd.Q_nil _ _ _ _ _|exact Kd.S_nil _ _ _ _ _⟩,⟨by repeat (first|(with_reducible first|exact HB.out|apply below_alloc|apply pw_below_drewN|apply below_drew1)|exact HB.out)⟩⟩
  ·rw[if_neg c3]at H
   have c3b0:decide ((a0.size:Int)<1)=false:=decide_eq_false c3;have c3b1:decide (a0.size<1)=false:=decide_eq_false (by omega);clear c3;(first|rw [c3b0]|(simp only[i64_w,i32_w];rw[c3b0])|skip)
   by_cases c4:0<(a0.size:Int)
   ·rw[if_pos c4]at H
    have c4b0:decide (0<(a0.size:Int))=true:=decide_eq_true c4;have c4b1:decide (0<a0.size)=true:=decide_eq_true (by omega);clear c4;have H':=Aside0.mk H;clear H;have p5:0≤(0:Int):=(by omega);have q5:0<a0.size:=(by have:(0:Int)<(a0.size:Int):=of_decide_eq_true (by first|(with_reducible assumption)|assumption);omega);have hx5: ∀h:0<a0.size,((a0[0]'h).toNat:Int)=bt a0 0:=bt_at a0 0;clear p5;have qi5:(0<(a0.size:Int))=True:=eq_true (of_decide_eq_true (by first|(with_reducible assumption)|assumption));replace q5:=eq_true q5
    go_wp2;go_meet
    case rel=>exact⟨_,(((bt a0 0) !=40)),(by first|rfl|(simp;done)|(simp[*];done)),H',⟨by first|omega|exact Nat.le_refl _⟩,⟨by first|exact Kd.R_nil _ _ _ _ _|exact Kd.N_nil _ _ _ _ _|exact Kd.V_nil _ _ _ _ _|exact Kd.Q_nil _ _ _ _ _|exact Kd.S_nil _ _ _ _ _⟩,⟨by repeat (first|(with_reducible first|exact HB.out|apply below_alloc|apply pw_below_drewN|apply below_drew1)|exact HB.out)⟩⟩
   ·rw[if_neg c4]at H
    exact absurd H (by simp)
 case rest=>
  clear HC2;(try clear p2);(try clear c3);(try clear c3b0);(try clear c3b1);(try clear c4);(try clear c4b0);(try clear c4b1);(try clear p5);(try clear q5);(try clear hx5);(try clear qi5);(try clear p5);(try clear q5);obtain⟨kq,x17_1,rfl,HA,HJ1,HO_5,HB⟩:=hcut
  cases kq with
  |zero=>exact absurd HA.out (by simp[hornbookref02_Split.j0])
  |succ kj1=>
   have H:=HA.out
   clear HA;simp only[hornbookref02_Split.j0]at H
   by_cases c6:x17_1=true
   ·subst c6
    have H1:(some ((⟨#[]⟩:ByteArray),([]:List ByteArray),5))=some (r1,r2,r3):=by rw[if_pos rfl]at H;exact H
    clear H
    have H:=H1
    clear H1;simp only[Option.some.injEq,Prod.mk.injEq]at H;obtain⟨rfl,rfl,rfl⟩:=H;go_wp2;go_ret3;exact⟨_,by first|rfl|(simp[errW_none,errW_some]<;>rfl)|(simp[*,errW_none,errW_some]<;>rfl),by first|exact Kd.R_nil _ _ _ _ _|exact Kd.N_nil _ _ _ _ _|exact Kd.V_nil _ _ _ _ _|exact Kd.Q_nil _ _ _ _ _|exact Kd.S_nil _ _ _ _ _,by repeat (first|(with_reducible first|exact HB.out|apply below_alloc|apply pw_below_drewN|apply below_drew1)|exact HB.out)⟩
   ·replace c6:=Bool.eq_false_iff.mpr c6
    subst c6
    have H1:(if 1≤(a0.size:Int)then(hornbookref02_Split.l0 kj1 a0 ([]:List ByteArray) (a0.extract 1 a0.size))else(none))=some (r1,r2,r3):=by rw[if_neg (show¬(false=true) by decide)]at H;exact H
    clear H
    have H:=H1
    clear H1
    by_cases c7:1≤(a0.size:Int)
    ·rw[if_pos c7]at H
     have c7b0:=eq_true c7
     have c7b1:decide (1≤(a0.size:Int))=true:=decide_eq_true c7;clear c7;have H':=Aside0.mk H;clear H;go_wp2
     go_loopg [5,6] kj1 (fun kq v5 v6 w'=> ∃(x5_2:List ByteArray) (x6_2:ByteArray),v6= .string x6_2∧Aside0 (hornbookref02_Split.l0 kq a0 x5_2 x6_2=some (r1,r2,r3))∧Aside0 (kq≤kj1)∧Aside0 (Kd.R Kd.string 9 w' w.heap.size (fun _=>True) v5 x5_2)∧Aside0 (Below w.heap.size w w'))
     case atStart=>exact⟨(([]:List ByteArray)),(a0.extract 1 a0.size),(by first|rfl|(simp;done)|(simp[*];done)),H',⟨Nat.le_refl _⟩,⟨by(with_reducible repeat (first|apply Kd.R_alloc|apply Kd.R_drewN|apply Kd.R_drew));exact HO_5.out⟩,⟨by repeat (first|(with_reducible first|exact HB.out|apply below_alloc|apply pw_below_drewN|apply below_drew1)|exact HB.out)⟩⟩
     case round=>
      clear H';(try clear p2);(try clear c3);(try clear c3b0);(try clear c3b1);(try clear c4);(try clear c4b0);(try clear c4b1);(try clear p5);(try clear q5);(try clear hx5);(try clear qi5);(try clear c6);(try clear c7);(try clear c7b0);(try clear c7b1);(try clear p2);(try clear p5);(try clear q5);obtain⟨x5_2,x6_2,rfl,HA,HK2,HO_5,HB⟩:=hrel
      cases gk with
      |zero=>exact absurd HA.out (by simp[hornbookref02_Split.l0])
      |succ k2=>
       have H:=HA.out
       clear HA;simp only[hornbookref02_Split.l0]at H
       have HC8:=Aside0.mk H
       clear H
       go_upto_region 5 with(fail)
       go_cut [32] (fun v32 wc=> ∃(kq:Nat) (x32_7:Bool),v32= .bool x32_7∧Aside0 (hornbookref02_Split.j2 kq a0 x5_2 x6_2 x32_7=some (r1,r2,r3))∧Aside0 (kq≤k2)∧Aside0 (Kd.R Kd.string 9 wc w.heap.size (fun _=>True) u5 x5_2)∧Aside0 (Below w.heap.size w wc))
       case first=>
        have H:=HC8.out
        clear HC8
        by_cases c9:(x6_2.size:Int)>0
        ·rw[if_pos c9]at H
         have c9b0:decide (0<(x6_2.size:Int))=true:=decide_eq_true c9;have c9b1:decide (0<x6_2.size)=true:=decide_eq_true (by omega);clear c9;(first|rw [c9b0]|(simp only[i64_w,i32_w];rw[c9b0])|skip)
         by_cases c10:0<(x6_2.size:Int)
         ·rw[if_pos c10]at H
          have c10b0:decide (0<(x6_2.size:Int))=true:=decide_eq_true c10;have c10b1:decide (0<x6_2.size)=true:=decide_eq_true (by omega);clear c10
          by_cases c12:(bt x6_2 0)=41
          ·rw[if_pos c12]at H
           have c12b0:((bt x6_2 0)==41)=true:=beq_iff_eq.mpr c12;have c12b1:((bt x6_2 0) !=41)=false:=bne_eq_false_iff_eq.mpr c12;clear c12;have H':=Aside0.mk H;clear H;have p11:0≤(0:Int):=(by omega);have q11:0<x6_2.size:=(by have:(0:Int)<(x6_2.size:Int):=of_decide_eq_true (by first|(with_reducible assumption)|assumption);omega);have hx11: ∀h:0<x6_2.size,((x6_2[0]'h).toNat:Int)=bt x6_2 0:=bt_at x6_2 0;clear p11;have qi11:(0<(x6_2.size:Int))=True:=eq_true (of_decide_eq_true (by first|(with_reducible assumption)|assumption))
           replace q11:=eq_true q11;go_wp2;go_meet
           case rel=>exact⟨_,(false),(by first|rfl|(simp;done)|(simp[*];done)),H',⟨by have:=HJ1.out;have:=HK2.out;first|omega|exact Nat.le_refl _⟩,⟨by(with_reducible repeat (first|apply Kd.R_alloc|apply Kd.R_drewN|apply Kd.R_drew));exact HO_5.out⟩,⟨by repeat (first|(with_reducible first|exact HB.out|apply below_alloc|apply pw_below_drewN|apply below_drew1)|exact HB.out)⟩⟩
          ·rw[if_neg c12]at H
           have c12b0:((bt x6_2 0)==41)=false:=beq_eq_false_iff_ne.mpr c12;have c12b1:((bt x6_2 0) !=41)=true:=bne_iff_ne.mpr c12;have H':=Aside0.mk H;clear H;have p11:0≤(0:Int):=(by omega);have q11:0<x6_2.size:=(by have:(0:Int)<(x6_2.size:Int):=of_decide_eq_true (by first|(with_reducible assumption)|assumption);omega);have hx11: ∀h:0<x6_2.size,((x6_2[0]'h).toNat:Int)=bt x6_2 0:=bt_at x6_2 0;clear p11;have qi11:(0<(x6_2.size:Int))=True:=eq_true (of_decide_eq_true (by first|(with_reducible assumption)|assumption))
           replace q11:=eq_true q11;obtain⟨Ao13,co13,eo13⟩:=Kd.R_slice HO_5.out;subst eo13;go_wp2;go_meet
           case rel=>exact⟨_,(decide ((x5_2.length:Int)≤6)),(by first|rfl|(simp;done)|(simp[*];done)),H',⟨by have:=HJ1.out;have:=HK2.out;first|omega|exact Nat.le_refl _⟩,⟨by(with_reducible repeat (first|apply Kd.R_alloc|apply Kd.R_drewN|apply Kd.R_drew));exact HO_5.out⟩,⟨by repeat (first|(with_reducible first|exact HB.out|apply below_alloc|apply pw_below_drewN|apply below_drew1)|exact HB.out)⟩⟩
         ·rw[if_neg c10]at H
          exact absurd H (by simp)
        ·rw[if_neg c9]at H
         have c9b0:decide (0<(x6_2.size:Int))=false:=decide_eq_false c9;have c9b1:decide (0<x6_2.size)=false:=decide_eq_false (by omega);clear c9;(first|rw [c9b0]|(simp only[i64_w,i32_w];rw[c9b0])|skip);have H':=Aside0.mk H;clear H;go_wp2;go_meet
         case rel=>exact⟨_,(false),(by first|rfl|(simp;done)|(simp[*];done)),H',⟨by have:=HJ1.out;have:=HK2.out;first|omega|exact Nat.le_refl _⟩,⟨by(with_reducible repeat (first|apply Kd.R_alloc|apply Kd.R_drewN|apply Kd.R_drew));exact HO_5.out⟩,⟨by repeat (first|(with_reducible first|exact HB.out|apply below_alloc|apply pw_below_drewN|apply below_drew1)|exact HB.out)⟩⟩
       case rest=>
        clear HC8;(try clear c1);(try clear p1);(try clear q1);(try clear hx1);(try clear qi1);(try clear p2);(try clear c3);(try clear c3b0);(try clear c3b1);(try clear c4);(try clear c4b0);(try clear c4b1);(try clear p5);(try clear q5);(try clear hx5);(try clear qi5);(try clear c6);(try clear c7);(try clear c7b0);(try clear c7b1);(try clear c9);(try clear c9b0);(try clear c9b1);(try clear c10);(try clear c10b0);(try clear c10b1);(try clear p11);(try clear q11);(try clear hx11);(try clear qi11);(try clear c12);(try clear c12b0);(try clear c12b1);(try clear p11)
        (try clear p2);(try clear p5);(try clear q11);(try clear q5);obtain⟨kq,x32_7,rfl,HA,HJ7,HO_5,HB⟩:=hcut
        cases kq with
        |zero=>exact absurd HA.out (by simp[hornbookref02_Split.j2])
        |succ kj7=>
         have H:=HA.out
         clear HA;simp only[hornbookref02_Split.j2]at H
         by_cases c14:x32_7=true
         ·subst c14
          have H1:((hornbookref02_end.f kj7 x6_2).bind fun t152=>(if t152=0 then(some ((⟨#[]⟩:ByteArray),([]:List ByteArray),5))else(if 0≤t152 then(if t152≤(x6_2.size:Int)then(if x5_2.length<8796093022208 then(hornbookref02_Split.l0 kj7 a0 (x5_2++ [x6_2.extract 0 (t152:Int).toNat]) (x6_2.extract (t152:Int).toNat x6_2.size))else(none))else(none))else(none))))=some (r1,r2,r3):=by rw[if_pos rfl]at H;exact H
          clear H
          have H:=H1
          clear H1;replace H:=Option.bind_eq_some_iff.mp H;obtain⟨t152,A150,H⟩:=H;replace H:(if t152=0 then(some ((⟨#[]⟩:ByteArray),([]:List ByteArray),5))else(if 0≤t152 then(if t152≤(x6_2.size:Int)then(if x5_2.length<8796093022208 then(hornbookref02_Split.l0 kj7 a0 (x5_2++ [x6_2.extract 0 (t152:Int).toNat]) (x6_2.extract (t152:Int).toNat x6_2.size))else(none))else(none))else(none)))=some (r1,r2,r3):=H
          have A15:=Aside0.mk A150
          clear A150
          by_cases c16:t152=0
          ·rw[if_pos c16]at H
           have c16b0:(t152==0)=true:=beq_iff_eq.mpr c16;have c16b1:(t152 !=0)=false:=bne_eq_false_iff_eq.mpr c16;clear c16;simp only[Option.some.injEq,Prod.mk.injEq]at H;obtain⟨rfl,rfl,rfl⟩:=H
           go_wp2_with (first|((with_reducible refine gate_callee (f:=55) rfl ?_);refine goesL_ (some 34) rfl rfl Tryd.func55 (by kernel_rfl) rfl #[.string x6_2] rfl (by(try simp only[List.map_toArray,List.map_cons,List.map_nil]);first|done|rfl|(simp only[List.length_drop,List.length_take];rfl)) ?_;(with_reducible refine(hornbookref02_end.calls kj7 x6_2 t152 _ A15.out).mono ?_);rintro e w' ⟨rfl,⟨nd,rfl⟩⟩;refine⟨_,rfl,?_⟩))
           go_ret3;exact⟨_,by first|rfl|(simp[errW_none,errW_some]<;>rfl)|(simp[*,errW_none,errW_some]<;>rfl),by first|exact Kd.R_nil _ _ _ _ _|exact Kd.N_nil _ _ _ _ _|exact Kd.V_nil _ _ _ _ _|exact Kd.Q_nil _ _ _ _ _|exact Kd.S_nil _ _ _ _ _,by repeat (first|(with_reducible first|exact HB.out|apply below_alloc|apply pw_below_drewN|apply below_drew1)|exact HB.out)⟩
          ·rw[if_neg c16]at H
           have c16b0:(t152==0)=false:=beq_eq_false_iff_ne.mpr c16;have c16b1:(t152 !=0)=true:=bne_iff_ne.mpr c16
           by_cases c17:0≤t152
           ·rw[if_pos c17]at H
            have c17b0:=eq_true c17
            have c17b1:decide (0≤t152)=true:=decide_eq_true c17;clear c17
            by_cases c18:t152≤(x6_2.size:Int)
            ·rw[if_pos c18]at H
             have c18b0:=eq_true c18
             have c18b1:decide (t152≤(x6_2.size:Int))=true:=decide_eq_true c18;clear c18
             by_cases c19:x5_2.length<8796093022208
             ·rw[if_pos c19]at H
              have LMc19:=Aside0.mk c19
              clear c19;obtain⟨y153,hy153⟩: ∃y_:List ByteArray,y_=(x5_2++ [x6_2.extract 0 (t152:Int).toNat]):=⟨_,rfl⟩
              replace H:(hornbookref02_Split.l0 kj7 a0 y153 (x6_2.extract (t152:Int).toNat x6_2.size))=some (r1,r2,r3):=by first|(rw[hy153];with_reducible exact H)|(have H2_:=(Option.bind_some _ _).symm.trans H;rw[hy153];with_reducible exact H2_)|(have H2_:=(Option.bind_some _ _).symm.trans H;with_reducible exact H2_)|with_reducible exact H|(rw[hy153];exact H)|exact H
              have Ny153:=Aside0.mk hy153
              clear hy153
              have c20b0:=eq_true (of_decide_eq_true (by first|(with_reducible assumption)|assumption):0≤t152)
              have c21b0:=eq_true (of_decide_eq_true (by first|(with_reducible assumption)|assumption):t152≤(x6_2.size:Int))
              have H':=Aside0.mk H;clear H
              go_wp2_with (first|((with_reducible refine gate_callee (f:=55) rfl ?_);refine goesL_ (some 34) rfl rfl Tryd.func55 (by kernel_rfl) rfl #[.string x6_2] rfl (by(try simp only[List.map_toArray,List.map_cons,List.map_nil]);first|done|rfl|(simp only[List.length_drop,List.length_take];rfl)) ?_;(with_reducible refine(hornbookref02_end.calls kj7 x6_2 t152 _ A15.out).mono ?_);rintro e w' ⟨rfl,⟨nd,rfl⟩⟩;refine⟨_,rfl,?_⟩)|((with_reducible refine gate_builtin (b:= .append) (xs:= #[.tmp 37, .tmp 41]) rfl ?_);(try (refine gate_guard (by rfl) ?_;dsimp only));at_builtin;refine Kd.R_append Kd.string (w0:=w) w.heap.size rfl (.tmp 37) (.tmp 41) 31 9 (.string ⟨#[]⟩) 16 rfl Tryd.underlying31 info9 rfl (by decide) (by omega) u5 x5_2 (x6_2.extract 0 (t152:Int).toNat) [.string (x6_2.extract 0 (t152:Int).toNat)] (fun _=>True) (fun _=>False) rfl rfl ?aP (fun _ hk=>hk.elim) ?aF ?aO ?aB ?aS ?aL ?_;(case aP=>exact rfl);(case aB=>exact(by repeat (first|(with_reducible first|exact HB.out|apply below_alloc|apply pw_below_drewN|apply below_drew1)|exact HB.out)));(case aF=>exact(fun _ _=>trivial));(case aO=>exact(by(with_reducible repeat (first|apply Kd.R_alloc|apply Kd.R_drewN|apply Kd.R_drew));exact HO_5.out));(case aS=>exact(below_size (by repeat (first|(with_reducible first|exact HB.out|apply below_alloc|apply pw_below_drewN|apply below_drew1)|exact HB.out))));(case aL=>have:=LMc19.out;omega);intro v154 w22 ho hb hg hat;rw[←Ny153.out]at ho;have n0_:=Aside0.mk (hb);have n1_:=Aside0.mk (ho);clear HB;clear HO_5;have HB:=n0_;have HO155:=n1_;clear n0_ n1_;clear ho hb hg hat))
              go_roundg kj7
              case measure=>have:=HJ1.out;have:=HK2.out;have:=HJ7.out;omega
              case rel=>exact⟨(y153),(x6_2.extract (t152:Int).toNat x6_2.size),(by first|rfl|(simp;done)|(simp[*];done)),H',⟨by have:=HJ1.out;have:=HK2.out;have:=HJ7.out;omega⟩,⟨by(with_reducible repeat (first|apply Kd.R_alloc|apply Kd.R_drewN|apply Kd.R_drew));exact HO155.out⟩,⟨by repeat (first|(with_reducible first|exact HB.out|apply below_alloc|apply pw_below_drewN|apply below_drew1)|exact HB.out)⟩⟩
             ·rw[if_neg c19]at H
              exact absurd H (by simp)
            ·rw[if_neg c18]at H
             exact absurd H (by simp)
           ·rw[if_neg c17]at H
            exact absurd H (by simp)
         ·replace c14:=Bool.eq_false_iff.mpr c14
          subst c14
          have H1:(if(x6_2.size:Int)<1 then(hornbookref02_Split.j3 kj7 a0 x5_2 x6_2 true)else(if 0<(x6_2.size:Int)then(hornbookref02_Split.j3 kj7 a0 x5_2 x6_2 ((bt x6_2 0) !=41))else(none)))=some (r1,r2,r3):=by rw[if_neg (show¬(false=true) by decide)]at H;exact H
          clear H
          have H:=H1
          clear H1
          have HC23:=Aside0.mk H
          clear H
          go_upto_region 11 with(fail)
          go_cut [53] (fun v53 wc=> ∃(kq:Nat) (x53_22:Bool),v53= .bool x53_22∧Aside0 (hornbookref02_Split.j3 kq a0 x5_2 x6_2 x53_22=some (r1,r2,r3))∧Aside0 (kq≤kj7)∧Aside0 (Kd.R Kd.string 9 wc w.heap.size (fun _=>True) u5 x5_2)∧Aside0 (Below w.heap.size w wc))
          case first=>
           have H:=HC23.out
           clear HC23
           by_cases c24:(x6_2.size:Int)<1
           ·rw[if_pos c24]at H
            have c24b0:decide ((x6_2.size:Int)<1)=true:=decide_eq_true c24;have c24b1:decide (x6_2.size<1)=true:=decide_eq_true (by omega);clear c24;(first|rw [c24b0]|(simp only[i64_w,i32_w];rw[c24b0])|skip);have H':=Aside0.mk H;clear H;go_wp2;go_meet
            case rel=>exact⟨_,(true),(by first|rfl|(simp;done)|(simp[*];done)),H',⟨by have:=HJ1.out;have:=HK2.out;have:=HJ7.out;first|omega|exact Nat.le_refl _⟩,⟨by(with_reducible repeat (first|apply Kd.R_alloc|apply Kd.R_drewN|apply Kd.R_drew));exact HO_5.out⟩,⟨by repeat (first|(with_reducible first|exact HB.out|apply below_alloc|apply pw_below_drewN|apply below_drew1)|exact HB.out)⟩⟩
           ·rw[if_neg c24]at H
            have c24b0:decide ((x6_2.size:Int)<1)=false:=decide_eq_false c24;have c24b1:decide (x6_2.size<1)=false:=decide_eq_false (by omega);clear c24;(first|rw [c24b0]|(simp only[i64_w,i32_w];rw[c24b0])|skip)
            by_cases c25:0<(x6_2.size:Int)
            ·rw[if_pos c25]at H
             have c25b0:decide (0<(x6_2.size:Int))=true:=decide_eq_true c25;have c25b1:decide (0<x6_2.size)=true:=decide_eq_true (by omega);clear c25;have H':=Aside0.mk H;clear H;have p26:0≤(0:Int):=(by omega);have q26:0<x6_2.size:=(by have:(0:Int)<(x6_2.size:Int):=of_decide_eq_true (by first|(with_reducible assumption)|assumption);omega);have hx26: ∀h:0<x6_2.size,((x6_2[0]'h).toNat:Int)=bt x6_2 0:=bt_at x6_2 0;clear p26;have qi26:(0<(x6_2.size:Int))=True:=eq_true (of_decide_eq_true (by first|(with_reducible assumption)|assumption))
             replace q26:=eq_true q26;go_wp2;go_meet
             case rel=>exact⟨_,(((bt x6_2 0) !=41)),(by first|rfl|(simp;done)|(simp[*];done)),H',⟨by have:=HJ1.out;have:=HK2.out;have:=HJ7.out;first|omega|exact Nat.le_refl _⟩,⟨by(with_reducible repeat (first|apply Kd.R_alloc|apply Kd.R_drewN|apply Kd.R_drew));exact HO_5.out⟩,⟨by repeat (first|(with_reducible first|exact HB.out|apply below_alloc|apply pw_below_drewN|apply below_drew1)|exact HB.out)⟩⟩
            ·rw[if_neg c25]at H
             exact absurd H (by simp)
          case rest=>
           clear HC23;(try clear c1);(try clear p1);(try clear q1);(try clear hx1);(try clear qi1);(try clear c2);(try clear p2);(try clear q2);(try clear hx2);(try clear qi2);(try clear c3);(try clear c3b0);(try clear c3b1);(try clear c4);(try clear c4b0);(try clear c4b1);(try clear c5);(try clear p5);(try clear q5);(try clear hx5);(try clear qi5);(try clear c6);(try clear c7);(try clear c7b0);(try clear c7b1);(try clear c9);(try clear c9b0);(try clear c9b1);(try clear c10);(try clear c10b0);(try clear c10b1);(try clear p11);(try clear q11);(try clear hx11)
           (try clear qi11);(try clear c12);(try clear c12b0);(try clear c12b1);(try clear c14);(try clear c16);(try clear c16b0);(try clear c16b1);(try clear c17);(try clear c17b0);(try clear c17b1);(try clear c18);(try clear c18b0);(try clear c18b1);(try clear c19);(try clear c20);(try clear c20b0);(try clear c21);(try clear c21b0);(try clear c24);(try clear c24b0);(try clear c24b1);(try clear c25);(try clear c25b0);(try clear c25b1);(try clear p26);(try clear q26);(try clear hx26);(try clear qi26);(try clear p1);(try clear p11);(try clear p2);(try clear p26)
           (try clear p5);(try clear q1);(try clear q11);(try clear q26);(try clear q5);obtain⟨kq,x53_22,rfl,HA,HJ22,HO_5,HB⟩:=hcut
           cases kq with
           |zero=>exact absurd HA.out (by simp[hornbookref02_Split.j3])
           |succ kj22=>
            have H:=HA.out
            clear HA;simp only[hornbookref02_Split.j3]at H
            by_cases c27:x53_22=true
            ·subst c27
             have H1:(some ((⟨#[]⟩:ByteArray),([]:List ByteArray),5))=some (r1,r2,r3):=by rw[if_pos rfl]at H;exact H
             clear H
             have H:=H1
             clear H1;simp only[Option.some.injEq,Prod.mk.injEq]at H;obtain⟨rfl,rfl,rfl⟩:=H;go_wp2;go_ret3;exact⟨_,by first|rfl|(simp[errW_none,errW_some]<;>rfl)|(simp[*,errW_none,errW_some]<;>rfl),by first|exact Kd.R_nil _ _ _ _ _|exact Kd.N_nil _ _ _ _ _|exact Kd.V_nil _ _ _ _ _|exact Kd.Q_nil _ _ _ _ _|exact Kd.S_nil _ _ _ _ _,by repeat (first|(with_reducible first|exact HB.out|apply below_alloc|apply pw_below_drewN|apply below_drew1)|exact HB.out)⟩
            ·replace c27:=Bool.eq_false_iff.mpr c27
             subst c27
             have H1:(if 1≤(x6_2.size:Int)then((hornbookref02_Sig.f kj22 (x6_2.extract 1 x6_2.size) x5_2).bind fun bt156=>(if bt156.2=0 then(if bt156.1.toList=a0.toList then(some (x6_2.extract 1 x6_2.size,x5_2,0))else(some ((⟨#[]⟩:ByteArray),([]:List ByteArray),5)))else(some ((⟨#[]⟩:ByteArray),([]:List ByteArray),5))))else(none))=some (r1,r2,r3):=by rw[if_neg (show¬(false=true) by decide)]at H;exact H
             clear H
             have H:=H1
             clear H1
             by_cases c28:1≤(x6_2.size:Int)
             ·rw[if_pos c28]at H
              have c28b0:=eq_true c28
              have c28b1:decide (1≤(x6_2.size:Int))=true:=decide_eq_true c28;clear c28;replace H:=Option.bind_eq_some_iff.mp H;obtain⟨⟨t156,t157⟩,A290,H⟩:=H;replace H:(if t157=0 then(if t156.toList=a0.toList then(some (x6_2.extract 1 x6_2.size,x5_2,0))else(some ((⟨#[]⟩:ByteArray),([]:List ByteArray),5)))else(some ((⟨#[]⟩:ByteArray),([]:List ByteArray),5)))=some (r1,r2,r3):=H
              have A29:=Aside0.mk A290
              clear A290
              by_cases c30:t157=0
              ·rw[if_pos c30]at H
               have c30b0:(t157==0)=true:=beq_iff_eq.mpr c30;have c30b1:(t157 !=0)=false:=bne_eq_false_iff_eq.mpr c30;clear c30
               by_cases c31:t156.toList=a0.toList
               ·rw[if_pos c31]at H
                have c31b0:(t156.toList==a0.toList)=true:=beq_iff_eq.mpr c31;have c31b1:(t156.toList !=a0.toList)=false:=bne_eq_false_iff_eq.mpr c31;clear c31
                have c32b0:=eq_true (of_decide_eq_true (by first|(with_reducible assumption)|assumption):1≤(x6_2.size:Int))
                simp only[Option.some.injEq,Prod.mk.injEq]at H;obtain⟨rfl,rfl,rfl⟩:=H;obtain⟨Ao33,co33,eo33⟩:=Kd.R_slice HO_5.out;subst eo33
                go_wp2_with (first|((with_reducible refine gate_callee (f:=56) rfl ?_);refine goesL_ (some 58) rfl rfl Tryd.func56 (by kernel_rfl) rfl #[.string (x6_2.extract 1 x6_2.size), .slice Ao33 x5_2.length co33] rfl (by(try simp only[List.map_toArray,List.map_cons,List.map_nil]);first|done|rfl|(simp only[List.length_drop,List.length_take];rfl)) ?_;(with_reducible refine(hornbookref02_Sig.calls kj22 (x6_2.extract 1 x6_2.size) _ _ x5_2 t156 t157 _ ?side1 ?side2 A29.out).mono ?_);(case side1=>repeat (first|exact(Kd.R_reads' HO_5.out).2.2|(with_reducible refine Kd.C_alloc ?_ _)|(with_reducible refine Kd.C_drewN ?_ _)|(with_reducible refine Kd.C_drew ?_)));(case side2=>exact(Kd.R_reads' HO_5.out).2.1);rintro e w' ⟨rfl,⟨nd,rfl⟩⟩;refine⟨_,rfl,?_⟩))
                go_ret3;exact⟨_,by first|rfl|(simp[errW_none,errW_some]<;>rfl)|(simp[*,errW_none,errW_some]<;>rfl),by(with_reducible repeat (first|apply Kd.R_alloc|apply Kd.R_drewN|apply Kd.R_drew));exact HO_5.out,by repeat (first|(with_reducible first|exact HB.out|apply below_alloc|apply pw_below_drewN|apply below_drew1)|exact HB.out)⟩
               ·rw[if_neg c31]at H
                have c31b0:(t156.toList==a0.toList)=false:=beq_eq_false_iff_ne.mpr c31;have c31b1:(t156.toList !=a0.toList)=true:=bne_iff_ne.mpr c31;simp only[Option.some.injEq,Prod.mk.injEq]at H;obtain⟨rfl,rfl,rfl⟩:=H;obtain⟨Ao34,co34,eo34⟩:=Kd.R_slice HO_5.out;subst eo34
                go_wp2_with (first|((with_reducible refine gate_callee (f:=56) rfl ?_);refine goesL_ (some 58) rfl rfl Tryd.func56 (by kernel_rfl) rfl #[.string (x6_2.extract 1 x6_2.size), .slice Ao34 x5_2.length co34] rfl (by(try simp only[List.map_toArray,List.map_cons,List.map_nil]);first|done|rfl|(simp only[List.length_drop,List.length_take];rfl)) ?_;(with_reducible refine(hornbookref02_Sig.calls kj22 (x6_2.extract 1 x6_2.size) _ _ x5_2 t156 t157 _ ?side1 ?side2 A29.out).mono ?_);(case side1=>repeat (first|exact(Kd.R_reads' HO_5.out).2.2|(with_reducible refine Kd.C_alloc ?_ _)|(with_reducible refine Kd.C_drewN ?_ _)|(with_reducible refine Kd.C_drew ?_)));(case side2=>exact(Kd.R_reads' HO_5.out).2.1);rintro e w' ⟨rfl,⟨nd,rfl⟩⟩;refine⟨_,rfl,?_⟩))
                go_ret3;exact⟨_,by first|rfl|(simp[errW_none,errW_some]<;>rfl)|(simp[*,errW_none,errW_some]<;>rfl),by first|exact Kd.R_nil _ _ _ _ _|exact Kd.N_nil _ _ _ _ _|exact Kd.V_nil _ _ _ _ _|exact Kd.Q_nil _ _ _ _ _|exact Kd.S_nil _ _ _ _ _,by repeat (first|(with_reducible first|exact HB.out|apply below_alloc|apply pw_below_drewN|apply below_drew1)|exact HB.out)⟩
              ·rw[if_neg c30]at H
               have c30b0:(t157==0)=false:=beq_eq_false_iff_ne.mpr c30;have c30b1:(t157 !=0)=true:=bne_iff_ne.mpr c30;simp only[Option.some.injEq,Prod.mk.injEq]at H;obtain⟨rfl,rfl,rfl⟩:=H;obtain⟨Ao35,co35,eo35⟩:=Kd.R_slice HO_5.out;subst eo35
               go_wp2_with (first|((with_reducible refine gate_callee (f:=56) rfl ?_);refine goesL_ (some 58) rfl rfl Tryd.func56 (by kernel_rfl) rfl #[.string (x6_2.extract 1 x6_2.size), .slice Ao35 x5_2.length co35] rfl (by(try simp only[List.map_toArray,List.map_cons,List.map_nil]);first|done|rfl|(simp only[List.length_drop,List.length_take];rfl)) ?_;(with_reducible refine(hornbookref02_Sig.calls kj22 (x6_2.extract 1 x6_2.size) _ _ x5_2 t156 t157 _ ?side1 ?side2 A29.out).mono ?_);(case side1=>repeat (first|exact(Kd.R_reads' HO_5.out).2.2|(with_reducible refine Kd.C_alloc ?_ _)|(with_reducible refine Kd.C_drewN ?_ _)|(with_reducible refine Kd.C_drew ?_)));(case side2=>exact(Kd.R_reads' HO_5.out).2.1);rintro e w' ⟨rfl,⟨nd,rfl⟩⟩;refine⟨_,rfl,?_⟩))
               go_ret3;exact⟨_,by first|rfl|(simp[errW_none,errW_some]<;>rfl)|(simp[*,errW_none,errW_some]<;>rfl),by first|exact Kd.R_nil _ _ _ _ _|exact Kd.N_nil _ _ _ _ _|exact Kd.V_nil _ _ _ _ _|exact Kd.Q_nil _ _ _ _ _|exact Kd.S_nil _ _ _ _ _,by repeat (first|(with_reducible first|exact HB.out|apply below_alloc|apply pw_below_drewN|apply below_drew1)|exact HB.out)⟩
             ·rw[if_neg c28]at H
              exact absurd H (by simp)
    ·rw[if_neg c7]at H
     exact absurd H (by simp)
def api_Const.l0:Nat→List (S24)→Int→Int→Int→Int→ByteArray→ByteArray→ByteArray→Option (Int)
 |0,_,_,_,_,_,_,_,_=>none
 |k+1,x0,x7,x8,x159000,x159001,x159002,x159003,x159004=>if x8<x7 then(if 0≤x8 then(if x8<(x0.length:Int)then(if(x159000==((rd_T24 x0 x8).f0)&&(x159001==((rd_T24 x0 x8).f1)&&(x159002.toList==(((rd_T24 x0 x8).f2).toList)&&(x159003.toList==(((rd_T24 x0 x8).f3).toList)&&(x159004.toList==(((rd_T24 x0 x8).f4).toList))))))=true then(some x8)else(api_Const.l0 k x0 x7 (wrap64 (x8+1)) x159000 x159001 x159002 x159003 x159004))else(none))else(none))else(some (-1))
def api_Const.f(k:Nat)(l0:List (S24))(a1_0:Int)(a1_1:Int)(a1_2:ByteArray)(a1_3:ByteArray)(a1_4:ByteArray):Option (Int):=api_Const.l0 k l0 (l0.length:Int) 0 a1_0 a1_1 a1_2 a1_3 a1_4
end Go.Proofs.YthnajefdiljneaaDoor.Q
end
section
-- SQUEEZED
-- Written by the program wip/tools/mp.py of this work, which drives the print of the kit; hand texts of this session among it.
namespace Go.Proofs.YthnajefdiljneaaDoor.Q
open Go.RowKit Go.Proofs.HW Go.Proofs.YthnajefdiljneaaDoorW.PrintWords Go.Proofs.YthnajefdiljneaaDoorW.PrintLast
set_option linter.unusedVariables false
set_option linter.unusedSimpArgs false
-- HANDTEXT
-- NEEDS hornbook/desc.Right
-- NEEDS hornbook/desc.Split
-- NEEDS hornbook/bin.Name
-- NEEDS slices.Index[[]hornbook/api.Const,hornbook/api.Const]
-- NEEDS slices.Equal[[]hornbook/api.Const,hornbook/api.Const]
attribute [local go_sem high] eqA24
def pool_Right.f(k:Nat)(a0_0:Int)(a0_1:Int)(a0_2:ByteArray)(a0_3:ByteArray)(a0_4:ByteArray):Option (Bool):=
 if a0_0=1 then some (a0_2.toList.isEmpty&&(a0_3.toList.isEmpty&&a0_4.toList.isEmpty))
 else if a0_0=2∨a0_0=3 then
  if(a0_1==0&&(a0_3.toList.isEmpty&&a0_4.toList.isEmpty))=true then(if a0_0=2 then some (decide (a0_2.size≤64))else desc_Right.f k a0_2)else some false
 else if a0_0=4∨a0_0=5 then
  (desc_Split.f k a0_4).bind fun sp=>(if a0_0=4 then desc_Right.f k a0_4 else some (decide (sp.2.2=0))).bind fun ok=>
   if ok=true then(if a0_1=0 then(bin_Name.f k a0_2).bind fun n=>if n=true then bin_Name.f k a0_3 else some false else some false)else some false
 else some false
set_option maxHeartbeats 8000000 in
set_option maxRecDepth 100000 in
theorem pool_Right.calls(k:Nat)(a0_0:Int)(a0_1:Int)(a0_2:ByteArray)(a0_3:ByteArray)(a0_4:ByteArray)(r:Bool)(w:World)(h:pool_Right.f k a0_0 a0_1 a0_2 a0_3 a0_4=some r):
  Calls Tryd.prog 8 #[.agg #[.int .i64 a0_0, .int .i64 a0_1, .string a0_2, .string a0_3, .string a0_4]] w fun e w'=>e= .returned (.bool r)∧Below w.heap.size w w':=by
 have hu40:=Tryd.underlying24
 unfold pool_Right.f at h
 by_cases h1:a0_0=1
 ·rw[if_pos h1]at h
  have H:=Aside0.mk (Option.some.inj h)
  clear h;subst h1
  go_enter Tryd.func8,Tryd.ntmps8
  go_wp2_with fail
  go_ret;exact⟨by rw[←H.out];rfl,below_alloc (below_alloc (Below.refl _ _) _) _⟩
 rw[if_neg h1]at h
 by_cases h2:a0_0=2
 ·rw[if_pos (.inl h2)]at h
  have H:=Aside0.mk h
  clear h;subst h2
  by_cases he:(a0_1==0&&(a0_3.toList.isEmpty&&a0_4.toList.isEmpty))=true
  ·have h3:=H.out
   rw[if_pos he,if_pos rfl]at h3
   have H3:=Aside0.mk (Option.some.inj h3)
   clear h3 H
   by_cases hs:a0_2.size≤64
   ·have hr:=H3.out
    rw[decide_eq_true hs]at hr;subst hr;clear H3
    go_enter Tryd.func8,Tryd.ntmps8
    go_wp2_with fail
    go_ret;exact⟨rfl,below_alloc (below_alloc (Below.refl _ _) _) _⟩
   ·have hr:=H3.out
    rw[decide_eq_false hs]at hr;subst hr;clear H3
    go_enter Tryd.func8,Tryd.ntmps8
    go_wp2_with fail
    go_ret;exact⟨by show Ending.returned (Value.bool (decide ((a0_2.size:Int)≤64)))=_;rw[decide_eq_false (by omega)],below_alloc (below_alloc (Below.refl _ _) _) _⟩
  ·have h3:=H.out
   rw[if_neg he]at h3;obtain rfl:=Option.some.inj h3;clear h3 H
   go_enter Tryd.func8,Tryd.ntmps8
   go_wp2_with fail
   go_ret;exact⟨rfl,below_alloc (below_alloc (Below.refl _ _) _) _⟩
 by_cases h3:a0_0=3
 ·rw[if_pos (.inr h3)]at h
  have H:=Aside0.mk h
  clear h;subst h3
  by_cases he:(a0_1==0&&(a0_3.toList.isEmpty&&a0_4.toList.isEmpty))=true
  ·have h3:=H.out
   rw[if_pos he,if_neg (by decide)]at h3
   have H3:=Aside0.mk h3
   clear h3 H
   go_enter Tryd.func8,Tryd.ntmps8
   go_wp2_with fail
   refine(desc_Right.calls k a0_2 r _ H3.out).mono ?_
   rintro e w1 ⟨rfl,⟨n1,rfl⟩⟩
   go_wp2_with fail
   go_ret;exact⟨rfl,pw_below_drewN (below_alloc (below_alloc (Below.refl _ _) _) _) _⟩
  ·have h3:=H.out
   rw[if_neg he]at h3;obtain rfl:=Option.some.inj h3;clear h3 H
   go_enter Tryd.func8,Tryd.ntmps8
   go_wp2_with fail
   go_ret;exact⟨rfl,below_alloc (below_alloc (Below.refl _ _) _) _⟩
 rw[if_neg (by omega)]at h
 by_cases h4:a0_0=4∨a0_0=5
 case neg=>
  rw[if_neg h4]at h;obtain rfl:=Option.some.inj h
  have h5: ¬a0_0=4:=fun e=>h4 (.inl e)
  have h6: ¬a0_0=5:=fun e=>h4 (.inr e)
  clear h h4
  go_enter Tryd.func8,Tryd.ntmps8
  go_wp2_with fail
  go_ret;exact⟨rfl,below_alloc (below_alloc (Below.refl _ _) _) _⟩
 rw[if_pos h4]at h;obtain⟨⟨r1,r2,r3⟩,hsp,h⟩:=Option.bind_eq_some_iff.1 h
 have H:=Aside0.mk h
 have HS:=Aside0.mk hsp
 clear h hsp h1 h2 h3
 rcases h4 with h4|h4
 ·have hh:=H.out
  rw[if_pos h4]at hh;obtain⟨ok,hok,hh⟩:=Option.bind_eq_some_iff.1 hh
  have HOK:=Aside0.mk hok
  have HH:=Aside0.mk hh
  clear hok hh H;subst h4
  go_enter Tryd.func8,Tryd.ntmps8
  go_wp2_with fail
  refine(desc_Split.calls k a0_4 r1 r2 r3 _ HS.out).mono ?_
  rintro e w1 ⟨v1,rfl,hR,hb⟩
  have hbk:=(hb.block w.heap.size (by simp;omega)).trans ((Below.heap_alloc _ _ _ (by simp)).trans (heap_alloc_last w _))
  have HB:=Aside0.mk (below_step (below_alloc (below_alloc (Below.refl _ _) _) _) hb)
  have hcl0:=(blk_cell hbk 0).trans rfl
  have hcl1:=(blk_cell hbk 1).trans rfl
  have hcl2:=(blk_cell hbk 2).trans rfl
  have hcl3:=(blk_cell hbk 3).trans rfl
  have hcl4:=(blk_cell hbk 4).trans rfl
  clear hb hR hbk
  go_wp2_with fail
  refine(desc_Right.calls k a0_4 ok _ HOK.out).mono ?_
  rintro e w2 ⟨rfl,⟨n1,rfl⟩⟩
  cases ok with
  |false=>
   have hh:=HH.out
   rw[if_neg (by decide)]at hh;obtain rfl:=Option.some.inj hh;clear hh HH HOK HS
   go_wp2_with fail
   go_ret;exact⟨rfl,pw_below_drewN HB.out _⟩
  |true=>
   have hh:=HH.out
   rw[if_pos rfl]at hh
   have HH2:=Aside0.mk hh
   clear HH hh HOK HS
   by_cases hz:a0_1=0
   ·have hh:=HH2.out
    rw[if_pos hz]at hh;obtain⟨n,hn,hh⟩:=Option.bind_eq_some_iff.1 hh
    have HN:=Aside0.mk hn
    have HH3:=Aside0.mk hh
    clear hn hh HH2;subst hz
    go_wp2_with fail
    refine(bin_Name.calls k a0_2 n _ HN.out).mono ?_
    rintro e w3 ⟨rfl,⟨n2,rfl⟩⟩
    cases n with
    |false=>
     have hh:=HH3.out
     rw[if_neg (by decide)]at hh;obtain rfl:=Option.some.inj hh;clear hh HH3
     go_wp2_with fail
     go_ret;exact⟨rfl,by first|exact HB.out|exact pw_below_drewN HB.out _⟩
    |true=>
     have hh:=HH3.out
     rw[if_pos rfl]at hh
     have HH4:=Aside0.mk hh
     clear hh HH3
     go_wp2_with fail
     refine(bin_Name.calls k a0_3 r _ HH4.out).mono ?_
     rintro e w4 ⟨rfl,⟨n3,rfl⟩⟩
     go_wp2_with fail
     go_ret;exact⟨rfl,by first|exact HB.out|exact pw_below_drewN HB.out _⟩
   ·have hh:=HH2.out
    rw[if_neg hz]at hh;obtain rfl:=Option.some.inj hh;clear hh HH2
    go_wp2_with fail
    go_ret;exact⟨rfl,by first|exact HB.out|exact pw_below_drewN HB.out _⟩
 ·have hh:=H.out
  rw[if_neg (by omega)]at hh
  have HH:=Aside0.mk hh
  clear hh H;subst h4
  go_enter Tryd.func8,Tryd.ntmps8
  go_wp2_with fail
  refine(desc_Split.calls k a0_4 r1 r2 r3 _ HS.out).mono ?_
  rintro e w1 ⟨v1,rfl,hR,hb⟩
  have hbk:=(hb.block w.heap.size (by simp;omega)).trans ((Below.heap_alloc _ _ _ (by simp)).trans (heap_alloc_last w _))
  have HB:=Aside0.mk (below_step (below_alloc (below_alloc (Below.refl _ _) _) _) hb)
  have hcl0:=(blk_cell hbk 0).trans rfl
  have hcl1:=(blk_cell hbk 1).trans rfl
  have hcl2:=(blk_cell hbk 2).trans rfl
  have hcl3:=(blk_cell hbk 3).trans rfl
  have hcl4:=(blk_cell hbk 4).trans rfl
  clear hb hR hbk
  by_cases hr:r3=0
  ·have hh:=HH.out
   simp only[Option.bind_some]at hh;rw[decide_eq_true hr,if_pos rfl]at hh
   have HH2:=Aside0.mk hh
   clear HH hh HS;subst hr
   by_cases hz:a0_1=0
   ·have hh:=HH2.out
    rw[if_pos hz]at hh;obtain⟨n,hn,hh⟩:=Option.bind_eq_some_iff.1 hh
    have HN:=Aside0.mk hn
    have HH3:=Aside0.mk hh
    clear hn hh HH2;subst hz
    go_wp2_with fail
    refine(bin_Name.calls k a0_2 n _ HN.out).mono ?_
    rintro e w3 ⟨rfl,⟨n2,rfl⟩⟩
    cases n with
    |false=>
     have hh:=HH3.out
     rw[if_neg (by decide)]at hh;obtain rfl:=Option.some.inj hh;clear hh HH3
     go_wp2_with fail
     go_ret;exact⟨rfl,by first|exact HB.out|exact pw_below_drewN HB.out _⟩
    |true=>
     have hh:=HH3.out
     rw[if_pos rfl]at hh
     have HH4:=Aside0.mk hh
     clear hh HH3
     go_wp2_with fail
     refine(bin_Name.calls k a0_3 r _ HH4.out).mono ?_
     rintro e w4 ⟨rfl,⟨n3,rfl⟩⟩
     go_wp2_with fail
     go_ret;exact⟨rfl,by first|exact HB.out|exact pw_below_drewN HB.out _⟩
   ·have hh:=HH2.out
    rw[if_neg hz]at hh;obtain rfl:=Option.some.inj hh;clear hh HH2
    go_wp2_with fail
    go_ret;exact⟨rfl,by first|exact HB.out|exact pw_below_drewN HB.out _⟩
  ·have hh:=HH.out
   simp only[Option.bind_some]at hh;rw[decide_eq_false hr,if_neg (by decide)]at hh;obtain rfl:=Option.some.inj hh;clear HH hh HS
   go_wp2_with fail
   go_ret;exact⟨rfl,HB.out⟩
end Go.Proofs.YthnajefdiljneaaDoor.Q
end
