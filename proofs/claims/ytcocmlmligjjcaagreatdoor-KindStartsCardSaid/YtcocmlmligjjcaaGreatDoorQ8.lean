-- SQUEEZED
-- Written by the program wip/tools/mp.py of this work, which drives the print of the kit; hand texts of this session among it.
import Derived.Test.YtcocmlmligjjcaaGreatDoorQ0
import Derived.Test.YtcocmlmligjjcaaGreatDoorQ7
namespace Go.Proofs.YtcocmlmligjjcaaGreatDoor.Q
open Go.RowKit Go.Proofs.HW Go.Proofs.YtcocmlmligjjcaaGreatDoorW.PrintWords Go.Proofs.YtcocmlmligjjcaaGreatDoorW.PrintLast
set_option linter.unusedVariables false
set_option linter.unusedSimpArgs false
mutual
def hornbookref02_Split.j0:Nat→ByteArray→List ByteArray→Bool→Option (ByteArray×List ByteArray×Int)
 |0,_,_,_=>none
 |k+1,x0,x5,x17=>if x17=true then(some ((⟨#[]⟩:ByteArray),([]:List ByteArray),5))else(if 1≤(x0.size:Int)then(hornbookref02_Split.l0 k x0 x5 (x0.extract 1 x0.size))else(none))
def hornbookref02_Split.l0:Nat→ByteArray→List ByteArray→ByteArray→Option (ByteArray×List ByteArray×Int)
 |0,_,_,_=>none
 |k+1,x0,x5,x6=>if(x6.size:Int)>0 then(if 0<(x6.size:Int)then(if(bt x6 0)=41 then(hornbookref02_Split.j2 k x0 x5 x6 false)else(hornbookref02_Split.j2 k x0 x5 x6 (decide ((x5.length:Int)≤6))))else(none))else(hornbookref02_Split.j2 k x0 x5 x6 false)
def hornbookref02_Split.j2:Nat→ByteArray→List ByteArray→ByteArray→Bool→Option (ByteArray×List ByteArray×Int)
 |0,_,_,_,_=>none
 |k+1,x0,x5,x6,x32=>if x32=true then((hornbookref02_end.f k x6).bind fun t152=>(if t152=0 then(some ((⟨#[]⟩:ByteArray),([]:List ByteArray),5))else(if 0≤t152 then(if t152≤(x6.size:Int)then(if x5.length<8796093022208 then(hornbookref02_Split.l0 k x0 (x5++ [x6.extract 0 (t152:Int).toNat]) (x6.extract (t152:Int).toNat x6.size))else(none))else(none))else(none))))else(if(x6.size:Int)<1 then(hornbookref02_Split.j3 k x0 x5 x6 true)else(if 0<(x6.size:Int)then(hornbookref02_Split.j3 k x0 x5 x6 ((bt x6 0) !=41))else(none)))
def hornbookref02_Split.j3:Nat→ByteArray→List ByteArray→ByteArray→Bool→Option (ByteArray×List ByteArray×Int)
 |0,_,_,_,_=>none
 |k+1,x0,x5,x6,x53=>if x53=true then(some ((⟨#[]⟩:ByteArray),([]:List ByteArray),5))else(if 1≤(x6.size:Int)then((hornbookref02_Sig.f k (x6.extract 1 x6.size) x5).bind fun bt156=>(if bt156.2=0 then(if bt156.1.toList=x0.toList then(some (x6.extract 1 x6.size,x5,0))else(some ((⟨#[]⟩:ByteArray),([]:List ByteArray),5)))else(some ((⟨#[]⟩:ByteArray),([]:List ByteArray),5))))else(none))
end
def hornbookref02_Split.f(k:Nat)(a0:ByteArray):Option (ByteArray×List ByteArray×Int):=if(a0.size:Int)<1 then(hornbookref02_Split.j0 k a0 ([]:List ByteArray) true)else(if 0<(a0.size:Int)then(hornbookref02_Split.j0 k a0 ([]:List ByteArray) ((bt a0 0) !=40))else(none))
set_option maxHeartbeats 8000000 in
set_option maxRecDepth 100000 in
theorem hornbookref02_Split.calls(k:Nat)(a0:ByteArray)(r1:ByteArray)(r2:List ByteArray)(r3:Int)(w:World)(h:hornbookref02_Split.f k a0=some (r1,r2,r3)):
  Calls Tryz.prog 110 #[.string a0] w fun e w'=> ∃v1_:Value,e= .returned (.tuple #[.string r1,v1_, .int .i64 r3])∧Kd.R Kd.string 9 w' w.heap.size (fun _=>True) v1_ r2∧Below w.heap.size w w':=by
 have HB:=Aside0.mk (Below.refl w.heap.size w)
 have H:(if(a0.size:Int)<1 then(hornbookref02_Split.j0 k a0 ([]:List ByteArray) true)else(if 0<(a0.size:Int)then(hornbookref02_Split.j0 k a0 ([]:List ByteArray) ((bt a0 0) !=40))else(none)))=some (r1,r2,r3):=h;clear h
 have HC2:=Aside0.mk H
 clear H
 go_enter Tryz.func110,Tryz.ntmps110
 go_upto_region 2 with(fail)
 go_cut [17] (fun v17 wc=> ∃(kq:Nat) (x17_1:Bool),v17= .bool x17_1∧Aside0 (hornbookref02_Split.j0 kq a0 ([]:List ByteArray) x17_1=some (r1,r2,r3))∧Aside0 (kq≤k)∧Aside0 (Kd.R Kd.string 9 wc w.heap.size (fun _=>True) (.slice none 0 0) ([]:List ByteArray))∧Aside0 (Below w.heap.size w wc))
 case first=>
  have H:=HC2.out
  clear HC2
  by_cases c3:(a0.size:Int)<1
  ·rw[if_pos c3]at H
   have c3b0:decide ((a0.size:Int)<1)=true:=decide_eq_true c3;have c3b1:decide (a0.size<1)=true:=decide_eq_true (by omega);clear c3;(first|rw [c3b0]|(simp only[i64_w,i32_w];rw[c3b0])|skip);have H':=Aside0.mk H;clear H;go_wp2;go_meet
   case rel=>exact⟨_,(true),(by first|rfl|(simp;done)|(simp[*];done)),H',⟨by first|omega|exact Nat.le_refl _⟩,⟨by first|exact Kd.R_nil _ _ _ _ _|exact Kd.N_nil _ _ _ _ _|exact Kd.V_nil _ _ _ _ _|exact Kd.Q_nil _ _ _ _ _|exact Kd.S_nil _ _ _ _ _⟩,⟨by repeat (first|(with_reducible first|exact HB.out|apply below_alloc|apply pw_below_drewN|apply below_drew1)|exact HB.out)⟩⟩
  ·rw[if_neg c3]at H
   have c3b0:decide ((a0.size:Int)<1)=false:=decide_eq_false c3;have c3b1:decide (a0.size<1)=false:=decide_eq_false (by omega);clear c3;(first|rw [c3b0]|(simp only[i64_w,i32_w];rw[c3b0])|skip)
   by_cases c4:0<(a0.size:Int)
   ·rw[if_pos c4]at H
    have c4b0:decide (0<(a0.size:Int))=true:=decide_eq_true c4;have c4b1:decide (0<a0.size)=true:=decide_eq_true (by omega);clear c4;have H':=Aside0.mk H;clear H;have p5:0≤(0:Int):=(by omega);have q5:0<a0.size:=(by have:(0:Int)<(a0.size:Int):=of_decide_eq_true (by first|(with_reducible assumption)|assumption);omega);have hx5: ∀h:0<a0.size,((a0[0]'h).toNat:Int)=bt a0 0:=bt_at a0 0;clear p5;have qi5:(0<(a0.size:Int))=True:=eq_true (of_decide_eq_true (by first|(with_reducible assumption)|assumption));replace q5:=eq_true q5
    go_wp2;go_meet
    case rel=>exact⟨_,(((bt a0 0) !=40)),(by first|rfl|(simp;done)|(simp[*];done)),H',⟨by first|omega|exact Nat.le_refl _⟩,⟨by first|exact Kd.R_nil _ _ _ _ _|exact Kd.N_nil _ _ _ _ _|exact Kd.V_nil _ _ _ _ _|exact Kd.Q_nil _ _ _ _ _|exact Kd.S_nil _ _ _ _ _⟩,⟨by repeat (first|(with_reducible first|exact HB.out|apply below_alloc|apply pw_below_drewN|apply below_drew1)|exact HB.out)⟩⟩
   ·rw[if_neg c4]at H
    exact absurd H (by simp)
 case rest=>
  clear HC2;(try clear c1);(try clear p2);(try clear c3);(try clear c3b0);(try clear c3b1);(try clear c4);(try clear c4b0);(try clear c4b1);(try clear p5);(try clear q5);(try clear hx5);(try clear qi5);(try clear p5);(try clear q5);obtain⟨kq,x17_1,rfl,HA,HJ1,HO_5,HB⟩:=hcut
  cases kq with
  |zero=>exact absurd HA.out (by simp[hornbookref02_Split.j0])
  |succ kj1=>
   have H:=HA.out
   clear HA;simp only[hornbookref02_Split.j0]at H
   by_cases c6:x17_1=true
   ·subst c6
    have H1:(some ((⟨#[]⟩:ByteArray),([]:List ByteArray),5))=some (r1,r2,r3):=by rw[if_pos rfl]at H;exact H
    clear H
    have H:=H1
    clear H1;simp only[Option.some.injEq,Prod.mk.injEq]at H;obtain⟨rfl,rfl,rfl⟩:=H;go_wp2;go_ret3;exact⟨_,by first|rfl|(simp[errW_none,errW_some]<;>rfl)|(simp[*,errW_none,errW_some]<;>rfl),by first|exact Kd.R_nil _ _ _ _ _|exact Kd.N_nil _ _ _ _ _|exact Kd.V_nil _ _ _ _ _|exact Kd.Q_nil _ _ _ _ _|exact Kd.S_nil _ _ _ _ _,by repeat (first|(with_reducible first|exact HB.out|apply below_alloc|apply pw_below_drewN|apply below_drew1)|exact HB.out)⟩
   ·replace c6:=Bool.eq_false_iff.mpr c6
    subst c6
    have H1:(if 1≤(a0.size:Int)then(hornbookref02_Split.l0 kj1 a0 ([]:List ByteArray) (a0.extract 1 a0.size))else(none))=some (r1,r2,r3):=by rw[if_neg (show¬(false=true) by decide)]at H;exact H
    clear H
    have H:=H1
    clear H1
    by_cases c7:1≤(a0.size:Int)
    ·rw[if_pos c7]at H
     have c7b0:=eq_true c7
     have c7b1:decide (1≤(a0.size:Int))=true:=decide_eq_true c7;clear c7;have H':=Aside0.mk H;clear H;go_wp2
     go_loopg [5,6] kj1 (fun kq v5 v6 w'=> ∃(x5_2:List ByteArray) (x6_2:ByteArray),v6= .string x6_2∧Aside0 (hornbookref02_Split.l0 kq a0 x5_2 x6_2=some (r1,r2,r3))∧Aside0 (kq≤kj1)∧Aside0 (Kd.R Kd.string 9 w' w.heap.size (fun _=>True) v5 x5_2)∧Aside0 (Below w.heap.size w w'))
     case atStart=>exact⟨(([]:List ByteArray)),(a0.extract 1 a0.size),(by first|rfl|(simp;done)|(simp[*];done)),H',⟨Nat.le_refl _⟩,⟨by(with_reducible repeat (first|apply Kd.R_alloc|apply Kd.R_drewN|apply Kd.R_drew));exact HO_5.out⟩,⟨by repeat (first|(with_reducible first|exact HB.out|apply below_alloc|apply pw_below_drewN|apply below_drew1)|exact HB.out)⟩⟩
     case round=>
      clear H';(try clear c1);(try clear p2);(try clear c3);(try clear c3b0);(try clear c3b1);(try clear c4);(try clear c4b0);(try clear c4b1);(try clear p5);(try clear q5);(try clear hx5);(try clear qi5);(try clear c6);(try clear c7);(try clear c7b0);(try clear c7b1);(try clear p2);(try clear p5);(try clear q5);obtain⟨x5_2,x6_2,rfl,HA,HK2,HO_5,HB⟩:=hrel
      cases gk with
      |zero=>exact absurd HA.out (by simp[hornbookref02_Split.l0])
      |succ k2=>
       have H:=HA.out
       clear HA;simp only[hornbookref02_Split.l0]at H
       have HC8:=Aside0.mk H
       clear H
       go_upto_region 5 with(fail)
       go_cut [32] (fun v32 wc=> ∃(kq:Nat) (x32_7:Bool),v32= .bool x32_7∧Aside0 (hornbookref02_Split.j2 kq a0 x5_2 x6_2 x32_7=some (r1,r2,r3))∧Aside0 (kq≤k2)∧Aside0 (Kd.R Kd.string 9 wc w.heap.size (fun _=>True) u5 x5_2)∧Aside0 (Below w.heap.size w wc))
       case first=>
        have H:=HC8.out
        clear HC8
        by_cases c9:(x6_2.size:Int)>0
        ·rw[if_pos c9]at H
         have c9b0:decide (0<(x6_2.size:Int))=true:=decide_eq_true c9;have c9b1:decide (0<x6_2.size)=true:=decide_eq_true (by omega);clear c9;(first|rw [c9b0]|(simp only[i64_w,i32_w];rw[c9b0])|skip)
         by_cases c10:0<(x6_2.size:Int)
         ·rw[if_pos c10]at H
          have c10b0:decide (0<(x6_2.size:Int))=true:=decide_eq_true c10;have c10b1:decide (0<x6_2.size)=true:=decide_eq_true (by omega);clear c10
          by_cases c12:(bt x6_2 0)=41
          ·rw[if_pos c12]at H
           have c12b0:((bt x6_2 0)==41)=true:=beq_iff_eq.mpr c12;have c12b1:((bt x6_2 0) !=41)=false:=bne_eq_false_iff_eq.mpr c12;clear c12;have H':=Aside0.mk H;clear H;have p11:0≤(0:Int):=(by omega);have q11:0<x6_2.size:=(by have:(0:Int)<(x6_2.size:Int):=of_decide_eq_true (by first|(with_reducible assumption)|assumption);omega);have hx11: ∀h:0<x6_2.size,((x6_2[0]'h).toNat:Int)=bt x6_2 0:=bt_at x6_2 0;clear p11;have qi11:(0<(x6_2.size:Int))=True:=eq_true (of_decide_eq_true (by first|(with_reducible assumption)|assumption))
           replace q11:=eq_true q11;go_wp2;go_meet
           case rel=>exact⟨_,(false),(by first|rfl|(simp;done)|(simp[*];done)),H',⟨by have:=HJ1.out;have:=HK2.out;first|omega|exact Nat.le_refl _⟩,⟨by(with_reducible repeat (first|apply Kd.R_alloc|apply Kd.R_drewN|apply Kd.R_drew));exact HO_5.out⟩,⟨by repeat (first|(with_reducible first|exact HB.out|apply below_alloc|apply pw_below_drewN|apply below_drew1)|exact HB.out)⟩⟩
          ·rw[if_neg c12]at H
           have c12b0:((bt x6_2 0)==41)=false:=beq_eq_false_iff_ne.mpr c12;have c12b1:((bt x6_2 0) !=41)=true:=bne_iff_ne.mpr c12;have H':=Aside0.mk H;clear H;have p11:0≤(0:Int):=(by omega);have q11:0<x6_2.size:=(by have:(0:Int)<(x6_2.size:Int):=of_decide_eq_true (by first|(with_reducible assumption)|assumption);omega);have hx11: ∀h:0<x6_2.size,((x6_2[0]'h).toNat:Int)=bt x6_2 0:=bt_at x6_2 0;clear p11;have qi11:(0<(x6_2.size:Int))=True:=eq_true (of_decide_eq_true (by first|(with_reducible assumption)|assumption))
           replace q11:=eq_true q11;obtain⟨Ao13,co13,eo13⟩:=Kd.R_slice HO_5.out;subst eo13;go_wp2;go_meet
           case rel=>exact⟨_,(decide ((x5_2.length:Int)≤6)),(by first|rfl|(simp;done)|(simp[*];done)),H',⟨by have:=HJ1.out;have:=HK2.out;first|omega|exact Nat.le_refl _⟩,⟨by(with_reducible repeat (first|apply Kd.R_alloc|apply Kd.R_drewN|apply Kd.R_drew));exact HO_5.out⟩,⟨by repeat (first|(with_reducible first|exact HB.out|apply below_alloc|apply pw_below_drewN|apply below_drew1)|exact HB.out)⟩⟩
         ·rw[if_neg c10]at H
          exact absurd H (by simp)
        ·rw[if_neg c9]at H
         have c9b0:decide (0<(x6_2.size:Int))=false:=decide_eq_false c9;have c9b1:decide (0<x6_2.size)=false:=decide_eq_false (by omega);clear c9;(first|rw [c9b0]|(simp only[i64_w,i32_w];rw[c9b0])|skip);have H':=Aside0.mk H;clear H;go_wp2;go_meet
         case rel=>exact⟨_,(false),(by first|rfl|(simp;done)|(simp[*];done)),H',⟨by have:=HJ1.out;have:=HK2.out;first|omega|exact Nat.le_refl _⟩,⟨by(with_reducible repeat (first|apply Kd.R_alloc|apply Kd.R_drewN|apply Kd.R_drew));exact HO_5.out⟩,⟨by repeat (first|(with_reducible first|exact HB.out|apply below_alloc|apply pw_below_drewN|apply below_drew1)|exact HB.out)⟩⟩
       case rest=>
        clear HC8;(try clear c1);(try clear p1);(try clear q1);(try clear hx1);(try clear qi1);(try clear p2);(try clear c3);(try clear c3b0);(try clear c3b1);(try clear c4);(try clear c4b0);(try clear c4b1);(try clear p5);(try clear q5);(try clear hx5);(try clear qi5);(try clear c6);(try clear c7);(try clear c7b0);(try clear c7b1);(try clear c9);(try clear c9b0);(try clear c9b1);(try clear c10);(try clear c10b0);(try clear c10b1);(try clear c11);(try clear p11);(try clear q11);(try clear hx11);(try clear qi11);(try clear c12);(try clear c12b0);(try clear c12b1)
        (try clear p11);(try clear p2);(try clear p5);(try clear q11);(try clear q5);obtain⟨kq,x32_7,rfl,HA,HJ7,HO_5,HB⟩:=hcut
        cases kq with
        |zero=>exact absurd HA.out (by simp[hornbookref02_Split.j2])
        |succ kj7=>
         have H:=HA.out
         clear HA;simp only[hornbookref02_Split.j2]at H
         by_cases c14:x32_7=true
         ·subst c14
          have H1:((hornbookref02_end.f kj7 x6_2).bind fun t152=>(if t152=0 then(some ((⟨#[]⟩:ByteArray),([]:List ByteArray),5))else(if 0≤t152 then(if t152≤(x6_2.size:Int)then(if x5_2.length<8796093022208 then(hornbookref02_Split.l0 kj7 a0 (x5_2++ [x6_2.extract 0 (t152:Int).toNat]) (x6_2.extract (t152:Int).toNat x6_2.size))else(none))else(none))else(none))))=some (r1,r2,r3):=by rw[if_pos rfl]at H;exact H
          clear H
          have H:=H1
          clear H1;replace H:=Option.bind_eq_some_iff.mp H;obtain⟨t152,A150,H⟩:=H;replace H:(if t152=0 then(some ((⟨#[]⟩:ByteArray),([]:List ByteArray),5))else(if 0≤t152 then(if t152≤(x6_2.size:Int)then(if x5_2.length<8796093022208 then(hornbookref02_Split.l0 kj7 a0 (x5_2++ [x6_2.extract 0 (t152:Int).toNat]) (x6_2.extract (t152:Int).toNat x6_2.size))else(none))else(none))else(none)))=some (r1,r2,r3):=H
          have A15:=Aside0.mk A150
          clear A150
          by_cases c16:t152=0
          ·rw[if_pos c16]at H
           have c16b0:(t152==0)=true:=beq_iff_eq.mpr c16;have c16b1:(t152 !=0)=false:=bne_eq_false_iff_eq.mpr c16;clear c16;simp only[Option.some.injEq,Prod.mk.injEq]at H;obtain⟨rfl,rfl,rfl⟩:=H
           go_wp2_with (first|((with_reducible refine gate_callee (f:=183) rfl ?_);refine goesL_ (some 34) rfl rfl Tryz.func183 (by kernel_rfl) rfl #[.string x6_2] rfl (by(try simp only[List.map_toArray,List.map_cons,List.map_nil]);first|done|rfl|(simp only[List.length_drop,List.length_take];rfl)) ?_;(with_reducible refine(hornbookref02_end.calls kj7 x6_2 t152 _ A15.out).mono ?_);rintro e w' ⟨rfl,⟨nd,rfl⟩⟩;refine⟨_,rfl,?_⟩))
           go_ret3;exact⟨_,by first|rfl|(simp[errW_none,errW_some]<;>rfl)|(simp[*,errW_none,errW_some]<;>rfl),by first|exact Kd.R_nil _ _ _ _ _|exact Kd.N_nil _ _ _ _ _|exact Kd.V_nil _ _ _ _ _|exact Kd.Q_nil _ _ _ _ _|exact Kd.S_nil _ _ _ _ _,by repeat (first|(with_reducible first|exact HB.out|apply below_alloc|apply pw_below_drewN|apply below_drew1)|exact HB.out)⟩
          ·rw[if_neg c16]at H
           have c16b0:(t152==0)=false:=beq_eq_false_iff_ne.mpr c16;have c16b1:(t152 !=0)=true:=bne_iff_ne.mpr c16
           by_cases c17:0≤t152
           ·rw[if_pos c17]at H
            have c17b0:=eq_true c17
            have c17b1:decide (0≤t152)=true:=decide_eq_true c17;clear c17
            by_cases c18:t152≤(x6_2.size:Int)
            ·rw[if_pos c18]at H
             have c18b0:=eq_true c18
             have c18b1:decide (t152≤(x6_2.size:Int))=true:=decide_eq_true c18;clear c18
             by_cases c19:x5_2.length<8796093022208
             ·rw[if_pos c19]at H
              have LMc19:=Aside0.mk c19
              clear c19;obtain⟨y153,hy153⟩: ∃y_:List ByteArray,y_=(x5_2++ [x6_2.extract 0 (t152:Int).toNat]):=⟨_,rfl⟩
              replace H:(hornbookref02_Split.l0 kj7 a0 y153 (x6_2.extract (t152:Int).toNat x6_2.size))=some (r1,r2,r3):=by first|(rw[hy153];with_reducible exact H)|(have H2_:=(Option.bind_some _ _).symm.trans H;rw[hy153];with_reducible exact H2_)|(have H2_:=(Option.bind_some _ _).symm.trans H;with_reducible exact H2_)|with_reducible exact H|(rw[hy153];exact H)|exact H
              have Ny153:=Aside0.mk hy153
              clear hy153
              have c20b0:=eq_true (of_decide_eq_true (by first|(with_reducible assumption)|assumption):0≤t152)
              have c21b0:=eq_true (of_decide_eq_true (by first|(with_reducible assumption)|assumption):t152≤(x6_2.size:Int))
              have H':=Aside0.mk H;clear H
              go_wp2_with (first|((with_reducible refine gate_callee (f:=183) rfl ?_);refine goesL_ (some 34) rfl rfl Tryz.func183 (by kernel_rfl) rfl #[.string x6_2] rfl (by(try simp only[List.map_toArray,List.map_cons,List.map_nil]);first|done|rfl|(simp only[List.length_drop,List.length_take];rfl)) ?_;(with_reducible refine(hornbookref02_end.calls kj7 x6_2 t152 _ A15.out).mono ?_);rintro e w' ⟨rfl,⟨nd,rfl⟩⟩;refine⟨_,rfl,?_⟩)|((with_reducible refine gate_builtin (b:= .append) (xs:= #[.tmp 37, .tmp 41]) rfl ?_);(try (refine gate_guard (by rfl) ?_;dsimp only));at_builtin;refine Kd.R_append Kd.string (w0:=w) w.heap.size rfl (.tmp 37) (.tmp 41) 91 9 (.string ⟨#[]⟩) 16 rfl Tryz.underlying91 info9 rfl (by decide) (by omega) u5 x5_2 (x6_2.extract 0 (t152:Int).toNat) [.string (x6_2.extract 0 (t152:Int).toNat)] (fun _=>True) (fun _=>False) rfl rfl ?aP (fun _ hk=>hk.elim) ?aF ?aO ?aB ?aS ?aL ?_;(case aP=>exact rfl);(case aB=>exact(by repeat (first|(with_reducible first|exact HB.out|apply below_alloc|apply pw_below_drewN|apply below_drew1)|exact HB.out)));(case aF=>exact(fun _ _=>trivial));(case aO=>exact(by(with_reducible repeat (first|apply Kd.R_alloc|apply Kd.R_drewN|apply Kd.R_drew));exact HO_5.out));(case aS=>exact(below_size (by repeat (first|(with_reducible first|exact HB.out|apply below_alloc|apply pw_below_drewN|apply below_drew1)|exact HB.out))));(case aL=>have:=LMc19.out;omega);intro v154 w22 ho hb hg hat;rw[←Ny153.out]at ho;have n0_:=Aside0.mk (hb);have n1_:=Aside0.mk (ho);clear HB;clear HO_5;have HB:=n0_;have HO155:=n1_;clear n0_ n1_;clear ho hb hg hat))
              go_roundg kj7
              case measure=>have:=HJ1.out;have:=HK2.out;have:=HJ7.out;omega
              case rel=>exact⟨(y153),(x6_2.extract (t152:Int).toNat x6_2.size),(by first|rfl|(simp;done)|(simp[*];done)),H',⟨by have:=HJ1.out;have:=HK2.out;have:=HJ7.out;omega⟩,⟨by(with_reducible repeat (first|apply Kd.R_alloc|apply Kd.R_drewN|apply Kd.R_drew));exact HO155.out⟩,⟨by repeat (first|(with_reducible first|exact HB.out|apply below_alloc|apply pw_below_drewN|apply below_drew1)|exact HB.out)⟩⟩
             ·rw[if_neg c19]at H
              exact absurd H (by simp)
            ·rw[if_neg c18]at H
             exact absurd H (by simp)
           ·rw[if_neg c17]at H
            exact absurd H (by simp)
         ·replace c14:=Bool.eq_false_iff.mpr c14
          subst c14
          have H1:(if(x6_2.size:Int)<1 then(hornbookref02_Split.j3 kj7 a0 x5_2 x6_2 true)else(if 0<(x6_2.size:Int)then(hornbookref02_Split.j3 kj7 a0 x5_2 x6_2 ((bt x6_2 0) !=41))else(none)))=some (r1,r2,r3):=by rw[if_neg (show¬(false=true) by decide)]at H;exact H
          clear H
          have H:=H1
          clear H1
          have HC23:=Aside0.mk H
          clear H
          go_upto_region 11 with(fail)
          go_cut [53] (fun v53 wc=> ∃(kq:Nat) (x53_22:Bool),v53= .bool x53_22∧Aside0 (hornbookref02_Split.j3 kq a0 x5_2 x6_2 x53_22=some (r1,r2,r3))∧Aside0 (kq≤kj7)∧Aside0 (Kd.R Kd.string 9 wc w.heap.size (fun _=>True) u5 x5_2)∧Aside0 (Below w.heap.size w wc))
          case first=>
           have H:=HC23.out
           clear HC23
           by_cases c24:(x6_2.size:Int)<1
           ·rw[if_pos c24]at H
            have c24b0:decide ((x6_2.size:Int)<1)=true:=decide_eq_true c24;have c24b1:decide (x6_2.size<1)=true:=decide_eq_true (by omega);clear c24;(first|rw [c24b0]|(simp only[i64_w,i32_w];rw[c24b0])|skip);have H':=Aside0.mk H;clear H;go_wp2;go_meet
            case rel=>exact⟨_,(true),(by first|rfl|(simp;done)|(simp[*];done)),H',⟨by have:=HJ1.out;have:=HK2.out;have:=HJ7.out;first|omega|exact Nat.le_refl _⟩,⟨by(with_reducible repeat (first|apply Kd.R_alloc|apply Kd.R_drewN|apply Kd.R_drew));exact HO_5.out⟩,⟨by repeat (first|(with_reducible first|exact HB.out|apply below_alloc|apply pw_below_drewN|apply below_drew1)|exact HB.out)⟩⟩
           ·rw[if_neg c24]at H
            have c24b0:decide ((x6_2.size:Int)<1)=false:=decide_eq_false c24;have c24b1:decide (x6_2.size<1)=false:=decide_eq_false (by omega);clear c24;(first|rw [c24b0]|(simp only[i64_w,i32_w];rw[c24b0])|skip)
            by_cases c25:0<(x6_2.size:Int)
            ·rw[if_pos c25]at H
             have c25b0:decide (0<(x6_2.size:Int))=true:=decide_eq_true c25;have c25b1:decide (0<x6_2.size)=true:=decide_eq_true (by omega);clear c25;have H':=Aside0.mk H;clear H;have p26:0≤(0:Int):=(by omega);have q26:0<x6_2.size:=(by have:(0:Int)<(x6_2.size:Int):=of_decide_eq_true (by first|(with_reducible assumption)|assumption);omega);have hx26: ∀h:0<x6_2.size,((x6_2[0]'h).toNat:Int)=bt x6_2 0:=bt_at x6_2 0;clear p26;have qi26:(0<(x6_2.size:Int))=True:=eq_true (of_decide_eq_true (by first|(with_reducible assumption)|assumption))
             replace q26:=eq_true q26;go_wp2;go_meet
             case rel=>exact⟨_,(((bt x6_2 0) !=41)),(by first|rfl|(simp;done)|(simp[*];done)),H',⟨by have:=HJ1.out;have:=HK2.out;have:=HJ7.out;first|omega|exact Nat.le_refl _⟩,⟨by(with_reducible repeat (first|apply Kd.R_alloc|apply Kd.R_drewN|apply Kd.R_drew));exact HO_5.out⟩,⟨by repeat (first|(with_reducible first|exact HB.out|apply below_alloc|apply pw_below_drewN|apply below_drew1)|exact HB.out)⟩⟩
            ·rw[if_neg c25]at H
             exact absurd H (by simp)
          case rest=>
           clear HC23;(try clear c1);(try clear p1);(try clear q1);(try clear hx1);(try clear qi1);(try clear c2);(try clear p2);(try clear q2);(try clear hx2);(try clear qi2);(try clear c3);(try clear c3b0);(try clear c3b1);(try clear c4);(try clear c4b0);(try clear c4b1);(try clear p5);(try clear q5);(try clear hx5);(try clear qi5);(try clear c6);(try clear c7);(try clear c7b0);(try clear c7b1);(try clear c9);(try clear c9b0);(try clear c9b1);(try clear c10);(try clear c10b0);(try clear c10b1);(try clear c11);(try clear p11);(try clear q11);(try clear hx11)
           (try clear qi11);(try clear c12);(try clear c12b0);(try clear c12b1);(try clear c14);(try clear c16);(try clear c16b0);(try clear c16b1);(try clear c17);(try clear c17b0);(try clear c17b1);(try clear c18);(try clear c18b0);(try clear c18b1);(try clear c19);(try clear c20);(try clear c20b0);(try clear c21);(try clear c21b0);(try clear c24);(try clear c24b0);(try clear c24b1);(try clear c25);(try clear c25b0);(try clear c25b1);(try clear p26);(try clear q26);(try clear hx26);(try clear qi26);(try clear p1);(try clear p11);(try clear p2);(try clear p26)
           (try clear p5);(try clear q1);(try clear q11);(try clear q26);(try clear q5);obtain⟨kq,x53_22,rfl,HA,HJ22,HO_5,HB⟩:=hcut
           cases kq with
           |zero=>exact absurd HA.out (by simp[hornbookref02_Split.j3])
           |succ kj22=>
            have H:=HA.out
            clear HA;simp only[hornbookref02_Split.j3]at H
            by_cases c27:x53_22=true
            ·subst c27
             have H1:(some ((⟨#[]⟩:ByteArray),([]:List ByteArray),5))=some (r1,r2,r3):=by rw[if_pos rfl]at H;exact H
             clear H
             have H:=H1
             clear H1;simp only[Option.some.injEq,Prod.mk.injEq]at H;obtain⟨rfl,rfl,rfl⟩:=H;go_wp2;go_ret3;exact⟨_,by first|rfl|(simp[errW_none,errW_some]<;>rfl)|(simp[*,errW_none,errW_some]<;>rfl),by first|exact Kd.R_nil _ _ _ _ _|exact Kd.N_nil _ _ _ _ _|exact Kd.V_nil _ _ _ _ _|exact Kd.Q_nil _ _ _ _ _|exact Kd.S_nil _ _ _ _ _,by repeat (first|(with_reducible first|exact HB.out|apply below_alloc|apply pw_below_drewN|apply below_drew1)|exact HB.out)⟩
            ·replace c27:=Bool.eq_false_iff.mpr c27
             subst c27
             have H1:(if 1≤(x6_2.size:Int)then((hornbookref02_Sig.f kj22 (x6_2.extract 1 x6_2.size) x5_2).bind fun bt156=>(if bt156.2=0 then(if bt156.1.toList=a0.toList then(some (x6_2.extract 1 x6_2.size,x5_2,0))else(some ((⟨#[]⟩:ByteArray),([]:List ByteArray),5)))else(some ((⟨#[]⟩:ByteArray),([]:List ByteArray),5))))else(none))=some (r1,r2,r3):=by rw[if_neg (show¬(false=true) by decide)]at H;exact H
             clear H
             have H:=H1
             clear H1
             by_cases c28:1≤(x6_2.size:Int)
             ·rw[if_pos c28]at H
              have c28b0:=eq_true c28
              have c28b1:decide (1≤(x6_2.size:Int))=true:=decide_eq_true c28;clear c28;replace H:=Option.bind_eq_some_iff.mp H;obtain⟨⟨t156,t157⟩,A290,H⟩:=H;replace H:(if t157=0 then(if t156.toList=a0.toList then(some (x6_2.extract 1 x6_2.size,x5_2,0))else(some ((⟨#[]⟩:ByteArray),([]:List ByteArray),5)))else(some ((⟨#[]⟩:ByteArray),([]:List ByteArray),5)))=some (r1,r2,r3):=H
              have A29:=Aside0.mk A290
              clear A290
              by_cases c30:t157=0
              ·rw[if_pos c30]at H
               have c30b0:(t157==0)=true:=beq_iff_eq.mpr c30;have c30b1:(t157 !=0)=false:=bne_eq_false_iff_eq.mpr c30;clear c30
               by_cases c31:t156.toList=a0.toList
               ·rw[if_pos c31]at H
                have c31b0:(t156.toList==a0.toList)=true:=beq_iff_eq.mpr c31;have c31b1:(t156.toList !=a0.toList)=false:=bne_eq_false_iff_eq.mpr c31;clear c31
                have c32b0:=eq_true (of_decide_eq_true (by first|(with_reducible assumption)|assumption):1≤(x6_2.size:Int))
                simp only[Option.some.injEq,Prod.mk.injEq]at H;obtain⟨rfl,rfl,rfl⟩:=H;obtain⟨Ao33,co33,eo33⟩:=Kd.R_slice HO_5.out;subst eo33
                go_wp2_with (first|((with_reducible refine gate_callee (f:=184) rfl ?_);refine goesL_ (some 58) rfl rfl Tryz.func184 (by kernel_rfl) rfl #[.string (x6_2.extract 1 x6_2.size), .slice Ao33 x5_2.length co33] rfl (by(try simp only[List.map_toArray,List.map_cons,List.map_nil]);first|done|rfl|(simp only[List.length_drop,List.length_take];rfl)) ?_;(with_reducible refine(hornbookref02_Sig.calls kj22 (x6_2.extract 1 x6_2.size) _ _ x5_2 t156 t157 _ ?side1 ?side2 A29.out).mono ?_);(case side1=>repeat (first|exact(Kd.R_reads' HO_5.out).2.2|(with_reducible refine Kd.C_alloc ?_ _)|(with_reducible refine Kd.C_drewN ?_ _)|(with_reducible refine Kd.C_drew ?_)));(case side2=>exact(Kd.R_reads' HO_5.out).2.1);rintro e w' ⟨rfl,⟨nd,rfl⟩⟩;refine⟨_,rfl,?_⟩))
                go_ret3;exact⟨_,by first|rfl|(simp[errW_none,errW_some]<;>rfl)|(simp[*,errW_none,errW_some]<;>rfl),by(with_reducible repeat (first|apply Kd.R_alloc|apply Kd.R_drewN|apply Kd.R_drew));exact HO_5.out,by repeat (first|(with_reducible first|exact HB.out|apply below_alloc|apply pw_below_drewN|apply below_drew1)|exact HB.out)⟩
               ·rw[if_neg c31]at H
                have c31b0:(t156.toList==a0.toList)=false:=beq_eq_false_iff_ne.mpr c31;have c31b1:(t156.toList !=a0.toList)=true:=bne_iff_ne.mpr c31;simp only[Option.some.injEq,Prod.mk.injEq]at H;obtain⟨rfl,rfl,rfl⟩:=H;obtain⟨Ao34,co34,eo34⟩:=Kd.R_slice HO_5.out;subst eo34
                go_wp2_with (first|((with_reducible refine gate_callee (f:=184) rfl ?_);refine goesL_ (some 58) rfl rfl Tryz.func184 (by kernel_rfl) rfl #[.string (x6_2.extract 1 x6_2.size), .slice Ao34 x5_2.length co34] rfl (by(try simp only[List.map_toArray,List.map_cons,List.map_nil]);first|done|rfl|(simp only[List.length_drop,List.length_take];rfl)) ?_;(with_reducible refine(hornbookref02_Sig.calls kj22 (x6_2.extract 1 x6_2.size) _ _ x5_2 t156 t157 _ ?side1 ?side2 A29.out).mono ?_);(case side1=>repeat (first|exact(Kd.R_reads' HO_5.out).2.2|(with_reducible refine Kd.C_alloc ?_ _)|(with_reducible refine Kd.C_drewN ?_ _)|(with_reducible refine Kd.C_drew ?_)));(case side2=>exact(Kd.R_reads' HO_5.out).2.1);rintro e w' ⟨rfl,⟨nd,rfl⟩⟩;refine⟨_,rfl,?_⟩))
                go_ret3;exact⟨_,by first|rfl|(simp[errW_none,errW_some]<;>rfl)|(simp[*,errW_none,errW_some]<;>rfl),by first|exact Kd.R_nil _ _ _ _ _|exact Kd.N_nil _ _ _ _ _|exact Kd.V_nil _ _ _ _ _|exact Kd.Q_nil _ _ _ _ _|exact Kd.S_nil _ _ _ _ _,by repeat (first|(with_reducible first|exact HB.out|apply below_alloc|apply pw_below_drewN|apply below_drew1)|exact HB.out)⟩
              ·rw[if_neg c30]at H
               have c30b0:(t157==0)=false:=beq_eq_false_iff_ne.mpr c30;have c30b1:(t157 !=0)=true:=bne_iff_ne.mpr c30;simp only[Option.some.injEq,Prod.mk.injEq]at H;obtain⟨rfl,rfl,rfl⟩:=H;obtain⟨Ao35,co35,eo35⟩:=Kd.R_slice HO_5.out;subst eo35
               go_wp2_with (first|((with_reducible refine gate_callee (f:=184) rfl ?_);refine goesL_ (some 58) rfl rfl Tryz.func184 (by kernel_rfl) rfl #[.string (x6_2.extract 1 x6_2.size), .slice Ao35 x5_2.length co35] rfl (by(try simp only[List.map_toArray,List.map_cons,List.map_nil]);first|done|rfl|(simp only[List.length_drop,List.length_take];rfl)) ?_;(with_reducible refine(hornbookref02_Sig.calls kj22 (x6_2.extract 1 x6_2.size) _ _ x5_2 t156 t157 _ ?side1 ?side2 A29.out).mono ?_);(case side1=>repeat (first|exact(Kd.R_reads' HO_5.out).2.2|(with_reducible refine Kd.C_alloc ?_ _)|(with_reducible refine Kd.C_drewN ?_ _)|(with_reducible refine Kd.C_drew ?_)));(case side2=>exact(Kd.R_reads' HO_5.out).2.1);rintro e w' ⟨rfl,⟨nd,rfl⟩⟩;refine⟨_,rfl,?_⟩))
               go_ret3;exact⟨_,by first|rfl|(simp[errW_none,errW_some]<;>rfl)|(simp[*,errW_none,errW_some]<;>rfl),by first|exact Kd.R_nil _ _ _ _ _|exact Kd.N_nil _ _ _ _ _|exact Kd.V_nil _ _ _ _ _|exact Kd.Q_nil _ _ _ _ _|exact Kd.S_nil _ _ _ _ _,by repeat (first|(with_reducible first|exact HB.out|apply below_alloc|apply pw_below_drewN|apply below_drew1)|exact HB.out)⟩
             ·rw[if_neg c28]at H
              exact absurd H (by simp)
    ·rw[if_neg c7]at H
     exact absurd H (by simp)
end Go.Proofs.YtcocmlmligjjcaaGreatDoor.Q
