-- SQUEEZED
import Derived.Test.YtcocmlmligjjcaaGreatDoorBSplit
namespace Go.Proofs.YtcocmlmligjjcaaGreatDoor.AM
open Go Go.Proofs Go.RowKit
set_option linter.unusedVariables false
set_option linter.unusedSimpArgs false
noncomputable def E42:Env:={E0 with L:=fun f s=>f==42&&s==35}
noncomputable def X42s:SX:={E:=E42,f:=42,con:=fun _=>false,split:=fun d=> [17,21,27].contains d,call:=fun f args h=>if f=109 then callsRun [(109,XN 109 [],Tryz.f109,bodyOf Tryz.f109)] f args h else callsBy [clS 108] f args h}
def z42:AV:= .str ⟨#[]⟩
def R42(k:Nat):List AV:=z42::List.replicate k z42
def V42(c:ByteArray):AV:= .str (⟨#[76]⟩++c++⟨#[59]⟩)
def m42(n s:ByteArray)(k:Int)(cd:List tyI.I)(hd:List tyH.I):Blk:= .var [.str n, .str s, .int .i64 k,encL tyI cd,encL tyH hd]
def L42(c:ByteArray)(ts:List AV)(k:Nat):List AV:=(V42 c::List.replicate k z42).take 1++ts.take (min ts.length ((R42 k).length-1))++(V42 c::List.replicate k z42).drop (1+min ts.length ((R42 k).length-1))
def e42(e:Int):AV:= .tup [.agg [.nils, .nils], .int .i64 e]
noncomputable def main42(c n s:ByteArray)(k:Nat)(cd:List tyI.I)(hd:List tyH.I):T (AV×H):=
 .br (decide ((0:Int)≤((k+1:Nat):Int))&&decide (((k+1:Nat):Int)≤((k+1:Nat):Int))&&decide (((k+1:Nat):Int)*((16:Nat):Int)≤140737488355328)&&decide (((k+1:Nat):Int)≤140737488355328))
  (.br (decide (1+c.size≤9223372036854775807)) (.br (decide (((⟨#[76]⟩:ByteArray)++c).size+1≤9223372036854775807))
   (.br (decide ((0:Int)≤0)&&decide ((0:Int)<((R42 k).length:Int))) (.br true (.br true
    (.br (decide (1≤(R42 k).length)&&decide ((R42 k).length≤(R42 k).length)&&decide ((R42 k).length=(R42 k).length))
     (.br (decide (1+((R42 k).length-1)≤(V42 c::List.replicate k z42).length)&&(sp2 [.str s]).all fun y=>y.cells.all AV.leaf)
      (.leaf (.tup [.agg [.sl 2 0 (R42 k).length 1 false, .nils], .int .i64 0],[m42 n s ((k+1:Nat):Int) cd hd, .var [.sl 2 0 (R42 k).length 1 false, .nils], .arr 1 (L42 c (sp2 [.str s]) k)]))
      .fail) .fail) .fail) .fail) .fail) .fail) .fail) .fail
theorem q42(c n s:ByteArray)(k:Nat)(cd:List tyI.I)(hd:List tyH.I):runF X42s (fun _=>none) Tryz.f42 (bodyOf Tryz.f42) [.str c, .agg [.str n, .str s, .int .i64 ((k+1:Nat):Int),encL tyI cd,encL tyH hd]] []=
  .br (askQ (clS 108).2 [.str s]) (.br (!decide (sp3 [.str s]=0)) (.leaf (e42 5,[m42 n s ((k+1:Nat):Int) cd hd, .var [.nils, .nils]]))
   (.br (decide (((k+1:Nat):Int)≤((sp2 [.str s]).length:Int))) (.br true (.leaf (e42 2,[m42 n s ((k+1:Nat):Int) cd hd, .var [.nils, .nils]])) (main42 c n s k cd hd))
    (.br (decide ((24:Int)<((k+1:Nat):Int))) (.leaf (e42 2,[m42 n s ((k+1:Nat):Int) cd hd, .var [.nils, .nils]])) (main42 c n s k cd hd)))) .fail:=by kernel_rfl
def spine42:T (AV×H)→Option (Bool×Bool×(AV×H)×Bool×Bool×(AV×H))
 | .br a (.br b (.leaf l) (.br q (.br d (.leaf m) _) _)) _=>some (a,b,l,q,d,m)
 |_=>none
theorem s42(c n s:ByteArray)(k:Int)(cd:List tyI.I)(hd:List tyH.I):spine42 (runF X42s (fun _=>none) Tryz.f42 (bodyOf Tryz.f42) [.str c, .agg [.str n, .str s, .int .i64 k,encL tyI cd,encL tyH hd]] [])=
  some (askQ (clS 108).2 [.str s],!decide (sp3 [.str s]=0),(e42 5,[m42 n s k cd hd, .var [.nils, .nils]]),decide (k≤((sp2 [.str s]).length:Int)),true,(e42 2,[m42 n s k cd hd, .var [.nils, .nils]])):=by kernel_rfl
theorem spine_b{t:T (AV×H)}{l m:AV×H}{q d:Bool}(h:spine42 t=some (true,true,l,q,d,m)):t.run= .ok l:=by
 unfold spine42 at h;split at h
 ·cases h;rfl
 ·cases h
theorem spine_q{t:T (AV×H)}{l m:AV×H}(h:spine42 t=some (true,false,l,true,true,m)):t.run= .ok m:=by
 unfold spine42 at h;split at h
 ·cases h;rfl
 ·cases h
theorem calls42:CallOK X42s.E X42s.calls:=by
 intro f args h r h' hc;have hc':((fun f args h=>if f=109 then callsRun [(109,XN 109 [],Tryz.f109,bodyOf Tryz.f109)] f args h else callsBy [clS 108] f args h) f args h:T (AV×H)).run= .ok (r,h'):=hc
 refine Con.env (E:=E0) (E':=E42) rfl rfl ?_
 dsimp only at hc'
 split at hc'
 ·exact callsRun_ok (X:={E:=E0,f:=42,con:=fun _=>false,split:=fun _=>false,call:=callsRun [(109,XN 109 [],Tryz.f109,bodyOf Tryz.f109)]}) rfl (fun r hr=>by
   obtain rfl:=List.mem_singleton.1 hr
   exact⟨g0,noCalls fun _ _ _=>rfl,rfl,Tryz.func109,rfl,rfl⟩) f args h r h' hc'
 ·exact callsBy_ok (X:={E:=E0,f:=42,con:=fun _=>false,split:=fun _=>false,call:=callsBy [clS 108]}) rfl (fun c hc=>by
   obtain rfl:=List.mem_singleton.1 hc
   exact clS70) f args h r h' hc'
theorem g42:Ground E42:=⟨fun t h=>by simpa [E42,E0]using h,cok_none (fun _ _=>rfl),bok_none (fun _=>rfl),by kernel_rfl⟩
noncomputable def startL(c s:ByteArray)(k:Int):List AV:=V42 c::(sp2 [.str s]++List.replicate (k.toNat-1-(sp2 [.str s]).length) z42)
noncomputable def startV(c s:ByteArray)(k:Int):AV:=if sp3 [.str s]=0 then(if k≤((sp2 [.str s]).length:Int)then e42 2 else if 24<k then e42 2 else .tup [.agg [.lst 1 (startL c s k) .open_, .nils], .int .i64 0])else e42 5
theorem sp2_leaf(s:ByteArray):((sp2 [.str s]).all fun y=>y.cells.all AV.leaf)=true:=by
 show(((splitOf s).2.1.map AV.str).all fun y=>y.cells.all AV.leaf)=true;rw[List.all_eq_true];intro y hy;obtain⟨t,_,rfl⟩:=List.mem_map.1 hy;rfl
theorem noRefs42(c n s:ByteArray)(k:Int)(cd:List tyI.I)(hd:List tyH.I):noRefs [.str c, .agg [.str n, .str s, .int .i64 k,encL tyI cd,encL tyH hd]]=true:=by
 simp only[noRefs,noRef,encL_noRef,Bool.and_true]
theorem L42_eq(c:ByteArray)(ts:List AV)(k:Nat)(h:ts.length≤k):L42 c ts k=V42 c::(ts++List.replicate (k-ts.length) z42):=by
 have h1:(R42 k).length-1=k:=by simp[R42]
 unfold L42;rw[h1,Nat.min_eq_left h,List.take_length,List.take_succ_cons,List.take_zero,Nat.add_comm 1,List.drop_succ_cons,List.drop_replicate];rfl
theorem run42{c n s:ByteArray}{k:Int}{cd:List tyI.I}{hd:List tyH.I}{r:AV}{h':H}(hr:(runF X42s (fun _=>none) Tryz.f42 (bodyOf Tryz.f42) [.str c, .agg [.str n, .str s, .int .i64 k,encL tyI cd,encL tyH hd]] []).run= .ok (r,h')):
  Con E42 42 [.str c, .agg [.str n, .str s, .int .i64 k,encL tyI cd,encL tyH hd]] [] r h':=Con.of_run (X:=X42s) (f:=42) g42 calls42 (fn:=Tryz.f42) Tryz.func42 (c:=bodyOf Tryz.f42) rfl rfl KOK.none hr
theorem noG42: ∀i cs,E42.G i=some cs→noRefs cs=true:=noG0
theorem con42(c n s:ByteArray)(k:Int)(cd:List tyI.I)(hd:List tyH.I)(hc:c.size≤140737488351232)(hs:s.size≤140737488351232)(h:H):
  Con E0 42 [.str c, .agg [.str n, .str s, .int .i64 k,encL tyI cd,encL tyH hd]] h (startV c s k) h:=by
 refine Con.env (E:=E42) (E':=E0) rfl rfl ?_
 have hq:askQ (clS 108).2 [.str s]=true:=ask_true ⟨s,rfl,hs⟩
 have hlen:=sp2_len s hs
 have hsp:=s42 c n s k cd hd
 rw[hq]at hsp
 have base: ∀{e:Int} {h':H},(runF X42s (fun _=>none) Tryz.f42 (bodyOf Tryz.f42) [.str c, .agg [.str n, .str s, .int .i64 k,encL tyI cd,encL tyH hd]] []).run= .ok (e42 e,h')→Con E42 42 [.str c, .agg [.str n, .str s, .int .i64 k,encL tyI cd,encL tyH hd]] h (e42 e) h:=fun hr=>
  Con.based noG42 (run42 hr) (noRefs42 ..) (Le.refl _) rfl h
 unfold startV
 by_cases h3:sp3 [.str s]=0
 ·rw[if_pos h3]
  have d3:(!decide (sp3 [.str s]=0))=false:=by simp[h3]
  rw[d3]at hsp
  by_cases hk:k≤((sp2 [.str s]).length:Int)
  ·rw[if_pos hk]
   rw[decide_eq_true hk]at hsp;exact base (spine_q hsp)
  ·rw[if_neg hk]
   obtain⟨j,rfl⟩: ∃j:Nat,k=((j+1:Nat):Int):=⟨(k-1).toNat,by omega⟩
   have ht:=congrArg T.run (q42 c n s j cd hd)
   rw[hq,d3,decide_eq_false hk]at ht
   by_cases h24:(24:Int)<((j+1:Nat):Int)
   ·rw[if_pos h24]
    rw[decide_eq_true h24]at ht;exact base ht
   ·rw[if_neg h24]
    rw[decide_eq_false h24]at ht
    have hRl:(R42 j).length=j+1:=by simp[R42]
    have hVl:(V42 c::List.replicate j z42).length=j+1:=by simp
    have b1:(decide ((0:Int)≤((j+1:Nat):Int))&&decide (((j+1:Nat):Int)≤((j+1:Nat):Int))&&decide (((j+1:Nat):Int)*((16:Nat):Int)≤140737488355328)&&decide (((j+1:Nat):Int)≤140737488355328))=true:=by
     simp only[Bool.and_eq_true,decide_eq_true_eq];omega
    have b2:decide (1+c.size≤9223372036854775807)=true:=by simp only[decide_eq_true_eq];omega
    have b3:decide (((⟨#[76]⟩:ByteArray)++c).size+1≤9223372036854775807)=true:=by
     have:((⟨#[76]⟩:ByteArray)++c).size=1+c.size:=by rw[ByteArray.size_append];rfl
     simp only[decide_eq_true_eq];omega
    have b4:(decide ((0:Int)≤0)&&decide ((0:Int)<((R42 j).length:Int)))=true:=by
     simp only[Bool.and_eq_true,decide_eq_true_eq,hRl];omega
    have b5:(decide (1≤(R42 j).length)&&decide ((R42 j).length≤(R42 j).length)&&decide ((R42 j).length=(R42 j).length))=true:=by
     rw[decide_eq_true (show 1≤(R42 j).length by rw[hRl];omega),decide_eq_true (Nat.le_refl (R42 j).length),decide_eq_true (rfl:(R42 j).length=(R42 j).length)];rfl
    have b6:(decide (1+((R42 j).length-1)≤(V42 c::List.replicate j z42).length)&&(sp2 [.str s]).all fun y=>y.cells.all AV.leaf)=true:=by
     have:1+((R42 j).length-1)≤(V42 c::List.replicate j z42).length:=by rw[hRl,hVl];omega
     rw[decide_eq_true this,sp2_leaf];rfl
    have hm:(main42 c n s j cd hd).run= .ok (.tup [.agg [.sl 2 0 (R42 j).length 1 false, .nils], .int .i64 0],[m42 n s ((j+1:Nat):Int) cd hd, .var [.sl 2 0 (R42 j).length 1 false, .nils], .arr 1 (L42 c (sp2 [.str s]) j)]):=by
     unfold main42;rw[b1,b2,b3,b4,b5,b6];rfl
    have hcon:=Con.freeze (b:=2) (run42 (ht.trans hm)) rfl
    have hts:(sp2 [.str s]).length≤j:=by omega
    have hL:L42 c (sp2 [.str s]) j=startL c s ((j+1:Nat):Int):=by
     rw[L42_eq c _ j hts];unfold startL;rw[Int.toNat_natCast,Nat.add_sub_cancel]
    have hLl:(L42 c (sp2 [.str s]) j).length=j+1:=by
     rw[L42_eq c _ j hts,List.length_cons,List.length_append,List.length_replicate];omega
    have hfr:frz 2 1 (L42 c (sp2 [.str s]) j) (.tup [.agg [.sl 2 0 (R42 j).length 1 false, .nils], .int .i64 0])= .tup [.agg [.lst 1 (startL c s ((j+1:Nat):Int)) .open_, .nils], .int .i64 0]:=by
     simp only[frz,frzs,hRl];rw[if_pos ⟨trivial,trivial,by rw[hLl];omega⟩,List.drop_zero,←hL,List.take_of_length_le (by rw[hLl];exact Nat.le_refl _)]
    rw[hfr]at hcon
    refine Con.based noG42 hcon (noRefs42 ..) (Le.refl _) ?_ h
    have:noRefs (startL c s ((j+1:Nat):Int))=true:=by
     unfold startL;simp only[noRefs,Bool.and_eq_true];refine⟨rfl,?_⟩
     refine noRefs_mem _ fun y hy=>?_
     rcases List.mem_append.1 hy with hy|hy
     ·have hy':y∈(splitOf s).2.1.map AV.str:=hy
      obtain⟨t,_,rfl⟩:=List.mem_map.1 hy';rfl
     ·rw[(List.mem_replicate.1 hy).2];rfl
    simp only[noRef,noRefs,this];rfl
 ·rw[if_neg h3]
  have d3:(!decide (sp3 [.str s]=0))=true:=by simp[h3]
  rw[d3]at hsp;exact base (spine_b hsp)
noncomputable def X43s:SX:={E:=E0,f:=43,con:=fun _=>false,split:=fun d=> [18,26,30,47].contains d,call:=callsBy [clS 110]}
theorem q43l(c n s:ByteArray)(k:Int)(cd:List tyI.I)(hd:List tyH.I)(l:List AV):obsK X43s (fun _=>none) 54 (sub (bodyOf Tryz.f43) [1,1,1,1,1,1,0,0,0]) [1,1,1,1,1,1,0,0,0] (frm [(3, .ptr 0 0),(4, .ptr 1 0),(9, .ptr 3 0)]) [.var [.str n, .str s, .int .i64 k,encL tyI cd,encL tyH hd], .var [.nils, .nils], .dead, .var [.lst 1 l (.own 4), .nils], .tail] [3,4,9]=
 (T.br (decide ((↑l.length:Int)<k))
  (T.br (decide ((l.length+(1:Nat))*(16:Nat)≤(140000000000000:Nat))&&
  decide (l.length+(1:Nat)≤(140000000000000:Nat))&&
 [AV.str {data:={toList:= []}}].all fun y=>y.cells.all AV.leaf)
   (T.leaf ((X.normal,[AV.ptr 0 0,AV.ptr 1 0,AV.ptr 3 0],
 [Blk.var
   [AV.str n,AV.str s,AV.int IntKind.i64 k,AV.lst 2 (List.map tyI.elem cd) Tl.open_,
    AV.lst 4 (List.map tyH.elem hd) Tl.open_],
  Blk.var [AV.nils,AV.nils],Blk.dead,
  Blk.var [AV.lst 1 (l++ [AV.str {data:={toList:= []}}]) (Tl.own 6),AV.nils],Blk.dead,Blk.tail,
  Blk.tail])))
   T.fail)
  (T.leaf ((X.exit 0,[AV.ptr 0 0,AV.ptr 1 0,AV.ptr 3 0],
 [Blk.var
   [AV.str n,AV.str s,AV.int IntKind.i64 k,AV.lst 2 (List.map tyI.elem cd) Tl.open_,
    AV.lst 4 (List.map tyH.elem hd) Tl.open_],
  Blk.var [AV.nils,AV.nils],Blk.dead,Blk.var [AV.lst 1 l (Tl.own 4),AV.nils],Blk.tail])))):=by kernel_rfl
theorem q43(c n s:ByteArray)(k:Int)(cd:List tyI.I)(hd:List tyH.I)(m:List AV):runF X43s (kAt [1,1,1,1,1,1,0] [(3, .ptr 0 0),(4, .ptr 1 0),(9, .ptr 3 0)] [.var [.str n, .str s, .int .i64 k,encL tyI cd,encL tyH hd], .var [.nils, .nils], .dead, .var [.lst 1 (.str (⟨#[76]⟩++c++⟨#[59]⟩)::sp2 [.str s]) (.own 4), .nils], .tail] .normal [(4, .ptr 1 0),(9, .ptr 3 0)] [.var [.str n, .str s, .int .i64 k,encL tyI cd,encL tyH hd], .var [.nils, .nils], .dead, .var [.lst 1 m (.own 4), .nils], .tail]) Tryz.f43 (bodyOf Tryz.f43) [.str c, .agg [.str n, .str s, .int .i64 k,encL tyI cd,encL tyH hd]] []=
 (T.br (askQ (clS (110:FuncId)).2 [AV.str s])
  (T.br (!decide (sp3 [AV.str s]=(0:Int)))
   (T.leaf ((AV.tup [AV.agg [AV.nils,AV.nils],AV.int IntKind.i64 5],
 [Blk.var
   [AV.str n,AV.str s,AV.int IntKind.i64 k,AV.lst 2 (List.map tyI.elem cd) Tl.open_,
    AV.lst 4 (List.map tyH.elem hd) Tl.open_],
  Blk.var [AV.nils,AV.nils]])))
   (T.br (decide (k<IntKind.i64.wrap ((↑(sp2 [AV.str s]).length:Int)+(1:Int))))
    (T.br true
     (T.leaf ((AV.tup [AV.agg [AV.nils,AV.nils],AV.int IntKind.i64 2],
 [Blk.var
   [AV.str n,AV.str s,AV.int IntKind.i64 k,AV.lst 2 (List.map tyI.elem cd) Tl.open_,
    AV.lst 4 (List.map tyH.elem hd) Tl.open_],
  Blk.var [AV.nils,AV.nils]])))
     (T.br (decide ((1:Nat)+c.size≤(9223372036854775807:Nat)))
      (T.br (decide
 (({data:={toList:= [(76:UInt8)]}}++c).size+(1:Nat)≤(9223372036854775807:Nat)))
          (T.br (decide (((1:Nat)+(sp2 [AV.str s]).length)*(16:Nat)≤(140000000000000:Nat))&&
   decide ((1:Nat)+(sp2 [AV.str s]).length≤(140000000000000:Nat))&&
 (sp2 [AV.str s]).all fun y=>y.cells.all AV.leaf)
        (T.br (askS [AV.ptr (0:Nat) (0:Nat),AV.ptr (1:Nat) (0:Nat),AV.ptr (3:Nat) (0:Nat)]
 [AV.ptr (0:Nat) (0:Nat),AV.ptr (1:Nat) (0:Nat),AV.ptr (3:Nat) (0:Nat)]
 [Blk.var
   [AV.str n,AV.str s,AV.int IntKind.i64 k,AV.lst (2:Nat) (List.map tyI.elem cd) Tl.open_,
    AV.lst (4:Nat) (List.map tyH.elem hd) Tl.open_],
  Blk.var [AV.nils,AV.nils],Blk.dead,
  Blk.var
   [AV.lst (1:Nat)
     (AV.str ({data:={toList:= [(76:UInt8)]}}++c++{data:={toList:= [(59:UInt8)]}})::
      sp2 [AV.str s])
     (Tl.own (4:Nat)),
    AV.nils],
  Blk.tail]
 [Blk.var
   [AV.str n,AV.str s,AV.int IntKind.i64 k,AV.lst (2:Nat) (List.map tyI.elem cd) Tl.open_,
    AV.lst (4:Nat) (List.map tyH.elem hd) Tl.open_],
  Blk.var [AV.nils,AV.nils],Blk.dead,
  Blk.var
   [AV.lst (1:Nat)
     (AV.str ({data:={toList:= [(76:UInt8)]}}++c++{data:={toList:= [(59:UInt8)]}})::
      sp2 [AV.str s])
     (Tl.own (4:Nat)),
    AV.nils],
  Blk.tail])
         (T.leaf ((AV.tup [AV.agg [AV.lst 1 m (Tl.own 4),AV.nils],AV.int IntKind.i64 0],
 [Blk.var
   [AV.str n,AV.str s,AV.int IntKind.i64 k,AV.lst 2 (List.map tyI.elem cd) Tl.open_,
    AV.lst 4 (List.map tyH.elem hd) Tl.open_],
  Blk.var [AV.lst 1 m (Tl.own 4),AV.nils],Blk.dead,Blk.var [AV.lst 1 m (Tl.own 4),AV.nils],Blk.tail])))
         T.fail)
        T.fail)
       T.fail)
          T.fail))
    (T.br (decide ((24:Int)<k))
     (T.leaf ((AV.tup [AV.agg [AV.nils,AV.nils],AV.int IntKind.i64 2],
 [Blk.var
   [AV.str n,AV.str s,AV.int IntKind.i64 k,AV.lst 2 (List.map tyI.elem cd) Tl.open_,
    AV.lst 4 (List.map tyH.elem hd) Tl.open_],
  Blk.var [AV.nils,AV.nils]])))
     (T.br (decide ((1:Nat)+c.size≤(9223372036854775807:Nat)))
      (T.br (decide
 (({data:={toList:= [(76:UInt8)]}}++c).size+(1:Nat)≤(9223372036854775807:Nat)))
          (T.br (decide (((1:Nat)+(sp2 [AV.str s]).length)*(16:Nat)≤(140000000000000:Nat))&&
   decide ((1:Nat)+(sp2 [AV.str s]).length≤(140000000000000:Nat))&&
 (sp2 [AV.str s]).all fun y=>y.cells.all AV.leaf)
        (T.br (askS [AV.ptr (0:Nat) (0:Nat),AV.ptr (1:Nat) (0:Nat),AV.ptr (3:Nat) (0:Nat)]
 [AV.ptr (0:Nat) (0:Nat),AV.ptr (1:Nat) (0:Nat),AV.ptr (3:Nat) (0:Nat)]
 [Blk.var
   [AV.str n,AV.str s,AV.int IntKind.i64 k,AV.lst (2:Nat) (List.map tyI.elem cd) Tl.open_,
    AV.lst (4:Nat) (List.map tyH.elem hd) Tl.open_],
  Blk.var [AV.nils,AV.nils],Blk.dead,
  Blk.var
   [AV.lst (1:Nat)
     (AV.str ({data:={toList:= [(76:UInt8)]}}++c++{data:={toList:= [(59:UInt8)]}})::
      sp2 [AV.str s])
     (Tl.own (4:Nat)),
    AV.nils],
  Blk.tail]
 [Blk.var
   [AV.str n,AV.str s,AV.int IntKind.i64 k,AV.lst (2:Nat) (List.map tyI.elem cd) Tl.open_,
    AV.lst (4:Nat) (List.map tyH.elem hd) Tl.open_],
  Blk.var [AV.nils,AV.nils],Blk.dead,
  Blk.var
   [AV.lst (1:Nat)
     (AV.str ({data:={toList:= [(76:UInt8)]}}++c++{data:={toList:= [(59:UInt8)]}})::
      sp2 [AV.str s])
     (Tl.own (4:Nat)),
    AV.nils],
  Blk.tail])
         (T.leaf ((AV.tup [AV.agg [AV.lst 1 m (Tl.own 4),AV.nils],AV.int IntKind.i64 0],
 [Blk.var
   [AV.str n,AV.str s,AV.int IntKind.i64 k,AV.lst 2 (List.map tyI.elem cd) Tl.open_,
    AV.lst 4 (List.map tyH.elem hd) Tl.open_],
  Blk.var [AV.lst 1 m (Tl.own 4),AV.nils],Blk.dead,Blk.var [AV.lst 1 m (Tl.own 4),AV.nils],Blk.tail])))
         T.fail)
        T.fail)
       T.fail)
          T.fail))))
  T.fail):=by kernel_rfl
def ss43:List (Nat×AV):= [(3, .ptr 0 0),(4, .ptr 1 0),(9, .ptr 3 0)]
def hm43(n s:ByteArray)(k:Int)(cd:List tyI.I)(hd:List tyH.I)(l:List AV):H:= [m42 n s k cd hd, .var [.nils, .nils], .dead, .var [.lst 1 l (.own 4), .nils], .tail]
theorem calls43:CallOK X43s.E X43s.calls:=callsBy_ok rfl fun c hc=>by
 obtain rfl:=List.mem_singleton.1 hc;exact clS72
def kap43:Nat→Nat:=fun i=>if i<4 then i else i+2
theorem wk43(n s:ByteArray)(k:Int)(cd:List tyI.I)(hd:List tyH.I)(L:List AV)(hL:noRefs L=true):
  Wk E0 54 [] (frm ss43) [m42 n s k cd hd, .var [.nils, .nils], .dead, .var [.lst 1 L (.own 6), .nils], .dead, .tail, .tail] (frm ss43) (hm43 n s k cd hd L):=by
 have hm:renB kap43 (m42 n s k cd hd)=m42 n s k cd hd:=congrArg Blk.var (rens_noRef _ _ (by simp only[noRefs,noRef,encL_noRef,Bool.and_true]))
 have hv:renB kap43 (.var [.lst 1 L (.own 4), .nils])= .var [.lst 1 L (.own 6), .nils]:=by
  simp only[renB,rens,AM.ren,rens_noRef kap43 L hL];rfl
 refine Wk.ren noG0 (κ:=kap43) ⟨fun i hi=>by simp at hi,fun i hi=>by simp,fun i hi=>?_,fun i x hx=>?_,fun i j x y hx hy _ _ hij=>?_,fun i=>?_⟩
 ·simp[hm43]at hi
  simp only[kap43];rw[if_neg (by omega)];simp;omega
 ·match i,hx with
  |0,hx=>cases hx;exact⟨nofun,_,rfl,by rw[hm];exact LeB.refl _⟩
  |1,hx=>cases hx;exact⟨nofun,_,rfl,LeB.refl _⟩
  |2,hx=>cases hx;exact⟨nofun,_,rfl,LeB.refl _⟩
  |3,hx=>cases hx;exact⟨nofun,_,rfl,by rw[hv];exact LeB.refl _⟩
  |4,hx=>cases hx;exact⟨nofun,_,rfl,LeB.refl _⟩
  |n+5,hx=>cases hx
 ·simp only[kap43]at hij
  split at hij<;>split at hij<;>omega
 ·rcases look_all ss43 i with h|⟨p,hp,he⟩
  ·exact .inl h
  ·refine .inr ?_
   show Le (look ss43 i) (AM.ren kap43 (look ss43 i))∧ ∀sz l,look ss43 i≠ .fsl sz l;rw[he];simp only[ss43,List.mem_cons,List.not_mem_nil,or_false]at hp
   rcases hp with rfl|rfl|rfl<;>exact⟨Le.refl _,nofun⟩
theorem go43(c n s:ByteArray)(k:Int)(cd:List tyI.I)(hd:List tyH.I)(l:List AV)(hL:noRefs l=true)(hk:(l.length:Int)<k)(hb:l.length<1000):
  Tri E0 54 [] (sub (bodyOf Tryz.f43) [1,1,1,1,1,1,0,0,0]) (frm ss43) (hm43 n s k cd hd l) .normal (frm ss43) (hm43 n s k cd hd (l++ [z42])):=by
 have ht:=q43l c n s k cd hd l
 have b1:(decide ((l.length+1)*16≤140000000000000)&&decide (l.length+1≤140000000000000)&& [AV.str {data:={toList:= []}}].all fun y=>y.cells.all AV.leaf)=true:=by
  have:([AV.str {data:={toList:= []}}].all fun y=>y.cells.all AV.leaf)=true:=rfl;rw[this];simp only[Bool.and_true,Bool.and_eq_true,decide_eq_true_eq];omega
 rw[decide_eq_true hk,b1]at ht;refine .wk .refl (Tri.seen (X:=X43s) g0 calls43 KOK.none rfl (congrArg T.run ht) (sl:=ss43) (fun q hq=>?_)) (wk43 n s k cd hd (l++ [z42]) (noRefs_append _ _ hL rfl));simp only[ss43,List.mem_cons,List.not_mem_nil,or_false]at hq
 rcases hq with rfl|rfl|rfl<;>rfl
theorem out43(c n s:ByteArray)(k:Int)(cd:List tyI.I)(hd:List tyH.I)(l:List AV)(hk: ¬(l.length:Int)<k):
  Tri E0 54 [] (sub (bodyOf Tryz.f43) [1,1,1,1,1,1,0,0,0]) (frm ss43) (hm43 n s k cd hd l) (.exit 0) (frm [(4, .ptr 1 0),(9, .ptr 3 0)]) (hm43 n s k cd hd l):=by
 have ht:=q43l c n s k cd hd l
 rw[decide_eq_false hk]at ht;refine Tri.seen (X:=X43s) g0 calls43 KOK.none rfl (congrArg T.run ht) (fun q hq=>?_);simp only[List.mem_cons,List.not_mem_nil,or_false]at hq
 rcases hq with rfl|rfl<;>rfl
theorem rounds43(c n s:ByteArray)(k:Int)(cd:List tyI.I)(hd:List tyH.I): ∀(d:Nat) (l:List AV),noRefs l=true→((l.length+d:Nat):Int)=k→l.length+d<1000→
  TRounds E0 54 [] (sub (bodyOf Tryz.f43) [1,1,1,1,1,1,0,0,0]) (frm ss43) (hm43 n s k cd hd l) (.exit 0) (frm [(4, .ptr 1 0),(9, .ptr 3 0)]) (hm43 n s k cd hd (l++List.replicate d z42))
 |0,l,hL,hk,hb=>by
  rw[List.replicate_zero,List.append_nil];exact .done (out43 c n s k cd hd l (by omega)) nofun
 |d+1,l,hL,hk,hb=>by
  have h:=rounds43 c n s k cd hd d (l++ [z42]) (noRefs_append _ _ hL rfl) (by rw[List.length_append,List.length_singleton];omega) (by rw[List.length_append,List.length_singleton];omega)
  rw[List.append_assoc,List.singleton_append,←List.replicate_succ]at h;exact .more (go43 c n s k cd hd l hL (by omega) (by omega)) h
theorem sp2_noRefs(s:ByteArray):noRefs (sp2 [.str s])=true:=by
 refine noRefs_mem _ fun y hy=>?_
 have hy':y∈(splitOf s).2.1.map AV.str:=hy;obtain⟨t,_,rfl⟩:=List.mem_map.1 hy';rfl
theorem s43(c n s:ByteArray)(k:Int)(cd:List tyI.I)(hd:List tyH.I):spine42 (runF X43s (fun _=>none) Tryz.f43 (bodyOf Tryz.f43) [.str c, .agg [.str n, .str s, .int .i64 k,encL tyI cd,encL tyH hd]] [])=
  some (askQ (clS 110).2 [.str s],!decide (sp3 [.str s]=0),(e42 5,[m42 n s k cd hd, .var [.nils, .nils]]),decide (k<IntKind.i64.wrap (((sp2 [.str s]).length:Int)+1)),true,(e42 2,[m42 n s k cd hd, .var [.nils, .nils]])):=by kernel_rfl
def spine24:T (AV×H)→Option (Bool×Bool×Bool×Bool×(AV×H))
 | .br a (.br b _ (.br q _ (.br d (.leaf m) _))) _=>some (a,b,q,d,m)
 |_=>none
theorem s43b(c n s:ByteArray)(k:Int)(cd:List tyI.I)(hd:List tyH.I):spine24 (runF X43s (fun _=>none) Tryz.f43 (bodyOf Tryz.f43) [.str c, .agg [.str n, .str s, .int .i64 k,encL tyI cd,encL tyH hd]] [])=
  some (askQ (clS 110).2 [.str s],!decide (sp3 [.str s]=0),decide (k<IntKind.i64.wrap (((sp2 [.str s]).length:Int)+1)),decide ((24:Int)<k),(e42 2,[m42 n s k cd hd, .var [.nils, .nils]])):=by kernel_rfl
theorem spine_24{t:T (AV×H)}{m:AV×H}(h:spine24 t=some (true,false,false,true,m)):t.run= .ok m:=by
 unfold spine24 at h;split at h
 ·cases h;rfl
 ·cases h
set_option maxRecDepth 100000 in
theorem con43(c n s:ByteArray)(k:Int)(cd:List tyI.I)(hd:List tyH.I)(hc:c.size≤140737488351232)(hs:s.size≤140737488351232)(h:H):
  Con E0 43 [.str c, .agg [.str n, .str s, .int .i64 k,encL tyI cd,encL tyH hd]] h (startV c s k) h:=by
 have hq:askQ (clS 110).2 [.str s]=true:=ask_true ⟨s,rfl,hs⟩
 have hlen:=sp2_len s hs
 have run: ∀{K:Known} {r r':AV} {h':H},KOK E0 54 [] (bodyOf Tryz.f43) K→(runF X43s K Tryz.f43 (bodyOf Tryz.f43) [.str c, .agg [.str n, .str s, .int .i64 k,encL tyI cd,encL tyH hd]] []).run= .ok (r,h')→Le r r'→noRef r'=true→
   Con E0 43 [.str c, .agg [.str n, .str s, .int .i64 k,encL tyI cd,encL tyH hd]] h r' h:=fun hK hr hl hn=>
  Con.based noG0 (Con.of_run (X:=X43s) (f:=43) g0 calls43 (fn:=Tryz.f43) Tryz.func43 (c:=bodyOf Tryz.f43) rfl rfl (args:= [.str c, .agg [.str n, .str s, .int .i64 k,encL tyI cd,encL tyH hd]]) (h:= []) hK hr) (noRefs42 ..) hl hn h
 obtain⟨l0,hl0⟩: ∃l0,l0=V42 c::sp2 [.str s]:=⟨_,rfl⟩
 have hll:l0.length=1+(sp2 [.str s]).length:=by rw[hl0,List.length_cons];omega
 have hw:IntKind.i64.wrap (((sp2 [.str s]).length:Int)+1)=((sp2 [.str s]).length:Int)+1:=by rw[wrap64 (by omega) (by omega)]
 unfold startV
 by_cases h3:sp3 [.str s]=0
 ·rw[if_pos h3]
  have d3:(!decide (sp3 [.str s]=0))=false:=by simp[h3]
  by_cases hk:k≤((sp2 [.str s]).length:Int)
  ·rw[if_pos hk]
   have hk':k<((sp2 [.str s]).length:Int)+1:=by omega
   have ht:=s43 c n s k cd hd
   rw[hq,d3,hw,decide_eq_true hk']at ht;exact run KOK.none (spine_q ht) (Le.refl _) rfl
  ·rw[if_neg hk]
   have hk': ¬k<((sp2 [.str s]).length:Int)+1:=by omega
   by_cases h24:(24:Int)<k
   ·rw[if_pos h24]
    have ht:=s43b c n s k cd hd
    rw[hq,d3,hw,decide_eq_false hk',decide_eq_true h24]at ht;exact run KOK.none (spine_24 ht) (Le.refl _) rfl
   ·rw[if_neg h24]
    obtain⟨d,hd0⟩: ∃d:Nat,((l0.length+d:Nat):Int)=k:=⟨(k-l0.length).toNat,by omega⟩
    have hL0:noRefs l0=true:=by
     rw[hl0];simp only[noRefs,sp2_noRefs,Bool.and_true];rfl
    have hr:=rounds43 c n s k cd hd d l0 hL0 hd0 (by omega)
    have hK:KOK E0 54 [] (bodyOf Tryz.f43) (kAt [1,1,1,1,1,1,0] ss43 (hm43 n s k cd hd l0) .normal [(4, .ptr 1 0),(9, .ptr 3 0)] (hm43 n s k cd hd (l0++List.replicate d z42))):=kAt_ok (Tri.block (id:=0) (Tri.loop hr))
    have ht:=congrArg T.run (q43 c n s k cd hd (l0++List.replicate d z42))
    have b2:decide (1+c.size≤9223372036854775807)=true:=by simp only[decide_eq_true_eq];omega
    have b3:decide (((⟨#[76]⟩:ByteArray)++c).size+1≤9223372036854775807)=true:=by
     have:((⟨#[76]⟩:ByteArray)++c).size=1+c.size:=by rw[ByteArray.size_append];rfl
     simp only[decide_eq_true_eq];omega
    have b4:(decide ((1+(sp2 [.str s]).length)*16≤140000000000000)&&decide (1+(sp2 [.str s]).length≤140000000000000)&&(sp2 [.str s]).all fun y=>y.cells.all AV.leaf)=true:=by
     rw[sp2_leaf];simp only[Bool.and_true,Bool.and_eq_true,decide_eq_true_eq];omega
    have hS:(askS [AV.ptr (0:Nat) (0:Nat),AV.ptr (1:Nat) (0:Nat),AV.ptr (3:Nat) (0:Nat)]
 [AV.ptr (0:Nat) (0:Nat),AV.ptr (1:Nat) (0:Nat),AV.ptr (3:Nat) (0:Nat)]
 [Blk.var
   [AV.str n,AV.str s,AV.int IntKind.i64 k,AV.lst (2:Nat) (List.map tyI.elem cd) Tl.open_,
    AV.lst (4:Nat) (List.map tyH.elem hd) Tl.open_],
  Blk.var [AV.nils,AV.nils],Blk.dead,
  Blk.var
   [AV.lst (1:Nat)
     (AV.str ({data:={toList:= [(76:UInt8)]}}++c++{data:={toList:= [(59:UInt8)]}})::
      sp2 [AV.str s])
     (Tl.own (4:Nat)),
    AV.nils],
  Blk.tail]
 [Blk.var
   [AV.str n,AV.str s,AV.int IntKind.i64 k,AV.lst (2:Nat) (List.map tyI.elem cd) Tl.open_,
    AV.lst (4:Nat) (List.map tyH.elem hd) Tl.open_],
  Blk.var [AV.nils,AV.nils],Blk.dead,
  Blk.var
   [AV.lst (1:Nat)
     (AV.str ({data:={toList:= [(76:UInt8)]}}++c++{data:={toList:= [(59:UInt8)]}})::
      sp2 [AV.str s])
     (Tl.own (4:Nat)),
    AV.nils],
  Blk.tail])=true:=askS_self _ _
    rw[hq,d3,hw,decide_eq_false hk',decide_eq_false h24,b2,b3,b4,hS]at ht;subst hl0
    have hfin:startL c s k=V42 c::sp2 [.str s]++List.replicate d z42:=by
     unfold startL;rw[List.cons_append]
     congr 3
     omega
    rw[hfin]
    refine run hK ht (Le.tup (Les.cons (Le.agg (Les.cons Le.open_ (Les.cons (Le.refl _) .nil))) (Les.cons (Le.refl _) .nil))) ?_
    have:noRefs (V42 c::sp2 [.str s]++List.replicate d z42)=true:=noRefs_append _ _ hL0 (noRefs_mem _ fun y hy=>by rw[(List.mem_replicate.1 hy).2];rfl);simp only[noRef,noRefs,this];rfl
 ·rw[if_neg h3]
  have d3:(!decide (sp3 [.str s]=0))=true:=by simp[h3]
  have ht:=s43 c n s k cd hd
  rw[hq,d3]at ht;exact run KOK.none (spine_b ht) (Le.refl _) rfl
end Go.Proofs.YtcocmlmligjjcaaGreatDoor.AM
