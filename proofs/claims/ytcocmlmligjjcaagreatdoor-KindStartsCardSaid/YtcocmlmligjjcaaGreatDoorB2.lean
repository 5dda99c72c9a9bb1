-- SQUEEZED
/- slices.Backward over texts: its closure hands out the elements from the last one. -/
import Derived.Test.YtcocmlmligjjcaaGreatDoorA20
import Derived.RangeFuncLeaves
import Derived.Shelf.Abstract
import Derived.WalkKit
import Derived.OwnWalkIn
import Derived.TacticsInMore
import Derived.LoopNIn
import Derived.LoopIn
import Derived.Test.YtcocmlmligjjcaaGreatDoorProg
namespace Go.Proofs.YtcocmlmligjjcaaGreatDoor.AM
open Go.Proofs Go.RowKit Go.Shelf
set_option linter.unusedVariables false
attribute [local go_sem] Oper.semAt_some
set_option maxRecDepth 100000 in
set_option maxHeartbeats 2000000 in
theorem back1(l bx n:Nat)(J:Nat→World→Prop)(w:World)(hn:n≤1000000)
  (hbox: ∀k W,J k W→(k<n∨k=0)→ ∃a c,W.cell? ⟨bx,0,none⟩=some (.slice a n c))
  (hY: ∀k W,J k W→k<n→ ∃B o c v,W.cell? ⟨bx,0,none⟩=some (.slice (some ⟨B,o,none⟩) n c)∧W.cell? ⟨B,o+(n-1-k),none⟩=some v∧
   YieldAt Fence.wide 0 Tryz.prog l #[.int .i64 ((n-1-k:Nat):Int),v] W fun e W'=>e= .returned (.bool true)∧J (k+1) W') (h0:J 0 w):
  CallsIn Fence.wide 0 Tryz.prog 313 #[.func (.yield l) #[] #[], .pointer (some ⟨bx,0,none⟩)] w fun e W'=>(∃v,e= .returned v)∧J n W':=by
 refine callsIn_of_wp Tryz.func313 rfl trivial ?_ rfl
 simp only[Tryz.ntmps313,List.size_toArray,List.length_cons,List.length_nil,Nat.reduceAdd,Nat.reduceSub,Array.replicate_succ,Array.replicate_zero,List.push_toArray,List.append_toArray,List.nil_append,List.cons_append];obtain⟨a,c,hb⟩:=hbox 0 w h0 (.inr rfl)
 gi_wp2
 gi_loopw [3] (fun i wr=> ∃k:Nat,k≤n∧i= .int .i64 ((n:Int)-1-k)∧J k wr) (fun i _=>((intOf i)+1).toNat)
 case atStart=>exact⟨0,Nat.zero_le _,by simp,h0⟩
 case round=>
  obtain⟨k,hk,rfl,hJ⟩:=hrel
  by_cases hlt:k<n
  ·obtain⟨B,o,c,v,hbox',hv,fn,tmps,assign,body,hy,hR⟩:=hY k wr hJ hlt
   obtain⟨i,hi⟩: ∃i,n=k+1+i:=⟨n-1-k,by omega⟩
   have e1:n-1-k=i:=by omega
   have e2:(n:Int)-1-k=i:=by omega
   rw[e1]at hv hy;rw[e2]
   have hin:(i:Int)<n:=by omega
   have hi2:i<n:=by omega
   have hq:(i:Int)-1=(n:Int)-1-((k+1:Nat):Int):=by omega
   clear hi e1 e2
   gi_wp2
   refine⟨rfl,hR.mono ?_⟩;rintro e W3 ⟨rfl,hJ3⟩
   gi_wp2
   go_roundw
   case rel=>exact⟨k+1,by omega,by simp,hJ3⟩
   case measure=>simp [intOf];omega
  ·obtain rfl:k=n:=by omega
   have e2:(k:Int)-1-k= -1:=by omega
   rw[e2]
   gi_wp2
   go_end0
   exact⟨⟨_,rfl⟩,hJ⟩
theorem backOK:BackOK Tryz.prog 313:=⟨enters_of Tryz.func313 (by kernel_rfl) rfl,back1⟩
end Go.Proofs.YtcocmlmligjjcaaGreatDoor.AM
