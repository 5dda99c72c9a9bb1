-- SQUEEZED
/- Plain words: bytes as lists, and what comes to an answer with enough rounds. -/
import Derived.Test.YtcocmlmligjjcaaGreatDoorWWords
import Derived.Lib.Strings
set_option linter.unusedVariables false
set_option linter.unusedSimpArgs false
namespace Go.Proofs.PL
open Go.RowKit Go.Proofs.YtcocmlmligjjcaaGreatDoorW.PrintWords
def mk(l:List UInt8):ByteArray:=⟨l.toArray⟩
theorem ex_mk(s:ByteArray): ∃l,s=mk l:=⟨s.data.toList,by cases s;simp[mk]⟩
@[simp] theorem data_mk (l : List UInt8) : (mk l).data.toList = l := by simp [mk]
theorem mk_inj{l l':List UInt8}:mk l=mk l'↔l=l':=by
 constructor
 ·intro h;have:=congrArg (fun s:ByteArray=>s.data.toList) h;simpa using this
 ·rintro rfl;rfl
@[simp] theorem size_mk (l : List UInt8) : (mk l).size = l.length := by simp [mk, ByteArray.size]
@[simp] theorem toList_mk (l : List UInt8) : (mk l).toList = l := by rw [ByteArray.toList_eq]; simp
theorem toList_inj{s t:ByteArray}:s.toList=t.toList↔s=t:=by
 obtain⟨l,rfl⟩:=ex_mk s;obtain⟨l',rfl⟩:=ex_mk t;simp[mk_inj]
theorem append_mk(l l':List UInt8):mk l++mk l'=mk (l++l'):=by
 have:(mk l++mk l').data=(mk l).data++(mk l').data:=ByteArray.data_append
 cases h:mk l++mk l' with|mk d=>
 rw[h]at this;have h2:d=(mk l).data++(mk l').data:=this;subst h2;simp[mk]
theorem extract_mk(l:List UInt8)(a b:Nat):(mk l).extract a b=mk ((l.take b).drop a):=by
 cases h:(mk l).extract a b with|mk d=>
 have h1:d=(mk l).data.extract a b:=by
  have:((mk l).extract a b).data=(mk l).data.extract a b:=ByteArray.data_extract;rw[h]at this;exact this
 subst h1;simp only[mk]
 congr 1
 apply Array.toList_inj.1;simp[List.extract_eq_take_drop,List.drop_take]
theorem extract_to_end(l:List UInt8)(a:Nat):(mk l).extract a (mk l).size=mk (l.drop a):=by
 rw[extract_mk,size_mk,List.take_length]
def ch(l:List UInt8)(i:Nat):Nat:=(l.getD i 0).toNat
theorem bt_mk(l:List UInt8)(n:Nat)(i:Int)(hi:i=n)(h:n<l.length):bt (mk l) i=(ch l n:Int):=by
 subst hi;unfold bt ch
 have h':(n:Int).toNat<(mk l).size:=by simpa using h
 rw[dif_pos h']
 have:(mk l)[(n:Int).toNat]'h'=l[n]:=by
  show(mk l).data[(n:Int).toNat]'_=l[n];simp[mk];rfl
 rw[this];simp[List.getD_eq_getElem?_getD,List.getElem?_eq_getElem h];rfl
theorem wrap_in(n:Int)(h0: -9223372036854775808≤n)(h1:n≤9223372036854775807):wrap64 n=n:=by unfold wrap64;omega
theorem Ev.pure{α:Type}{o:Option α}{r:α}(h:o=some r):Ev (fun _=>o) r:=⟨0,fun _ _=>h⟩
theorem Ev.ite{α:Type}{c:Prop} [Decidable c]{f g:Nat→Option α}{r:α}(h1:c→Ev f r)(h2: ¬c→Ev g r):Ev (fun k=>if c then f k else g k) r:=by
 by_cases h:c
 ·simpa [h]using h1 h
 ·simpa [h]using h2 h
theorem Ev.pos{α:Type}{c:Prop} [Decidable c]{f g:Nat→Option α}{r:α}(h:c)(k:Ev f r):Ev (fun k=>if c then f k else g k) r:=Ev.ite (fun _=>k) (fun h'=>absurd h h')
theorem Ev.neg{α:Type}{c:Prop} [Decidable c]{f g:Nat→Option α}{r:α}(h: ¬c)(k:Ev g r):Ev (fun k=>if c then f k else g k) r:=Ev.ite (fun h'=>absurd h' h) (fun _=>k)
theorem Ev.then{α β:Type}{o:Option α}{f:Nat→α→Option β}{a:α}{r:β}(h:o=some a)(k:Ev (fun n=>f n a) r):Ev (fun n=>o.bind (f n)) r:=by
 subst h;exact k
end Go.Proofs.PL
