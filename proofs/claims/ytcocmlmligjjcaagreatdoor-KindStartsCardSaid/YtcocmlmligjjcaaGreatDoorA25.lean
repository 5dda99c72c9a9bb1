-- SQUEEZED
/- The abstract machine: what is read of memory as data, as trees; the program's listed variables. -/
import Derived.Test.YtcocmlmligjjcaaGreatDoorA20
import Derived.ChangeArms
import Derived.OpenShut
import Derived.LaidSub
namespace Go.Proofs.YtcocmlmligjjcaaGreatDoor.AM
set_option linter.unusedVariables false
set_option linter.unusedSimpArgs false
set_option linter.unusedSectionVars false
section
variable {H:Type}
def treeF(P:Program)(g:TypeId→DataW H→Option (List AV)):List Field→List (DataW H)→Nat→Option (List AV)
 | [],[],_=>some []
 |f::fs,d::ds,off=>if f.offset=off then(g f.type d).bind fun l=>if l.length=P.cellsOf f.type then(treeF P g fs ds (off+l.length)).map (l++ ·)else none else none
 |_,_,_=>none
def treeL(g:DataW H→Option (List AV))(sz:Nat):List (DataW H)→Option (List AV)
 | []=>some []
 |d::ds=>(g d).bind fun l=>if l.length=sz then(treeL g sz ds).map (l++ ·)else none
def tree(P:Program):Nat→TypeId→DataW H→Option (List AV)
 |0,_,_=>none
 |n+1,t,d=>match P.underlying t,d with
  |some .bool, .lit (.bool b)=>some [.bool b]
  |some (.int k), .lit (.int k' m)=>if k=k' then some [.int k m]else none
  |some .string, .lit (.string bs)=>some [.str ⟨bs.toArray⟩]
  |some (.struct fs), .agg ds=>(treeF P (tree P n) fs.toList ds 0).bind fun l=>if l.length=P.cellsOf t then some l else none
  |some (.array k e), .agg ds=>if ds.length=k then(treeL (tree P n e) (P.cellsOf e) ds).bind fun l=>if l.length=P.cellsOf t then some l else none else none
  |_,_=>none
variable {P:Program} {enc:TypeId×Value→H} {w:World} {base:Nat} {sp:Nat→Bool} {held:Bool} {F:Area} {ρ:Rho}
theorem treeF_ok{m:Nat}{g:TypeId→DataW H→Option (List AV)}{cs:List Value}
  (hg: ∀t d l cs p,g t d=some l→DataW.trod enc P w base sp held m t cs=some (d,p)→CRs F ρ w cs l):
  ∀(fs:List Field) (xs:List (DataW H×List MemPlace)) (off:Nat) (l:List AV),treeF P g fs (xs.map (·.1)) off=some l→
   (∀(i:Nat) (f:Field),fs[i]?=some f→DataW.trod enc P w base sp held m f.type ((cs.drop f.offset).take (P.cellsOf f.type))=xs[i]?)→fs.length=xs.length→CRs F ρ w ((cs.drop off).take l.length) l:=by
 intro fs
 induction fs with
 |nil=>
  intro xs off l h hx hl
  cases xs with
  |nil=>simp only[List.map_nil,treeF,Option.some.injEq]at h;subst h;simpa using CRs.nil
  |cons x xs=>simp at hl
 |cons f fs ih=>
  intro xs off l h hx hl
  cases xs with
  |nil=>simp at hl
  |cons x xs=>
   simp only[List.map_cons,treeF]at h;split at h
   ·rename_i hoff
    simp only[Option.bind_eq_some_iff]at h;obtain⟨l1,h1,h⟩:=h;split at h
    ·rename_i hlen
     simp only[Option.map_eq_some_iff]at h;obtain⟨l2,h2,rfl⟩:=h
     have hx0:=hx 0 f rfl
     simp only[List.getElem?_cons_zero]at hx0
     have c1:=hg f.type x.1 l1 _ x.2 h1 hx0
     rw[←hlen,hoff]at c1;have c2:=ih xs (off+l1.length) l2 h2 (fun i f' hf'=>by have:=hx (i+1) f' (by simpa using hf');simpa using this) (by simpa using hl);rw[List.length_append,List.take_add,List.drop_drop];exact c1.append c2
    ·cases h
   ·cases h
theorem treeL_ok{g:DataW H→Option (List AV)}{sz:Nat}{cs:List Value}{tr:List Value→Option (DataW H×List MemPlace)}
  (hg: ∀d l cs p,g d=some l→tr cs=some (d,p)→CRs F ρ w cs l):
  ∀(xs:List (DataW H×List MemPlace)) (k:Nat) (l:List AV),treeL g sz (xs.map (·.1))=some l→
   (∀(i:Nat),i<xs.length→tr ((cs.drop ((k+i)*sz)).take sz)=xs[i]?)→CRs F ρ w ((cs.drop (k*sz)).take l.length) l:=by
 intro xs
 induction xs with
 |nil=>
  intro k l h hx;simp only[List.map_nil,treeL,Option.some.injEq]at h;subst h;simpa using CRs.nil
 |cons x xs ih=>
  intro k l h hx;simp only[List.map_cons,treeL,Option.bind_eq_some_iff]at h;obtain⟨l1,h1,h⟩:=h;split at h
  ·rename_i hlen
   simp only[Option.map_eq_some_iff]at h;obtain⟨l2,h2,rfl⟩:=h
   have hx0:=hx 0 (by simp)
   simp only[List.getElem?_cons_zero,Nat.add_zero]at hx0
   have c1:=hg x.1 l1 _ x.2 h1 hx0
   rw[←hlen]at c1;have c2:=ih (k+1) l2 h2 (fun i hi=>by have:=hx (i+1) (by simpa using hi);simpa [Nat.add_assoc,Nat.add_comm 1]using this);rw[List.length_append,List.take_add,List.drop_drop];rw[show(k+1)*sz=k*l1.length+l1.length by rw[hlen,Nat.add_mul,Nat.one_mul],]at c2;rw[←hlen];exact c1.append c2
  ·cases h
theorem tree_ok: ∀(n:Nat) (t:TypeId) (d:DataW H) (l:List AV) (m:Nat) (cs:List Value) (p:List MemPlace),tree P n t d=some l→DataW.trod enc P w base sp held m t cs=some (d,p)→CRs F ρ w cs l:=by
 intro n
 induction n with
 |zero=>intro t d l m cs p h;simp[tree]at h
 |succ n ih=>
  intro t d l m cs p h ht;simp only[tree]at h;split at h
  ·rename_i hu
   obtain⟨b,rfl,he⟩:=DataW.trod_bool hu ht;cases he;cases h;exact .cons (.bool _) .nil
  ·rename_i hu
   obtain⟨q,rfl,he,_⟩:=DataW.trod_int hu ht;cases he;rw[if_pos rfl]at h;cases h;exact .cons (.int _ _) .nil
  ·rename_i hu
   obtain⟨s,rfl,he,_⟩:=DataW.trod_string hu ht;cases he;cases h
   have:(⟨s.data.toList.toArray⟩:ByteArray)=s:=by cases s;simp
   rw[this];exact .cons (.str _) .nil
  ·rename_i fs ds hu
   obtain⟨xs,k,rfl,he,hlen,hxl,hx⟩:=DataW.trod_struct hu ht;cases he;simp only[Option.bind_eq_some_iff]at h;obtain⟨l',h1,h⟩:=h;split at h
   ·rename_i hl
    cases h;have:=treeF_ok (cs:=cs) (fun t d l cs p hg ht=>ih t d l k cs p hg ht) fs.toList xs 0 _ h1 (fun i f hf=>hx i f (by simpa using hf)) (by simpa using hxl.symm);rw[hl,←hlen]at this
    simpa using this
   ·cases h
  ·rename_i k e ds hu
   split at h
   ·rename_i hk
    obtain⟨xs,m',rfl,he,hlen,hxl,hx⟩:=DataW.trod_array hu ht;cases he;simp only[Option.bind_eq_some_iff]at h;obtain⟨l',h1,h⟩:=h;split at h
    ·rename_i hl
     cases h;have:=treeL_ok (cs:=cs) (tr:=DataW.trod enc P w base sp held m' e) (fun d l cs p hg ht=>ih e d l m' cs p hg ht) xs 0 _ h1 (fun i hi=>by rw[Nat.zero_add];exact hx i (by omega));rw[hl,←hlen]at this
     simpa using this
    ·cases h
   ·cases h
  ·cases h
end
theorem laidVars_get{P:Program}{w:World}: ∀{laid:List (String×DataW Unit)} {ps:List MemPlace},DataW.LaidVars P w laid ps→ ∀{n:String} {d:DataW Unit},(n,d)∈laid→
  ∃g t cs fuel p,P.globalNamed n=some g∧(P.globals[g]?).map (·.type)=some t∧w.var? P n=some cs∧DataW.trod (fun _=>()) P w 0 (fun _=>true) false fuel t cs.toList=some (d,p):=by
 intro laid
 induction laid with
 |nil=>intro ps _ n d hm;cases hm
 |cons x r ih=>
  intro ps h n d hm;obtain⟨n',d'⟩:=x;obtain⟨g,t,cs,fuel,p,q,h1,h2,h3,h4,h5,_⟩:=h
  rcases List.mem_cons.1 hm with he|he
  ·cases he;exact⟨g,t,cs,fuel,p,h1,h2,h3,h4⟩
  ·exact ih h5 he
theorem glob_of{P:Program}{w:World}{laid:List (String×DataW Unit)}(h:laidMet P laid w){name:String}{d:DataW Unit}(hm:(name,d)∈laid){g t:Nat}(hg:P.globalNamed name=some g)(ht:(P.globals[g]?).map (·.type)=some t)
  {n:Nat} {l:List AV} (hl:tree P n t d=some l) {ρ:Rho}:CR F0 rho0 w (.pointer (some ⟨g,0,none⟩)) (.fp l 0):=by
 obtain⟨ps,hv,_⟩:=h;obtain⟨g',t',cs,fuel,p,h1,h2,h3,h4⟩:=laidVars_get hv hm
 obtain rfl:g=g':=by rw[hg]at h1;exact Option.some.inj h1
 obtain rfl:t=t':=by rw[ht]at h2;exact Option.some.inj h2
 unfold World.var? at h3;rw[hg]at h3;simp only[Option.bind_some]at h3;split at h3
 ·rename_i cs' e fz hb
  cases h3;have hc:CRs F0 rho0 w cs.toList l:=tree_ok n t d l fuel _ p hl h4
  refine .fp hb (fun j hj=>by rintro(⟨b,k,x,h1,_⟩|h1); · cases h1
                              ·exact h1) (fun j=>cs.getD j Go.undef) (fun j y hy=>?_) (fun j y hy=>?_) rfl
  ·obtain⟨v,hv,_⟩:=hc.get hy
   rw[Array.getElem?_toList]at hv;simp[Array.getD_eq_getD_getElem?,hv]
  ·obtain⟨v,hv,hcv⟩:=hc.get hy
   rw[Array.getElem?_toList]at hv
   simpa [Array.getD_eq_getD_getElem?,hv]using hcv
 ·cases h3
theorem globH_of{P:Program}{w:World}{laid:List (String×DataW Unit)}(h:laidMetH P laid w)(hp:(laid.all fun x=>!x.2.handleName?.isSome)=true){name:String}{d:DataW Unit}(hm:(name,d)∈laid){g t:Nat}(hg:P.globalNamed name=some g)(ht:(P.globals[g]?).map (·.type)=some t)
  {n:Nat} {l:List AV} (hl:tree P n t d=some l):CR F0 rho0 w (.pointer (some ⟨g,0,none⟩)) (.fp l 0):=by
 refine glob_of (ρ:=rho0) (laid:=laid) ?_ hm hg ht hl
 unfold laidMetH at h
 have:laid.filter (fun x=>x.2.handleName?.isSome)= []:=by
  rw[List.filter_eq_nil_iff];intro x hx hh;have:=List.all_eq_true.1 hp x hx;simp[hh]at this
 rw[this]at h;exact h
end Go.Proofs.YtcocmlmligjjcaaGreatDoor.AM
namespace Go.Proofs.YtcocmlmligjjcaaGreatDoor.AM
set_option linter.unusedVariables false
set_option linter.unusedSimpArgs false
set_option linter.unusedSectionVars false
mutual
def noRef:AV→Bool
 | .ptr .. | .eptr .. | .sl .. | .vsl .. | .map _| .fsl .. =>false
 | .fp l _=>noRefs l
 | .lst _ l tl=>noRefs l&&(match tl with| .own _=>false|_=>true)
 | .clo _ l m=>noRefs l&&noRefs m
 | .agg l=>noRefs l
 | .tup l=>noRefs l
 |_=>true
def noRefs:List AV→Bool
 | []=>true
 |x::xs=>noRef x&&noRefs xs
end
mutual
def baseV:AV→Bool
 | .bool _| .int .. | .str _| .nilp| .nils| .nilm| .nilf| .nili=>true
 | .agg l=>baseVs l
 | .tup l=>baseVs l
 |_=>false
def baseVs:List AV→Bool
 | []=>true
 |x::xs=>baseV x&&baseVs xs
end
theorem noRefs_get: ∀{l:List AV},noRefs l=true→ ∀{j:Nat} {y:AV},l[j]?=some y→noRef y=true
 | [],_,j,y,h=>by simp at h
 |x::xs,hn,j,y,h=>by
  simp only[noRefs,Bool.and_eq_true]at hn
  cases j with
  |zero=>simp at h;subst h;exact hn.1
  |succ j=>exact noRefs_get hn.2 (by simpa using h)
theorem baseVs_get: ∀{l:List AV},baseVs l=true→ ∀{j:Nat} {y:AV},l[j]?=some y→baseV y=true
 | [],_,j,y,h=>by simp at h
 |x::xs,hn,j,y,h=>by
  simp only[baseVs,Bool.and_eq_true]at hn
  cases j with
  |zero=>simp at h;subst h;exact hn.1
  |succ j=>exact baseVs_get hn.2 (by simpa using h)
theorem noRef_cell{x y:AV}{j:Nat}(h:noRef x=true)(hy:x.cells[j]?=some y):noRef y=true:=by
 cases x with
 |agg l=>exact noRefs_get (l:=l) (by simpa only [noRef]using h) hy
 |_=>
  cases j with
  |zero=>simp [AV.cells]at hy;subst hy;exact h
  |succ j=>simp [AV.cells]at hy
theorem CR.free{F:Area}{ρ:Rho}{w:World}{v:Value}{y:AV}(h:CR F ρ w v y)(ρ':Rho):noRef y=true→CR F ρ' w v y:=by
 induction h with
 |bool b=>intro _;exact .bool b
 |int k n=>intro _;exact .int k n
 |str s=>intro _;exact .str s
 |nilp=>intro _;exact .nilp
 |ptr h=>intro hn;simp[noRef]at hn
 |eptr h ho=>intro hn;simp[noRef]at hn
 |fp hb hF vs h1 h2 ho ih=>
  intro hn;simp only[noRef]at hn;exact .fp hb hF vs h1 (fun j y hy=>ih j y hy (noRefs_get hn hy)) ho
 |nils=>intro _;exact .nils
 |lst0 ht=>intro _;exact .lst0 ht
 |sl h hb hr hl hc ho=>intro hn;simp[noRef]at hn
 |vsl h hl hc ho=>intro hn;simp[noRef]at hn
 |lst hb hn' hsz hF vs h1 h2 hl hr hc ht ih=>
  intro hn;simp only[noRef,Bool.and_eq_true]at hn;refine .lst hb hn' hsz hF vs h1 (fun i x j y hx hy=>ih i x j y hx hy (noRef_cell (noRefs_get hn.1 hx) hy)) hl hr hc (fun t ht' _=>?_);subst ht';simp at hn
 |nilm=>intro _;exact .nilm
 |map h=>intro hn;simp[noRef]at hn
 |nilf=>intro _;exact .nilf
 |clo hf hc vs us h1 h2 h3 h4 ih1 ih2=>
  intro hn;simp only[noRef,Bool.and_eq_true]at hn;exact .clo hf hc vs us h1 (fun j y hy=>ih1 j y hy (noRefs_get hn.1 hy)) h3 (fun j y hy=>ih2 j y hy (noRefs_get hn.2 hy))
 |nili=>intro _;exact .nili
 |agg hn' vs h1 h2 ih=>intro hn;simp only[noRef]at hn;exact .agg hn' vs h1 (fun j y hy=>ih j y hy (noRefs_get hn hy))
 |tup hn' vs h1 h2 ih=>intro hn;simp only[noRef]at hn;exact .tup hn' vs h1 (fun j y hy=>ih j y hy (noRefs_get hn hy))
theorem CR.base{F:Area}{ρ:Rho}{w:World}{v:Value}{y:AV}(h:CR F ρ w v y)(F':Area)(ρ':Rho)(w':World):baseV y=true→CR F' ρ' w' v y:=by
 induction h with
 |bool b=>intro _;exact .bool b
 |int k n=>intro _;exact .int k n
 |str s=>intro _;exact .str s
 |nilp=>intro _;exact .nilp
 |nils=>intro _;exact .nils
 |nilm=>intro _;exact .nilm
 |nilf=>intro _;exact .nilf
 |nili=>intro _;exact .nili
 |agg hn' vs h1 h2 ih=>intro hn;simp only[baseV]at hn;exact .agg hn' vs h1 (fun j y hy=>ih j y hy (baseVs_get hn hy))
 |tup hn' vs h1 h2 ih=>intro hn;simp only[baseV]at hn;exact .tup hn' vs h1 (fun j y hy=>ih j y hy (baseVs_get hn hy))
 |_=>intro hn;simp[baseV]at hn
theorem CRs.free{F:Area}{ρ:Rho}{w:World}{vs:List Value}{l:List AV}(h:CRs F ρ w vs l)(ρ':Rho)(hn:noRefs l=true):CRs F ρ' w vs l:=
 ⟨h.1,fun j v y hv hy=>(h.2 j v y hv hy).free ρ' (noRefs_get hn hy)⟩
end Go.Proofs.YtcocmlmligjjcaaGreatDoor.AM
namespace Go.Proofs.YtcocmlmligjjcaaGreatDoor.AM
set_option linter.unusedVariables false
set_option linter.unusedSimpArgs false
set_option linter.unusedSectionVars false
mutual
def forget:AV→AV
 | .fp l o=> .fp (forgets l) o
 | .lst sz l tl=> .lst sz (forgets l) (match tl with| .own _=> .open_|t=>t)
 | .clo f l m=> .clo f (forgets l) (forgets m)
 | .agg l=> .agg (forgets l)
 | .tup l=> .tup (forgets l)
 |v=>v
def forgets:List AV→List AV
 | []=> []
 |x::xs=>forget x::forgets xs
end
theorem forgets_map: ∀l:List AV,forgets l=l.map forget
 | []=>rfl
 |x::xs=>by rw[forgets,forgets_map xs];rfl
theorem forgets_get{l:List AV}{j:Nat}{y:AV}(h:(forgets l)[j]?=some y): ∃z,l[j]?=some z∧y=forget z:=by
 rw[forgets_map,List.getElem?_map]at h
 cases hz:l[j]? with
 |none=>rw [hz]at h;cases h
 |some z=>rw [hz]at h;exact⟨z,rfl,(Option.some.inj h).symm⟩
theorem forgets_length(l:List AV):(forgets l).length=l.length:=by rw[forgets_map];simp
theorem forget_cells(x:AV):(forget x).cells=forgets x.cells:=by
 cases x<;>simp [forget,AV.cells,forgets]
theorem CR.forget{F:Area}{ρ:Rho}{w:World}{v:Value}{y:AV}(h:CR F ρ w v y):CR F ρ w v (forget y):=by
 induction h with
 |bool b=>exact .bool b
 |int k n=>exact .int k n
 |str s=>exact .str s
 |nilp=>exact .nilp
 |ptr h=>exact .ptr h
 |eptr h ho=>exact .eptr h ho
 |fp hb hF vs h1 h2 ho ih=>
  simp only[AM.forget];refine .fp hb (by rw[forgets_length];exact hF) vs (fun j y hy=>?_) (fun j y hy=>?_) ho
  ·obtain⟨z,hz,rfl⟩:=forgets_get hy;exact h1 j z hz
  ·obtain⟨z,hz,rfl⟩:=forgets_get hy;exact ih j z hz
 |nils=>exact .nils
 | @lst0 base sz tl ht=>simp only[AM.forget,AM.forgets];exact .lst0 (fun t=>by cases tl with
   |own t=>exact absurd rfl (ht t)
   |clip=>nofun
   |open_=>nofun)
 |sl h hb hr hl hc ho=>exact .sl h hb hr hl hc ho
 |vsl h hl hc ho=>exact .vsl h hl hc ho
 | @lst B o n c sz cs e fz l tl hb hn hsz hF vs h1 h2 hl hr hc ht ih=>
   simp only[AM.forget];refine .lst hb (by rw[forgets_length];exact hn) (fun x hx=>?_) (by rw[forgets_length];exact hF) vs (fun i x j y hx hy=>?_) (fun i x j y hx hy=>?_) (by rw[forgets_length];exact hl) hr (fun hcl=>?_) (fun t ht' hlt=>?_)
   ·rw[forgets_map]at hx
    obtain⟨z,hz,rfl⟩:=List.mem_map.1 hx;rw[forget_cells,forgets_length];exact hsz z hz
   ·obtain⟨z,hz,rfl⟩:=forgets_get hx
    rw[forget_cells]at hy;obtain⟨u,hu,rfl⟩:=forgets_get hy;exact h1 i z j u hz hu
   ·obtain⟨z,hz,rfl⟩:=forgets_get hx
    rw[forget_cells]at hy;obtain⟨u,hu,rfl⟩:=forgets_get hy;exact ih i z j u hz hu
   ·rw[forgets_length]
    cases tl with
    |clip=>exact hc rfl
    |open_=>cases hcl
    |own t=>cases hcl
   ·cases tl<;>cases ht'
 |nilm=>exact .nilm
 |map h=>exact .map h
 |nilf=>exact .nilf
 |clo hf hc vs us h1 h2 h3 h4 ih1 ih2=>
  simp only[AM.forget];refine .clo (by rw[forgets_length];exact hf) (by rw[forgets_length];exact hc) vs us (fun j y hy=>?_) (fun j y hy=>?_) (fun j y hy=>?_) (fun j y hy=>?_)
  ·obtain⟨z,hz,rfl⟩:=forgets_get hy;exact h1 j z hz
  ·obtain⟨z,hz,rfl⟩:=forgets_get hy;exact ih1 j z hz
  ·obtain⟨z,hz,rfl⟩:=forgets_get hy;exact h3 j z hz
  ·obtain⟨z,hz,rfl⟩:=forgets_get hy;exact ih2 j z hz
 |nili=>exact .nili
 |agg hn vs h1 h2 ih=>
  simp only[AM.forget];refine .agg (by rw[forgets_length];exact hn) vs (fun j y hy=>?_) (fun j y hy=>?_)
  ·obtain⟨z,hz,rfl⟩:=forgets_get hy;exact h1 j z hz
  ·obtain⟨z,hz,rfl⟩:=forgets_get hy;exact ih j z hz
 |tup hn vs h1 h2 ih=>
  simp only[AM.forget];refine .tup (by rw[forgets_length];exact hn) vs (fun j y hy=>?_) (fun j y hy=>?_)
  ·obtain⟨z,hz,rfl⟩:=forgets_get hy;exact h1 j z hz
  ·obtain⟨z,hz,rfl⟩:=forgets_get hy;exact ih j z hz
end Go.Proofs.YtcocmlmligjjcaaGreatDoor.AM
