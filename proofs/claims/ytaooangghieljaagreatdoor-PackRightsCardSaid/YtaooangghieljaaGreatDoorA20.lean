-- SQUEEZED
/- The abstract machine: a range over a function that hands out a slice from its end. -/
import Derived.Test.YtaooangghieljaaGreatDoorA22
import Derived.RangeFuncWrites
import Derived.RangeFuncLeaves
import Derived.Below
namespace Go.Proofs.YtaooangghieljaaGreatDoor.AM
set_option linter.unusedSectionVars false
set_option linter.unusedVariables false
set_option linter.unusedSimpArgs false
def BackOK(P:Program)(gf:FuncId):Prop:=
 (∀args w,(callFunc gf args).run P w= .ok (.enter gf args) w)∧
 ∀(l bx n:Nat) (J:Nat→World→Prop) (w:World),n≤1000000→
  (∀k W,J k W→(k<n∨k=0)→ ∃a c,W.cell? ⟨bx,0,none⟩=some (.slice a n c))→
  (∀k W,J k W→k<n→ ∃B o c v,W.cell? ⟨bx,0,none⟩=some (.slice (some ⟨B,o,none⟩) n c)∧W.cell? ⟨B,o+(n-1-k),none⟩=some v∧
   YieldAt Fence.wide 0 P l #[.int .i64 ((n-1-k:Nat):Int),v] W fun e W'=>e= .returned (.bool true)∧J (k+1) W')→
  J 0 w→CallsIn Fence.wide 0 P gf #[.func (.yield l) #[] #[], .pointer (some ⟨bx,0,none⟩)] w fun e W'=>(∃v,e= .returned v)∧J n W'
def BOK(E:Env):Prop:= ∀gf,E.B gf=true→BackOK E.P gf
theorem rounds_spec{ga gb:Fr→H→R (X×Fr×H)}{τ:Fr}{ps:List Nat}{b:Nat}{s:AV}: ∀{l:List (Nat×AV)} {h h':H},rounds ga gb τ ps b s l h= .ok h'→
  ∃hk:Nat→H,hk 0=h∧hk l.length=h'∧ ∀(k:Nat) (i:Nat) (x:AV),l[k]?=some (i,x)→(hk k)[b]?=some (.var [s])∧ ∃τ1 h1 τ2,ga (setPs τ ps [.int .i64 i,x]) (hk k)= .ok (.normal,τ1,h1)∧gb τ1 h1= .ok (.normal,τ2,hk (k+1))
 | [],h,h',hr=>by cases hr;exact⟨fun _=>h,rfl,rfl,fun k i x hx=>by simp at hx⟩
 |(i,x)::rest,h,h',hr=>by
  simp only[rounds]at hr;split at hr
  ·rename_i hb
   split at hr
   ·rename_i τ1 h1 hga
    split at hr
    ·rename_i τ2 h2 hgb
     obtain⟨hk,k1,k2,k3⟩:=rounds_spec hr
     refine⟨fun k=>match k with|0=>h|k+1=>hk k,rfl,k2,fun k i' x' hx=>?_⟩
     cases k with
     |zero=>
      simp at hx;obtain⟨rfl,rfl⟩:=hx;exact⟨sameBlk_eq hb,τ1,h1,τ2,hga,by simp only[k1];exact hgb⟩
     |succ k=>
      obtain⟨g1,g2⟩:=k3 k i' x' (by simpa using hx);exact⟨g1,g2⟩
    ·cases hr
    ·cases hr
   ·cases hr
   ·cases hr
  ·cases hr
theorem backL_length(l:List AV):(backL l).length=l.length:=by simp[backL]
theorem backL_get{l:List AV}{k:Nat}(hk:k<l.length): ∃x,l[l.length-1-k]?=some x∧(backL l)[k]?=some (l.length-1-k,x):=by
 have hi:l.length-1-k<l.length:=by omega
 refine⟨l[l.length-1-k],List.getElem?_eq_getElem hi,?_⟩;unfold backL
 have hz:((List.range l.length).zip l).length=l.length:=by simp
 rw[List.getElem?_reverse (by rw[hz];exact hk),hz];rw[List.getElem?_zip_eq_some];exact⟨by simp[hi],List.getElem?_eq_getElem hi⟩
def isRec(o:Obj):Prop:=(∀cs e fz,o≠ .cells cs e fz)∧ ∀es c,o≠ .map es c
theorem Ext.putObj{O O':Area}{ρ ρ':Rho}{w w1:World}(hx:Ext O ρ w O' ρ' w1){D:Nat}{o':Obj}(hD:w.heap.size≤D):Ext O ρ w O' ρ' (w1.putObj D o'):=
 have hs:(w1.putObj D o').heap.size=w1.heap.size:=by simp[World.putObj]
 have hk: ∀B,B<w.heap.size→(w1.putObj D o').heap[B]?=w1.heap[B]?:=fun B hB=>by
  simp only[World.putObj];rw[Array.getElem?_setIfInBounds_ne (by omega)]
 ⟨hx.sub,hx.new,hx.newρ,hx.st,by rw[hs];exact hx.size,fun B cs e fz hb=>by
  obtain⟨cs',fz',k1,k2,k3⟩:=hx.keep B cs e fz hb
  exact⟨cs',fz',by rw[hk B (lt_of_get hb)];exact k1,k2,k3⟩,fun B hB ho=>by rw[hk B hB];exact hx.keepo B hB ho⟩
theorem keeps_putObj{F:Area}{w:World}{D:Nat}{o o':Obj}(hD:w.heap[D]?=some o)(ho:isRec o):Keeps F w F (w.putObj D o'):=by
 intro B cs e fz hb
 have hne:D≠B:=fun h=>by rw[h,hb]at hD;cases hD;exact ho.1 _ _ _ rfl
 refine⟨cs,fz,?_,rfl,fun off _ hF=>⟨rfl,hF⟩⟩;simp only[World.putObj];rw[Array.getElem?_setIfInBounds_ne hne];exact hb
theorem HR.putObj{G:Nat→Option (List AV)}{A:Area}{ρ:Rho}{w:World}{g:View}(hr:HR G A ρ w g){D:Nat}{o o':Obj}(hD:w.heap[D]?=some o)(ho:isRec o):HR G A ρ (w.putObj D o') g:=by
 have hk:=keeps_putObj (F:=Forb A ρ g) (o':=o') hD ho
 have hs:(w.putObj D o').heap.size=w.heap.size:=by simp[World.putObj]
 have hne: ∀B x,w.heap[B]?=some x→ ¬isRec x→(w.putObj D o').heap[B]?=w.heap[B]?:=fun B x hb hx=>by
  have:D≠B:=fun h=>by rw[h,hb]at hD;cases hD;exact hx ho
  simp only[World.putObj];rw[Array.getElem?_setIfInBounds_ne this]
 refine⟨hr.dom,fun b x hb hx=>?_,hr.hole,hr.sep,fun B off ha=>by rw[hs];exact hr.avo B off ha,fun i cs hi=>(hr.glob i cs hi).mono (fun _ _ h=>h) hk⟩;obtain⟨B,k,h1,h2,h3⟩:=hr.blk b x hb hx;refine⟨B,k,h1,by rw[hs];exact h2,?_⟩
 cases x with
 |var l=>obtain⟨_,cs,e,fz,h4,_⟩:=id h3;exact h3.mono (fun _ _ h=>h) hk (hne B _ h4 (fun h=>h.1 _ _ _ rfl))
 |arr sz l=>obtain⟨_,cs,e,fz,h4,_⟩:=id h3;exact h3.mono (fun _ _ h=>h) hk (hne B _ h4 (fun h=>h.1 _ _ _ rfl))
 |map es=>obtain⟨_,ents,clock,h4,_⟩:=id h3;exact h3.mono (fun _ _ h=>h) hk (hne B _ h4 (fun h=>h.2 _ _ rfl))
 |tail=>obtain⟨cs,e,fz,h4,_⟩:=id h3;exact h3.mono (fun _ _ h=>h) hk (hne B _ h4 (fun h=>h.1 _ _ _ rfl))
 |dead=>trivial
 |hole=>trivial
end Go.Proofs.YtaooangghieljaaGreatDoor.AM
namespace Go.Proofs.YtaooangghieljaaGreatDoor.AM
set_option linter.unusedSectionVars false
set_option linter.unusedVariables false
set_option linter.unusedSimpArgs false
section
variable {E:Env} {s0 nn:Nat} {rd:Option Nat} {f:FuncId} {call:CallF} {N:Nat} {ops:Array Oper} {base:Nat} {T:Nat→Fr} {Hh:Nat→H} {ms:List Nat}
theorem closed_set{listed:Array Bool}(hc:Closed ops (Done listed)){j:Nat}(hj:j<listed.size)(hr: ∀e∈(opAt ops j).after,Region.binds .any e=true→Done listed e.on):Closed ops (Done (listed.setIfInBounds j true)):=by
 intro k hk hd e he hb
 rw[done_set hj]at hd ⊢
 rcases hd with rfl|hd
 ·exact .inr (hr e he hb)
 ·exact .inr (hc k hk hd e he hb)
theorem slots_step(hR:Run E f call N ops base T Hh)(hD:DrawOk E ops ms){listed:Array Bool}(hsz:listed.size=ops.size)(hcl:Closed ops (Done listed)){j:Nat}(hj:j<ops.size)(hnd: ¬Done listed j){F:Area}{ρ:Rho}{w:World}{a:Act}{v:Value}{y:AV}
  (hN:a.tmps.size=N) (hold: ∀t q,q≤ops.size→(∀i,i<q→(opAt ops i).dst=some t→Done listed i)→(∀i,q≤i→i<ops.size→(opAt ops i).dst=some t→ ¬Done listed i)→TR F ρ w (a.tmps.getD t Go.undef) (T q t))
  (hv:CR F ρ w v y) (hp:putA N (T j) (opAt ops j).dst y= .ok (T (j+1))):
  ∀t q,q≤ops.size→(∀i,i<q→(opAt ops i).dst=some t→Done (listed.setIfInBounds j true) i)→(∀i,q≤i→i<ops.size→(opAt ops i).dst=some t→ ¬Done (listed.setIfInBounds j true) i)→TR F ρ w ((a.put (opAt ops j).dst v).tmps.getD t Go.undef) (T q t):=by
 intro t q hq h1 h2
 have hjl:j<listed.size:=by omega
 by_cases ht:(opAt ops j).dst=some t
 ·have hjq:j<q:=by
   rcases Nat.lt_or_ge j q with h|h
   ·exact h
   ·exact absurd ((done_set hjl j).2 (.inl rfl)) (h2 j h hj ht)
  have hno: ∀i,j+1≤i→i<q→(opAt ops i).dst≠some t:=by
   intro i hi hiq hd
   have hdone:=(done_set hjl i).1 (h1 i hiq hd)
   rcases hdone with h|h
   ·omega
   ·exact hnd (hD.msk.closed hcl i (by omega) h j (hD.tt j i t (by omega) (by omega) (.inl ⟨ht, .inr hd⟩)))
  have hTq:=hR.slot (t:=t) (show j+1≤q by omega) hq hno
  rw[ht]at hp ⊢
  obtain⟨h3,h4⟩:=putA_self hp;rw[←hTq,h3]
  have hlt:t<a.tmps.size:=by rw[hN];exact h4
  simp only[Act.put,Array.getD_eq_getD_getElem?,Array.getElem?_setIfInBounds_self_of_lt hlt,Option.getD_some];exact .inr hv
 ·have hsame:(a.put (opAt ops j).dst v).tmps.getD t Go.undef=a.tmps.getD t Go.undef:=by
   cases hd:(opAt ops j).dst with
   |none=>rfl
   |some d=>
    have:d≠t:=fun e=>ht (by rw[hd,e])
    simp[Act.put,Array.getD_eq_getD_getElem?,Array.getElem?_setIfInBounds_ne this]
  rw[hsame];refine hold t q hq (fun i hi hd=>?_) (fun i hi hin hd hdone=>?_)
  ·rcases(done_set hjl i).1 (h1 i hi hd)with h|h
   ·rw[h]at hd;exact absurd hd ht
   ·exact h
  ·exact h2 i hi hin hd ((done_set hjl i).2 (.inr hdone))
theorem Masked.lt(hm:Masked ops ms): ∀n j,j<n→j<ops.size→ ∀i,(ms.getD j 0).testBit i=true→i<j:=by
 intro n
 induction n with
 |zero=>intro j h;omega
 |succ n ihn=>
  intro j hj' hjn' i hbt;obtain⟨e,he,hbi,hlt,hc⟩:=hm.bit j hjn' i hbt
  rcases hc with rfl|hc
  ·exact hlt
  ·have:=ihn e.on (by omega) (by omega) i hc;omega
theorem any_wp(hS:Smet E.P E.S)(hC:COK E)(hcall:CallOK E call)(hR:Run E f call N ops base T Hh)(hD:DrawOk E ops ms)
  (hreads: ∀j i,j<ops.size→i<ops.size→kindOf E (opAt ops j).op= .read→isO E (opAt ops i)=true→(ms.getD j 0).testBit i=false→(ms.getD i 0).testBit j=false→i≠j→readA E (T j) (Hh i) (opAt ops j)=readA E (T j) (Hh (i+1)) (opAt ops j))
  (hlater: ∀j i b,j<ops.size→i<ops.size→kindOf E (opAt ops j).op= .read→isAl E (opAt ops i)=true→j≤i→readDep E (T j) (opAt ops j)=some b→b≠idAt E ops base i)
  {A:Area} {ρ0:Rho} {w0:World} {Q:Exit→Act→World→Prop}
  (hQ: ∀ρ w a,Ext (Own ρ0 (view (Hh 0))) ρ0 w0 (Own ρ (view (Hh ops.size))) ρ w→St E A ρ w a (T ops.size) (view (Hh ops.size)) N s0→Q .normal a w):
  ∀(fuel:Nat) (listed:Array Bool) (ρ:Rho) (w:World) (a:Act) (p:Nat),listed.toList.count false=fuel→Inv E f N s0 ops base T Hh A listed ρ0 w0 ρ w a p→wpAnyIn (fw rd) nn E.P .any ops Q fuel listed a w:=by
 have fin: ∀(listed:Array Bool) (ρ:Rho) (w:World) (a:Act) (p:Nat),Inv E f N s0 ops base T Hh A listed ρ0 w0 ρ w a p→Region.ready .any ops listed= []→Q .normal a w:=by
  intro listed ρ w a p hI hr
  have hall:=all_done hI.size hD.msk hr
  have hI2:=hI.advTo hR (Nat.le_refl _) hI.le (fun i h1 h2=>by
   cases ho:isO E (opAt ops i)
   ·exact .inl rfl
   ·cases ha:isAl E (opAt ops i)
    ·have:=(hI.chain i h2 ho ha).1 (hall i h2);omega
    ·exact .inr ⟨rfl,hall i h2⟩)
  have hno: ∀i,¬Early E ops T listed ops.size i:=fun i h=>by have:=h.1;have:=h.2.1;omega
  have hEA: ∀B off,¬EA E ops base (Early E ops T listed ops.size) ρ B off:=fun B off ⟨i,k,h,_⟩=>hno i h
  have hP: ∀X:Area,Plus X (EA E ops base (Early E ops T listed ops.size) ρ)=X:=fun X=>funext fun B=>funext fun off=>propext ⟨fun h=>h.resolve_right (hEA B off), .inl⟩
  refine hQ ρ w a (by have:=hI2.ext;rw[hP]at this;exact this) ⟨by have:=hI2.hr;rw[hP]at this;exact this,fun t=>?_,hI2.sz,by have:=hI2.de;rw[hP]at this;exact this⟩;have:=hI2.slots t ops.size (Nat.le_refl _) (fun i hi _=>hall i hi) (fun i h1 h2=>by omega);rw[hP]at this;exact this
 intro fuel
 induction fuel with
 |zero=>
  intro listed ρ w a p hcnt hI
  have hready:Region.ready .any ops listed= []:=by
   refine List.eq_nil_iff_forall_not_mem.2 fun j hj=>?_
   obtain⟨h1,h2,_⟩:=mem_ready hI.size hj
   have hlt:j<listed.size:=by have:=hI.size;omega
   have:listed[j]=false:=by
    cases hb:listed[j]
    ·rfl
    ·exact absurd (by unfold Done;rw[Array.getElem?_eq_getElem hlt,hb]) h2
   have hm:false∈listed.toList:=by rw[←this,Array.mem_toList_iff];exact Array.getElem_mem hlt
   exact absurd hcnt (Nat.ne_of_gt (List.count_pos_iff.2 hm))
  exact⟨hready,fin listed ρ w a p hI hready⟩
 |succ fuel ih=>
  intro listed ρ w a p0 hcnt hI0;refine⟨fin listed ρ w a p0 hI0,fun j hj=>?_⟩;obtain⟨hjn,hnd,hrd⟩:=mem_ready hI0.size hj
  have hanc0: ∀i,(ms.getD j 0).testBit i=true→Done listed i:=fun i hb=>hD.msk.ready hI0.closed hjn hrd hb
  -- ahead of a store or a call the place goes up to it
  obtain⟨p,hI,hpj⟩: ∃p,Inv E f N s0 ops base T Hh A listed ρ0 w0 ρ w a p∧(isO E (opAt ops j)=true→isAl E (opAt ops j)=false→p=j):=by
   cases ho:isO E (opAt ops j)
   ·exact⟨p0,hI0,fun h=>by cases h⟩
   ·cases ha:isAl E (opAt ops j)
    ·have hp0:p0≤j:=by
      rcases Nat.lt_or_ge j p0 with h|h
      ·exact absurd ((hI0.chain j hjn ho ha).2 h) hnd
      ·exact h
     refine⟨j,hI0.advTo hR (by omega) hp0 (fun i h1 h2=>?_),fun _ _=>rfl⟩;cases hoi:isO E (opAt ops i)
     ·exact .inl rfl
     ·have hdi:=hanc0 i (hD.oo i j h2 hjn hoi ho ha)
      cases hai:isAl E (opAt ops i)
      ·have:=(hI0.chain i (by omega) hoi hai).1 hdi;omega
      ·exact .inr ⟨rfl,hdi⟩
    ·exact⟨p0,hI0,fun _ h=>by cases h⟩
  clear hI0
  have hjl:j<listed.size:=by have:=hI.size;omega
  have hcnt':(listed.setIfInBounds j true).toList.count false=fuel:=by
   have hb:listed.toList[j]?=some false:=by
    rw[Array.getElem?_toList,Array.getElem?_eq_getElem hjl];cases hb:listed[j]
    ·rfl
    ·exact absurd (by unfold Done;rw[Array.getElem?_eq_getElem hjl,hb]) hnd
   rw[Array.toList_setIfInBounds]
   have hjl':j<listed.toList.length:=by simpa using hjl
   have hbe:listed.toList[j]=false:=by rw[List.getElem?_eq_getElem hjl']at hb;exact Option.some.inj hb
   rw[List.count_set hjl'];simp[hbe,hcnt]
  have hanc: ∀i,(ms.getD j 0).testBit i=true→Done listed i:=hanc0;obtain⟨X,hX⟩: ∃X,X=Plus A (EA E ops base (Early E ops T listed p) ρ):=⟨_,rfl⟩
  have hslots:=hI.slots
  rw[←hX]at hslots
  have hhr:=hI.hr
  rw[←hX]at hhr
  -- the operands
  have hlook: ∀t,mentions ops (opAt ops j) t→TR (Forb X ρ (view (Hh p))) ρ w (a.tmps.getD t Go.undef) (T j t):=by
   intro t ht;refine hslots t j (by omega) (fun i hi hd=>hanc i (hD.tt i j t hi hjn (.inl ⟨hd,ht⟩))) (fun i hi hin hd hdone=>?_)
   rcases Nat.lt_or_ge j i with hlt|hge
   ·exact hnd (hD.msk.closed hI.closed i hin hdone j (hD.tt j i t hlt hin (.inr ⟨hd,ht⟩)))
   ·obtain rfl:i=j:=by omega
    exact hnd hdone
  obtain⟨qf,hqf⟩:=Classical.axiomOfChoice (fun t=>hI.least hD t)
  obtain⟨σ,hσ⟩: ∃σ:Fr,σ=fun t=>open Classical in if mentions ops (opAt ops j) t then T j t else T (qf t) t:=⟨_,rfl⟩
  have hσl: ∀t,t∈(opAt ops j).looksAt ops→T j t=σ t:=fun t ht=>by rw[hσ];simp[show mentions ops (opAt ops j) t from .inl ht]
  have hfr:FRel (Forb X ρ (view (Hh p))) ρ w a.tmps σ:=by
   intro t;rw[hσ]
   by_cases ht:mentions ops (opAt ops j) t
   ·simp only[ht,if_true];exact hlook t ht
   ·simp only[ht,if_false];exact hslots t (qf t) (hqf t).1 (hqf t).2.1 (hqf t).2.2
  have hwant:Region.wanted (opAt ops j) (yielded ops a.tmps)=wantA ops (T j) (opAt ops j):=by
   rw[want_eq hfr ops _ (by rw[←gtop_congr hσl];exact stepD_gtop (hR.step j hjn)),wantA_congr hσl]
  have hcl:=closed_set hI.closed hjl hrd
  have hsz':(listed.setIfInBounds j true).size=ops.size:=by simpa using hI.size
  -- the rest, behind an operation that sets no memory aside
  have next: ∀(v:Value) (w':World) (ρ':Rho) (y:AV) (p':Nat),p≤p'→p'≤ops.size→(isAl E (opAt ops j)=true→wantA ops (T j) (opAt ops j)=false)→
    (∀i,i<ops.size→isO E (opAt ops i)=true→isAl E (opAt ops i)=false→(Done (listed.setIfInBounds j true) i↔i<p'))→(p'=p∨(p'=j+1∧p=j∧isAl E (opAt ops j)=false))→
    Ext (Own ρ (view (Hh p))) ρ w (Own ρ' (view (Hh p'))) ρ' w'→HR E.G X ρ' w' (view (Hh p'))→CR (Forb X ρ' (view (Hh p'))) ρ' w' v y→putA N (T j) (opAt ops j).dst y= .ok (T (j+1))→
    wpAnyIn (fw rd) nn E.P .any ops Q fuel (listed.setIfInBounds j true) (a.put (opAt ops j).dst v) w':=by
   intro v w' ρ' y p' hpp hp' hw hbase hcase hx hr hv hput
   have hE:Early E ops T (listed.setIfInBounds j true) p'=Early E ops T listed p:=by
    funext i
    apply propext;constructor
    ·rintro⟨h1,h2,h3,h4,h5⟩
     refine⟨by omega,h2,h3,?_,h5⟩
     rcases(done_set hjl i).1 h4 with rfl|h
     ·rw[hw h3]at h5;cases h5
     ·exact h
    ·rintro⟨h1,h2,h3,h4,h5⟩
     refine⟨?_,h2,h3,(done_set hjl i).2 (.inr h4),h5⟩
     rcases hcase with h|⟨h,h',h''⟩
     ·omega
     ·rcases Nat.lt_or_ge p i with h6|h6
      ·omega
      ·have:i=j:=by omega
       subst this;rw[h'']at h3;cases h3
   refine ih _ ρ' w' _ p' hcnt' (hI.carry hR hpp hp' hE hx (by rw[←hX];exact hr) hsz' hcl hbase (fun i hi ha=>?_) ?_ (by rw[put_size];exact hI.sz) (put_defers ..))
   ·rcases hcase with h|⟨h,h',h''⟩
    ·exact(done_set hjl i).2 (.inr (hI.als i (by omega) ha))
    ·rcases Nat.lt_or_ge i p with h6|h6
     ·exact(done_set hjl i).2 (.inr (hI.als i h6 ha))
     ·exact(done_set hjl i).2 (.inl (by omega))
   ·rw[←hX]
    exact slots_step hR hD hI.size hI.closed hjn hnd hI.sz (fun t q h1 h2 h3=>(hslots t q h1 h2 h3).ext hx) hv hput
  unfold wpOpIn;rw[opAt_get hjn];simp only[hwant];cases hO:isO E (opAt ops j)
  ·--it makes and writes nothing
   have hna:=isO_isAl hO
   have hbase: ∀i,i<ops.size→isO E (opAt ops i)=true→isAl E (opAt ops i)=false→(Done (listed.setIfInBounds j true) i↔i<p):=by
    intro i hi ho ha;rw[done_set hjl];constructor
    ·rintro(rfl|h)
     ·rw[hO]at ho;cases ho
     ·exact(hI.chain i hi ho ha).1 h
    ·exact fun h=> .inr ((hI.chain i hi ho ha).2 h)
   have hnw:isAl E (opAt ops j)=true→wantA ops (T j) (opAt ops j)=false:=fun h=>by rw[hna]at h;cases h
   rcases stepA_inv (stepD_ot (hR.step j hjn) hna)with⟨hw,y,hop,hput⟩|⟨hw,hh,hput⟩
   ·rw[if_pos hw]
    rw[opA_congr (agree_of hσl)]at hop
    by_cases hk:kindOf E (opAt ops j).op= .read
    ·--it reads:all memory that is there is counted in
     obtain⟨K,k1,k2,k3,k4⟩:=hI.all hR ops.size (Nat.le_refl _)
     have hno:(fun i=>Early E ops T listed p i∧ops.size≤i)=fun _=>False:=funext fun i=>propext ⟨fun h=>by have:=h.1.2.1;omega,False.elim⟩
     have hP:Plus A (EA E ops base (fun _=>False) ρ)=A:=funext fun B=>funext fun off=>propext ⟨fun h=>h.resolve_right (fun⟨i,k,h,_⟩=>h), .inl⟩
     rw[hno,hP]at k1 k2;rw[←hX]at k2;unfold opA at hop;simp only[hk]at hop;obtain⟨y',hopr,hop2⟩:=R.bind_ok hop;clear hop
     have hop2:=congrArg Prod.fst (R.ok.inj hop2)
     simp only at hop2;subst hop2
     -- what is read at a place of the text is what is read here
     have hag:=agree_of hσl
     have hK:readA E σ K (opAt ops j)= .ok y':=by
      have hj:readA E (T j) (Hh j) (opAt ops j)= .ok y':=by
       have h1:=opA_congr (E:=E) (f:=f) (call:=call) (h:=Hh j) hag;unfold opA at h1;simp only[hk]at h1;rw[hopr]at h1;obtain⟨y2,h2,h3⟩:=R.bind_ok h1
       have h3:=congrArg Prod.fst (R.ok.inj h3)
       simp only at h3;rw[h2,h3]
      have hTK:readA E (T j) K (opAt ops j)=readA E σ K (opAt ops j):=by
       have h1:=opA_congr (E:=E) (f:=f) (call:=call) (h:=K) hag;unfold opA at h1;simp only[hk]at h1
       cases e1:readA E (T j) K (opAt ops j)with
       |no s1=>
        cases e2:readA E σ K (opAt ops j)with
        |no s2=>rw [e1,e2]at h1;simp only[R.bind]at h1;rw[R.no.inj h1]
        |ok v2=>rw [e1,e2]at h1;cases h1
       |ok v1=>
        cases e2:readA E σ K (opAt ops j)with
        |no s2=>rw [e1,e2]at h1;cases h1
        |ok v2=>rw [e1,e2]at h1;have:=congrArg Prod.fst (R.ok.inj h1);simp only at this;rw[this]
      rw[←hTK]
      have stepSame: ∀i,i<ops.size→isO E (opAt ops i)=true→(ms.getD j 0).testBit i=false→(ms.getD i 0).testBit j=false→readA E (T j) (Hh i) (opAt ops j)=readA E (T j) (Hh (i+1)) (opAt ops j):=fun i hi ho h1 h2=>
       hreads j i hjn hi hk ho h1 h2 (fun e=>by rw[e,hO]at ho;cases ho)
      have notAfter: ∀i,i<ops.size→Done listed i→(ms.getD i 0).testBit j=false:=fun i hi hd=>by
       cases hbit:(ms.getD i 0).testBit j
       ·rfl
       ·exact absurd (hD.msk.closed hI.closed i hi hd j hbit) hnd
      have notAhead: ∀i,¬Done listed i→(ms.getD j 0).testBit i=false:=fun i hd=>by
       cases hbit:(ms.getD j 0).testBit i
       ·rfl
       ·exact absurd (hanc i hbit) hd
      have upward: ∀i,i<j→i<ops.size→(ms.getD i 0).testBit j=false:=fun i hij hi=>by
       cases hbit:(ms.getD i 0).testBit j
       ·rfl
       ·have:=hD.msk.lt (i+1) i (by omega) hi j hbit;omega
      have downward: ∀i,j<i→(ms.getD j 0).testBit i=false:=fun i hij=>by
       cases hbit:(ms.getD j 0).testBit i
       ·rfl
       ·have:=hD.msk.lt (j+1) j (by omega) hjn i hbit;omega
      have chain: ∀{p q:Nat},p≤q→q≤ops.size→(∀i,p≤i→i<q→isO E (opAt ops i)=true→readA E (T j) (Hh i) (opAt ops j)=readA E (T j) (Hh (i+1)) (opAt ops j))→readA E (T j) (Hh p) (opAt ops j)=readA E (T j) (Hh q) (opAt ops j):=by
       intro p q
       induction q with
       |zero=>intro h _ _;obtain rfl:p=0:=by omega
              rfl
       |succ q ihq=>
        intro h hq hk2
        by_cases hpq:p=q+1
        ·rw[hpq]
        ·rw[ihq (by omega) (by omega) (fun i h1 h2=>hk2 i h1 (by omega))]
         cases ho:isO E (opAt ops q)
         ·rw[hR.quiet (by omega) ho]
         ·exact hk2 q (by omega) (by omega) ho
      have other: ∀i,i<ops.size→isAl E (opAt ops i)=true→(∀b,readDep E (T j) (opAt ops j)=some b→b≠idAt E ops base i)→readA E (T j) (Hh i) (opAt ops j)=readA E (T j) (Hh (i+1)) (opAt ops j):=fun i hi ha hne=>
       readA_dep (fun b hb=>hR.other hi ha (hne b hb))
      -- between the place and the read, at a block that none of the early ones made
      have mid: ∀i,i<ops.size→isO E (opAt ops i)=true→(∀m,Early E ops T listed p m→ ∀b,readDep E (T j) (opAt ops j)=some b→b≠idAt E ops base m)→(p≤i∧i<j∨j≤i∧i<p)→readA E (T j) (Hh i) (opAt ops j)=readA E (T j) (Hh (i+1)) (opAt ops j):=by
       intro i hi ho hne hcase
       have hij:i≠j:=fun e=>by rw[e,hO]at ho;cases ho
       rcases hcase with⟨h1,h2⟩|⟨h1,h2⟩
       ·by_cases hdi:Done listed i
        ·cases ha:isAl E (opAt ops i)
         ·have:=(hI.chain i hi ho ha).1 hdi;omega
         ·cases hwi:wantA ops (T i) (opAt ops i)
          ·rcases stepD_al (hR.step i hi) ha with⟨h3,_⟩|⟨_,h3,_⟩
           ·rw[hwi]at h3;cases h3
           ·rw[h3]
          ·exact other i hi ha (hne i ⟨h1,hi,ha,hdi,hwi⟩)
        ·exact stepSame i hi ho (notAhead i hdi) (upward i h2 hi)
       ·have hdi:Done listed i:=by
         cases ha:isAl E (opAt ops i)
         ·exact(hI.chain i hi ho ha).2 h2
         ·exact hI.als i h2 ha
        exact stepSame i hi ho (downward i (by omega)) (notAfter i hi hdi)
      by_cases hearly: ∃m b,Early E ops T listed p m∧readDep E (T j) (opAt ops j)=some b∧b=idAt E ops base m
      ·obtain⟨m,b,hm,hb,hbm⟩:=hearly
       obtain⟨v',x,f1,f2⟩:=k3 m hm hm.2.1
       have hmj:m<j:=by
        rcases Nat.lt_or_ge m j with h|h
        ·exact h
        ·exact absurd hbm (hlater j m b hjn hm.2.1 hk hm.2.2.1 h hb)
       have hHm:(Hh (m+1))[b]?=some x:=by
        rcases stepD_al (hR.step m hm.2.1) hm.2.2.1 with⟨_,hg,v2,x2,g1,g2,_⟩|⟨h3,_⟩
        ·rw[f1]at g1;cases g1
         rw[g2,hbm,List.getElem?_set_self (lt_of_getl hg)]
        ·rw[hm.2.2.2.2]at h3;cases h3
       have e1:readA E (T j) K (opAt ops j)=readA E (T j) (Hh (m+1)) (opAt ops j):=readA_dep (fun b' hb'=>by
        rw[hb]at hb';cases hb'
        rw[hHm,hbm];exact f2)
       rw[e1,←hj];refine chain (by omega) (by omega) (fun i h1 h2 ho=>?_)
       by_cases hdi:Done listed i
       ·cases ha:isAl E (opAt ops i)
        ·have:=(hI.chain i (by omega) ho ha).1 hdi;have:=hm.1;omega
        ·exact other i (by omega) ha (fun b' hb' e=>by
          rw[hb]at hb';cases hb'
          exact idAt_ne (show m≠i by omega) hm.2.1 (by omega) hm.2.2.1 ha (hbm.symm.trans e))
       ·exact stepSame i (by omega) ho (notAhead i hdi) (upward i h2 (by omega))
      ·have hne: ∀m,Early E ops T listed p m→ ∀b,readDep E (T j) (opAt ops j)=some b→b≠idAt E ops base m:=fun m hm b hb e=>hearly ⟨m,b,hm,hb,e⟩
       have e1:readA E (T j) K (opAt ops j)=readA E (T j) (Hh p) (opAt ops j):=readA_dep (fun b hb=>k4 b (fun i hi _=>hne i hi b hb));rw[e1,←hj]
       rcases Nat.le_total p j with hpj'|hpj'
       ·exact chain hpj' (by omega) (fun i h1 h2 ho=>mid i (by omega) ho hne (.inl ⟨h1,h2⟩))
       ·exact(chain hpj' hI.le (fun i h1 h2 ho=>mid i (by have:=hI.le;omega) ho hne (.inr ⟨h1,h2⟩))).symm
     exact read_wp hS hK k1 (by rw[k2];exact hfr) (fun b hb=>rfl) (fun v hv=>next v w ρ y' p (Nat.le_refl _) hI.le hnw hbase (.inl rfl) (Ext.refl _ _ _) hhr (by rw[←k2];exact hv) hput)
    ·exact quiet_wp hS hC hop hO hhr hfr (fun h=>absurd h hk) (fun _ v w' ρ' hx hr hv=>next v w' ρ' y p (Nat.le_refl _) hI.le hnw hbase (.inl rfl) hx hr hv hput)
   ·rw[if_neg (by simp[hw])]
    refine⟨fun _ _=>trivial,?_⟩;exact next Go.undef w ρ undef p (Nat.le_refl _) hI.le hnw hbase (.inl rfl) (Ext.refl _ _ _) hhr undef_cr hput
  ·cases hAl:isAl E (opAt ops j)
   ·--it writes memory or calls:these stand in the text's order
    have hpe:=hpj hO hAl
    subst hpe
    have hbase: ∀i,i<ops.size→isO E (opAt ops i)=true→isAl E (opAt ops i)=false→(Done (listed.setIfInBounds p true) i↔i<p+1):=by
     intro i hi ho ha;rw[done_set hjl];constructor
     ·rintro(rfl|h)
      ·omega
      ·have:=(hI.chain i hi ho ha).1 h;omega
     ·intro h
      rcases Nat.lt_or_ge i p with h1|h1
      ·exact .inr ((hI.chain i hi ho ha).2 h1)
      ·exact .inl (by omega)
    have hnw:isAl E (opAt ops p)=true→wantA ops (T p) (opAt ops p)=false:=fun h=>by rw[hAl]at h;cases h
    have hst:St E X ρ w a σ (view (Hh p)) N s0:=⟨hhr,hfr,hI.sz,hI.de.1,hI.de.2.1,fun d hd=>by
     obtain⟨D,d1,d2,d3,d4⟩:=hI.de.2.2 d hd
     exact⟨D,d1,d2,d3,fun off h=>d4 off (.inl h)⟩⟩
    rcases stepA_inv (stepD_ot (hR.step p hjn) hAl)with⟨hw,y,hop,hput⟩|⟨hw,hh,hput⟩
    ·rw[if_pos hw]
     rw[opA_congr (agree_of hσl)]at hop;exact opA_wp hS hC hcall hop hst (fun v w' ρ' hx hr hv=>next v w' ρ' y (p+1) (by omega) (by omega) hnw hbase (.inr ⟨rfl,rfl,hAl⟩) hx hr hv hput)
    ·rw[if_neg (by simp[hw])]
     refine⟨fun _ _=>trivial,?_⟩;exact next Go.undef w ρ undef (p+1) (by omega) (by omega) hnw hbase (.inr ⟨rfl,rfl,hAl⟩) (by rw[hh];exact Ext.refl _ _ _) (by rw[hh];exact hhr) undef_cr hput
   ·--it makes memory
    have hpj':p≤j:=by
     rcases Nat.lt_or_ge j p with h|h
     ·exact absurd (hI.als j h hAl) hnd
     ·exact h
    have hbase: ∀i,i<ops.size→isO E (opAt ops i)=true→isAl E (opAt ops i)=false→(Done (listed.setIfInBounds j true) i↔i<p):=by
     intro i hi ho ha;rw[done_set hjl];constructor
     ·rintro(rfl|h)
      ·rw[hAl]at ha;cases ha
      ·exact(hI.chain i hi ho ha).1 h
     ·exact fun h=> .inr ((hI.chain i hi ho ha).2 h)
    rcases stepD_al (hR.step j hjn) hAl with⟨hw,hg,y,x,hop,_,hput⟩|⟨hw,hh,hput⟩
    ·rw[if_pos hw]
     have hgp:view (Hh p) (idAt E ops base j)=some .hole:=hR.kept j p hjn hAl hpj';have hid:ρ (idAt E ops base j)=none:=hI.nyet j hpj' hjn hAl (fun h=>hnd h.2.2.2.1);obtain⟨u,w',k,h1,h2,h3,h4⟩:=allocA_run hhr hfr hid (allocA_congr (isAl_kind hAl) (agree_of hσl) hop)
     refine gives_wp (fun c hc=>by simp[allocA,hc]at hop) (.inl h1) ?_
     have hxal:=allocA_alive hop
     obtain⟨ρ1,hρ1⟩: ∃ρ1,ρ1=setR ρ (idAt E ops base j) (w.heap.size,k):=⟨_,rfl⟩;rw[←hρ1]at h2 h3 h4
     have hj1:ρ1 (idAt E ops base j)=some (w.heap.size,k):=by rw[hρ1];simp[setR]
     have ho1: ∀b,b≠idAt E ops base j→ρ1 b=ρ b:=fun b hb=>by rw[hρ1];simp[setR,hb]
     have hset:setG (setG (view (Hh p)) (idAt E ops base j) x) (idAt E ops base j) .hole=view (Hh p):=by
      funext b
      simp only[setG];split
      ·rename_i hb;rw[hb,hgp]
      ·rfl
     have hD1: ∀i,Early E ops T (listed.setIfInBounds j true) p i↔(Early E ops T listed p i∨i=j):=fun i=>by
      constructor
      ·rintro⟨e1,e2,e3,e4,e5⟩
       rcases(done_set hjl i).1 e4 with h|h
       ·exact .inr h
       ·exact .inl ⟨e1,e2,e3,h,e5⟩
      ·rintro(⟨e1,e2,e3,e4,e5⟩|rfl)
       ·exact⟨e1,e2,e3,(done_set hjl i).2 (.inr e4),e5⟩
       ·exact⟨hpj',hjn,hAl,(done_set hjl i).2 (.inl rfl),hw⟩
     have hidne: ∀i,Early E ops T listed p i→idAt E ops base i≠idAt E ops base j:=fun i hi=>idAt_ne (fun e=>hnd (e▸hi.2.2.2.1)) hi.2.1 hjn hi.2.2.1 hAl
     have hEA1:=ea_congr (E:=E) (ops:=ops) (base:=base) (D:=Early E ops T listed p) (ρ:=ρ) (ρ':=ρ1) (fun i hi=>ho1 _ (hidne i hi));have harea:=area_one (A:=A) (E:=E) (ops:=ops) (base:=base) hD1 hj1;rw[hEA1,←hX]at harea;obtain⟨q1,q2⟩:=h3.hide hj1 (by simp[setG]) hxal harea;rw[hset]at q1 q2
     have hap: ∀i,Early E ops T listed p i→ ∀B k,ρ (idAt E ops base i)=some (B,k)→ ∀off,¬Own ρ (view (Hh p)) B off:=fun i hi B k hb=>hI.hr.apart (k:=k) (fun off h=> .inr ⟨i,k,hi,hb,h⟩)
     have hxt:Ext (Plus (Own ρ (view (Hh p))) (EA E ops base (Early E ops T listed p) ρ)) ρ w (Plus (Own ρ1 (view (Hh p))) (EA E ops base (Early E ops T (listed.setIfInBounds j true) p) ρ1)) ρ1 w':=by
      refine h2.widen (fun B off h=> .inl h) (fun B off h=>?_)
      rcases h with⟨b,k',z,g1,g2,g3,g4⟩|⟨i,k',g1,g2,g3⟩
      ·have hb:b≠idAt E ops base j:=fun e=>by rw[e,hgp]at g2;cases g2;cases g3
       rw[ho1 b hb]at g1;exact .inl (.inl ⟨b,k',z,g1,g2,g3,g4⟩)
      ·rcases(hD1 i).1 g1 with h|h
       ·rw[ho1 _ (hidne i h)]at g2
        exact .inl (.inr ⟨i,k',h,g2,g3⟩)
       ·subst h
        rw[hj1]at g2;cases g2;exact .inr (Nat.le_refl _)
     refine ih _ ρ1 w' _ p hcnt' ⟨hsz',hcl,hI.le,hbase,fun i hi ha=>(done_set hjl i).2 (.inr (hI.als i hi ha)),q1,fun i hi his hia hne=>?_,fun i hi=>?_,fun i b B k' k1 hi g1 g2=>?_,hI.ext.trans hxt,?_,by rw[put_size];exact hI.sz,by rw[put_defers];exact hI.de.ext hxt⟩
     ·have hij:i≠j:=fun e=>hne ((hD1 i).2 (.inr e))
      rw[ho1 _ (fun e=>idAt_ne hij his hjn hia hAl e)];exact hI.nyet i hi his hia (fun h=>hne ((hD1 i).2 (.inl h)))
     ·rcases(hD1 i).1 hi with h|h
      ·obtain⟨B,k',v',x',e1,e2,e3,e4,e5,e6⟩:=hI.early i h
       refine⟨B,k',v',x',by rw[ho1 _ (hidne i h)];exact e1,e2,e3,Nat.lt_of_lt_of_le e4 h2.size,?_,e6⟩;rw[q2];rw[←hX]at e5;exact e5.mono h2.sub h2.keeps (h2.keepo B e4 (hap i h B k' e1))
      ·subst h
       obtain⟨B,k',g1,g2,g3⟩:=h3.blk (idAt E ops base i) x (by simp[setG]) (fun e=>by rw[e]at hxal;cases hxal);rw[hj1]at g1;cases g1;refine⟨_,_,y,x,hj1,hop,hxal,g2,by rw[q2];exact g3,fun off ha=>?_⟩;have:=(hhr.avo w.heap.size off (by rw[hX];exact .inl ha)).1;omega
     ·rcases(hD1 i).1 hi with h|h
      ·rw[ho1 _ (hidne i h)]at g1
       by_cases hb:b=idAt E ops base j
       ·subst hb
        rw[hj1]at g2;cases g2;have:=hhr.lt g1;omega
       ·rw[ho1 b hb]at g2
        exact hI.sep i b B k' k1 h g1 g2
      ·subst h
       by_cases hb:b=idAt E ops base i
       ·exact hb
       ·rw[ho1 b hb]at g2
        rw[hj1]at g1;cases g1;have:=hhr.lt g2;omega
     ·rw[q2]
      exact slots_step hR hD hI.size hI.closed hjn hnd hI.sz (fun t q h5 h6 h7=>(hslots t q h5 h6 h7).ext h2) h4 hput
    ·rw[if_neg (by simp[hw])]
     refine⟨fun _ _=>trivial,?_⟩;exact next Go.undef w ρ undef p (Nat.le_refl _) hI.le (fun _=>hw) hbase (.inl rfl) (Ext.refl _ _ _) hhr undef_cr hput
theorem view_holes(h:H)(n:Nat)(b:Nat):(view (h++List.replicate n .hole) b=view h b∧b<h.length)∨(h.length≤b∧(view (h++List.replicate n .hole) b=some .hole∨view (h++List.replicate n .hole) b=none)):=by
 simp only[view]
 rcases Nat.lt_or_ge b h.length with h1|h1
 ·exact .inl ⟨List.getElem?_append_left h1,h1⟩
 ·refine .inr ⟨h1,?_⟩
  rw[List.getElem?_append_right h1,List.getElem?_replicate];split
  ·exact .inl rfl
  ·exact .inr rfl
theorem HR.holes{G:Nat→Option (List AV)}{A:Area}{ρ:Rho}{w:World}{h:H}(hr:HR G A ρ w (view h))(n:Nat):HR G A ρ w (view (h++List.replicate n .hole))∧Own ρ (view (h++List.replicate n .hole))=Own ρ (view h):=by
 have hnone: ∀b,h.length≤b→ρ b=none:=fun b hb=>hr.dom b (by simp[view];omega)
 have hown:Own ρ (view (h++List.replicate n .hole))=Own ρ (view h):=by
  funext B off
  apply propext;constructor
  ·rintro⟨b,k,y,h1,h2,h3,h4⟩
   rcases view_holes h n b with⟨e,_⟩|⟨e,_⟩
   ·exact⟨b,k,y,h1,by rw[←e];exact h2,h3,h4⟩
   ·rw[hnone b e]at h1;cases h1
  ·rintro⟨b,k,y,h1,h2,h3,h4⟩
   rcases view_holes h n b with⟨e,_⟩|⟨e,_⟩
   ·exact⟨b,k,y,h1,by rw[e];exact h2,h3,h4⟩
   ·rw[hnone b e]at h1;cases h1
 have hF:Forb A ρ (view (h++List.replicate n .hole))=Forb A ρ (view h):=by unfold Forb;rw[hown]
 refine⟨⟨fun b hb=>?_,fun b y hb hy=>?_,fun b hb B k hk=>?_,fun b1 b2 B k1 k2 x1 x2 h1 h2 h3 h4 h5 h6=>?_,fun B off ha=>by rw[hown];exact hr.avo B off ha,fun i cs hi=>by rw[hF];exact hr.glob i cs hi⟩,hown⟩
 ·rcases view_holes h n b with⟨e,_⟩|⟨e,_⟩
  ·exact hr.dom b (by rw[←e];exact hb)
  ·exact hnone b e
 ·rw[hF]
  rcases view_holes h n b with⟨e,_⟩|⟨_,e|e⟩
  ·exact hr.blk b y (by rw[←e];exact hb) hy
  ·rw[e]at hb;cases hb;exact absurd rfl hy
  ·rw[e]at hb;cases hb
 ·rcases view_holes h n b with⟨e,_⟩|⟨e,_⟩
  ·exact hr.hole b (by rw[←e];exact hb) B k hk
  ·rw[hnone b e]at hk;cases hk
 ·rcases view_holes h n b1 with⟨e1,_⟩|⟨e1,_⟩
  ·rcases view_holes h n b2 with⟨e2,_⟩|⟨e2,_⟩
   ·exact hr.sep b1 b2 B k1 k2 x1 x2 h1 h2 (by rw[←e1];exact h3) (by rw[←e2];exact h4) h5 h6
   ·rw[hnone b2 e2]at h2;cases h2
  ·rw[hnone b1 e1]at h1;cases h1
theorem regionA_wp(hS:Smet E.P E.S)(hC:COK E)(hcall:CallOK E call)(hmix:E.P.follows .mixedOrders=true){id:Nat}{draw:Bool}{τ τ':Fr}{h h':H}(ho:regionA E f call N ops draw τ h= .ok (τ',h')){A:Area}{ρ:Rho}{w:World}{a:Act}(hs:St E A ρ w a τ (view h) N s0){Q:Exit→Act→World→Prop}
  (hQ: ∀a' w' ρ',Ext (Own ρ (view h)) ρ w (Own ρ' (view h')) ρ' w'→St E A ρ' w' a' τ' (view h') N s0→Q .normal a' w'):(Code.region id ops draw).wpIn (fw rd) nn E.P Q a w:=by
 cases draw with
 |false=>
  refine wpIn_region ?_
  rw[List.range_eq_range'];exact opsA_wp hS hC hcall ops.size 0 τ h ρ w a (by omega) ho hs hQ
 |true=>
  simp only[regionA]at ho;obtain⟨⟨tr,lt,lh⟩,htr,ho⟩:=R.bind_ok ho;simp only at ho;split at ho
  ·rename_i hds
   split at ho
   ·rename_i hdd
    split at ho
    ·rename_i hdl
     split at ho
     ·rename_i hdh
      cases ho;obtain⟨t1,t2,t3,t4⟩:=trace_spec htr
      have hlen:tr.length=ops.size:=by simpa using t1
      have hR:Run E f call N ops h.length (frameAt tr τ') (heapAt tr h'):=by
       refine⟨fun i hi=>t4 i _ (by rw[Array.getElem?_toList];exact opAt_get hi),fun i m hi ha hm=>?_⟩
       have h1:=List.all_eq_true.1 hdh i (List.mem_range.2 hi)
       rw[ha]at h1;simp only[Bool.not_true,Bool.false_or]at h1;exact sameBlk_eq (List.all_eq_true.1 h1 m (List.mem_range.2 (by omega)))
      have hD:=drawS_ok hds
      have hw1:({w with drawn:=w.drawn+1}:World).heap=w.heap:=rfl;obtain⟨hr1,hx1⟩:=hs.hr.heap hw1 ⟨rfl,rfl,rfl⟩;obtain⟨hr2,ho2⟩:=hr1.holes (alsOf E ops.toList)
      have hno: ∀l:Array Bool,(∀i,¬Done l i)→ ∀i,¬Early E ops (frameAt tr τ') l 0 i:=fun l hl i he=>hl i he.2.2.2.1
      have hnd: ∀i,¬Done (Array.replicate ops.size false) i:=fun i hd=>by unfold Done at hd;simp[Array.getElem?_replicate]at hd
      have hP: ∀(Y:Area) (ρ1:Rho),Plus Y (EA E ops h.length (Early E ops (frameAt tr τ') (Array.replicate ops.size false) 0) ρ1)=Y:=fun Y ρ1=>funext fun B=>funext fun off=>propext ⟨fun hh=>hh.resolve_right (fun⟨i,k,h1,_⟩=>hno _ hnd i h1), .inl⟩
      refine wpIn_region_any hmix ?_
      refine any_wp (s0:=s0) (base:=h.length) (T:=frameAt tr τ') (Hh:=heapAt tr h') (ρ0:=ρ) (w0:=w) (A:=A) hS hC hcall hR hD ?_ ?_ ?_ ops.size _ ρ _ a 0 ?_ ?_
      ·intro j i hj hi hk ho hb1 hb2 hne
       have hmem:(j,i)∈pairsA E ops (masksA ops.toList []):=by
        unfold pairsA;rw[List.mem_flatMap];refine⟨j,List.mem_range.2 hj,?_⟩;rw[if_pos hk,List.mem_map];refine⟨i,List.mem_filter.2 ⟨List.mem_range.2 hi,?_⟩,rfl⟩;simp only[ho,hb1,hb2,Bool.not_false,Bool.and_true,Bool.true_and,Bool.not_eq_true',beq_eq_false_iff_ne];exact hne
       have h1:=List.all_eq_true.1 hdd (j,i) hmem
       simp only[Bool.or_eq_true]at h1
       rcases h1 with h1|h1
       ·refine readA_dep (fun b hb=>?_)
        rw[hb]at h1;exact sameBlk_eq h1
       ·exact sameR_eq h1
      ·intro j i b hj hi hk ha hji hdep
       have h1:=List.all_eq_true.1 hdl j (List.mem_range.2 hj)
       rw[if_pos hk,hdep]at h1
       have h2:=List.all_eq_true.1 h1 i (List.mem_range.2 hi)
       have h3:decide (i<j)=false:=by simp;omega
       rw[h3,ha]at h2
       simpa using h2
      ·intro ρ' w' a' hx hst
       rw[frameAt_last hlen,heapAt_last hlen]at hst;rw[heapAt_last hlen,t3,ho2]at hx;exact hQ a' w' ρ' hx hst
      ·simp
      ·refine⟨by simp,fun j hj hd=>absurd hd (hnd j),Nat.zero_le _,fun i hi ho ha=>⟨fun hd=>absurd hd (hnd i),fun h=>by omega⟩,fun i h=>by omega,by rw[hP,t3];exact hr2,fun i _ hi ha _=>?_,fun i hi=>absurd hi (hno _ hnd i),fun i b B k k1 hi=>absurd hi (hno _ hnd i),by rw[hP,t3,ho2];exact hx1,fun t q hq h1 h2=>?_,hs.sz,by rw[hP,t3,ho2];exact hs.de.ext hx1⟩
       ·exact hr1.dom _ (by simp[view,idAt])
       ·have:frameAt tr τ' 0 t=frameAt tr τ' q t:=hR.slot (t:=t) (Nat.zero_le q) hq (fun i _ hi hd=>hnd i (h1 i hi hd))
        rw[←this,t2,t3,hP]
        have h5:=(hs.fr t).ext hx1
        unfold Forb at h5 ⊢
        rw[ho2];exact h5
     ·cases ho
    ·cases ho
   ·cases ho
  ·cases ho
def X.exit':X→Exit
 | .normal=> .normal
 | .ret=> .ret
 | .exit id=> .exit id
def Post(E:Env)(A:Area)(N s0:Nat)(ρ:Rho)(w:World)(h:H)(x:X)(τ':Fr)(h':H):Exit→Act→World→Prop:=
 fun e a' w'=>e=x.exit'∧ ∃ρ',Ext (Own ρ (view h)) ρ w (Own ρ' (view h')) ρ' w'∧St E A ρ' w' a' τ' (view h') N s0
theorem Post.from{A:Area}{ρ ρ1:Rho}{w w1:World}{h h1:H}{x:X}{τ':Fr}{h':H}{e:Exit}{a':Act}{w':World}(hx:Ext (Own ρ (view h)) ρ w (Own ρ1 (view h1)) ρ1 w1)(hp:Post E A N s0 ρ1 w1 h1 x τ' h' e a' w'):Post E A N s0 ρ w h x τ' h' e a' w':=
 let⟨h1,ρ',h2,h3⟩:=hp
 ⟨h1,ρ',hx.trans h2,h3⟩
theorem iter_wp{g:Fr→H→R (X×Fr×H)}{c:Code}{A:Area}
  (hg: ∀τ h x τ' h' ρ w a,g τ h= .ok (x,τ',h')→St E A ρ w a τ (view h) N s0→c.wpIn (fw rd) nn E.P (Post E A N s0 ρ w h x τ' h') a w) {x:X} {τ':Fr} {h':H} (n:Nat) (τ:Fr) (h:H) (ρ:Rho) (w:World) (a:Act)
  (hi:iter g n τ h= .ok (x,τ',h')) (hs:St E A ρ w a τ (view h) N s0):(Code.loop c).wpIn (fw rd) nn E.P (Post E A N s0 ρ w h x τ' h') a w:=by
 have key: ∀(n:Nat) (τ:Fr) (h1:H) (ρ1:Rho) (w1:World) (a:Act),iter g n τ h1= .ok (x,τ',h')→St E A ρ1 w1 a τ (view h1) N s0→Ext (Own ρ (view h)) ρ w (Own ρ1 (view h1)) ρ1 w1→
   Code.roundsIn (fw rd) nn E.P c (Post E A N s0 ρ w h x τ' h') n a w1:=by
  intro n
  induction n with
  |zero=>intro τ h1 ρ1 w1 a hi;cases hi
  |succ n ih=>
   intro τ h1 ρ1 w1 a hi hs hx;simp only[iter]at hi
   cases hgr:g τ h1 with
   |no s=>rw [hgr]at hi;cases hi
   |ok r=>
    obtain⟨x1,τ1,h2⟩:=r;rw[hgr]at hi;rw[roundsIn_succ]
    refine wpIn_mono (hg τ h1 x1 τ1 h2 ρ1 w1 a hgr hs) ?_
    rintro e a1 w2 ⟨rfl,ρ2,hx2,hst2⟩
    cases x1 with
    |normal=>simp only at hi;exact ih τ1 h2 ρ2 w2 a1 hi hst2 (hx.trans hx2)
    |ret=>simp only at hi;cases hi;exact⟨rfl,ρ2,hx.trans hx2,hst2⟩
    |exit id=>simp only at hi;cases hi;exact⟨rfl,ρ2,hx.trans hx2,hst2⟩
 exact wpIn_loop_rounds n (key n τ h ρ w a hi hs (Ext.refl _ _ _))
theorem HR.push{G:Nat→Option (List AV)}{A:Area}{ρ:Rho}{w w':World}{g:View}(hr:HR G A ρ w g){o:Obj}(hw:w'.heap=w.heap.push o)(hst:SameS w w'):HR G A ρ w' g∧Ext (Own ρ g) ρ w (Own ρ g) ρ w':=by
 obtain⟨h1,h2⟩:=hr.upd (ρ':=ρ) (w':=w') (g':=g) w.heap.size hst (fun b p hb=>hb) (fun B hB hne=>by rw[hw];simp[Array.getElem?_push,Nat.ne_of_lt hB]) (fun cs e fz hb=>by have:=lt_of_get hb;omega) (fun h=>by omega) (by rw[hw];simp) (fun B off h=> .inl h) (fun b B k h=> .inl h);exact⟨h2 hr.dom (fun b blk hb=> .inl ⟨hb,fun hal B k hB=>Nat.ne_of_lt (hr.lt hB)⟩) hr.sep (fun b h=>⟨h,rfl⟩),h1⟩
theorem clo_box{F:Area}{ρ:Rho}{w:World}{u:Value}{gf b:Nat}(h:CR F ρ w u (.clo gf [] [.ptr b 0])): ∃Bb,u= .func (.func gf) #[] #[.pointer (some ⟨Bb,0,none⟩)]∧ρ b=some (Bb,0):=by
 cases h with
 | @clo f first caps fa ca hf hc vs us h1 h2 h3 h4=>
   have e1:first= #[]:=by apply Array.eq_empty_of_size_eq_zero;simpa using hf
   obtain⟨c0,e2⟩: ∃c0,caps= #[c0]:=by
    obtain⟨l⟩:=caps
    match l,hc with
    | [c0],_=>exact⟨c0,rfl⟩
   subst e1;subst e2
   have h5:=h3 0 _ rfl
   have h6:=h4 0 _ rfl
   simp at h5;rw[←h5]at h6
   cases h6 with
   |ptr hρ=>exact⟨_,rfl,hρ⟩
theorem exec_range{g:Operand}{ps:Array Tmp}{assign body:Code}{τ τ':Fr}{h h':H}{x:X}(he:exec E f call N (.rangeFunc g ps assign body) τ h= .ok (x,τ',h')):
  ∃gf b,ev E τ g= .ok (.clo gf [] [.ptr b 0])∧E.B gf=true∧x= .normal∧τ'=τ∧(h[b]?=some (.var [.nils])∧h'=h∨ ∃sz l tl,h[b]?=some (.var [.lst sz l tl])∧sz=1∧l.length≤1000000∧ps.size=2∧(ps.toList.all fun p=>decide (p<N))=true∧(l.all AV.leaf)=true∧noRF assign=true∧noRF body=true∧
   rounds (exec E f call N assign) (exec E f call N body) τ ps.toList b (.lst sz l tl) (backL l) h= .ok h'):=by
 simp only[exec]at he;split at he
 ·rename_i gf b hg
  split at he
  ·rename_i hB
   split at he
   ·rename_i hb
    cases he;exact⟨gf,b,hg,hB,rfl,rfl, .inl ⟨hb,rfl⟩⟩
   ·rename_i sz l tl hb
    split at he
    ·rename_i hc
     split at he
     ·rename_i h2 hr
      cases he;exact⟨gf,b,hg,hB,rfl,rfl, .inr ⟨sz,l,tl,hb,hc.1,hc.2.1,hc.2.2.1,hc.2.2.2.1,hc.2.2.2.2.1,hc.2.2.2.2.2.1,hc.2.2.2.2.2.2,hr⟩⟩
     ·cases he
    ·cases he
   ·cases he
  ·cases he
 ·cases he
theorem exec_wp(hS:Smet E.P E.S)(hC:COK E)(hB:BOK E)(hcall:CallOK E call)(hmix:E.P.follows .mixedOrders=true){A:Area}: ∀(c:Code) (rd:Option Nat) (nn:Nat) (τ:Fr) (h:H) (x:X) (τ':Fr) (h':H) (ρ:Rho) (w:World) (a:Act),(rd=none∨noRF c=true)→
  exec E f call N c τ h= .ok (x,τ',h')→St E A ρ w a τ (view h) N s0→c.wpIn (fw rd) nn E.P (Post E A N s0 ρ w h x τ' h') a w:=by
 intro c
 induction c with
 |skip=>
  intro rd nn τ h x τ' h' ρ w a hrd he hs;cases he;exact wpIn_skip ⟨rfl,ρ,Ext.refl _ _ _,hs⟩
 |label l=>
  intro rd nn τ h x τ' h' ρ w a hrd he hs;cases he;exact wpIn_label ⟨rfl,ρ,Ext.refl _ _ _,hs⟩
 |region id ops draw=>
  intro rd nn τ h x τ' h' ρ w a hrd he hs;simp only[exec]at he;obtain⟨⟨τ1,h1⟩,hr,he⟩:=R.bind_ok he;cases he;exact regionA_wp hS hC hcall hmix hr hs (fun a' w' ρ' hx hst=>⟨rfl,ρ',hx,hst⟩)
 |seq c d ihc ihd=>
  intro rd nn τ h x τ' h' ρ w a hrd he hs;simp only[exec]at he
  refine wpIn_seq ?_
  cases hc:exec E f call N c τ h with
  |no s=>rw [hc]at he;cases he
  |ok r=>
   obtain⟨x1,τ1,h1⟩:=r;rw[hc]at he
   refine wpIn_mono (ihc rd nn τ h x1 τ1 h1 ρ w a (hrd.imp (fun y=>y) fun h=>by simp only[noRF,Bool.and_eq_true]at h;exact h.1) hc hs) ?_
   rintro e a1 w1 ⟨rfl,ρ1,hx1,hst1⟩
   cases x1 with
   |normal=>
    simp only at he;exact wpIn_mono (ihd rd nn τ1 h1 x τ' h' ρ1 w1 a1 (hrd.imp (fun y=>y) fun h=>by simp only[noRF,Bool.and_eq_true]at h;exact h.2) he hst1) (fun e a2 w2 hp=>hp.from hx1)
   |ret=>simp only at he;cases he;exact⟨rfl,ρ1,hx1,hst1⟩
   |exit id=>simp only at he;cases he;exact⟨rfl,ρ1,hx1,hst1⟩
 |cond c d e ihd ihe=>
  intro rd nn τ h x τ' h' ρ w a hrd he hs;simp only[exec]at he
  cases hc:ev E τ c with
  |no s=>rw [hc]at he;cases he
  |ok v=>
   rw[hc]at he
   have hcr:=ev_cr hs.fr hs.hr.glob' hc
   cases v with
   |bool b=>
    have hb:=toV_eq (x:= .bool b) (by rfl) hcr
    cases b with
    |true=>simp only at he;exact wpIn_cond_true hb (ihd rd nn τ h x τ' h' ρ w a (hrd.imp (fun y=>y) fun h=>by simp only[noRF,Bool.and_eq_true]at h;exact h.1) he hs)
    |false=>simp only at he;exact wpIn_cond_false hb (ihe rd nn τ h x τ' h' ρ w a (hrd.imp (fun y=>y) fun h=>by simp only[noRF,Bool.and_eq_true]at h;exact h.2) he hs)
   |_=>cases he
 |block id c ih=>
  intro rd nn τ h x τ' h' ρ w a hrd he hs;simp only[exec]at he
  refine wpIn_block ?_
  cases hc:exec E f call N c τ h with
  |no s=>rw [hc]at he;cases he
  |ok r=>
   obtain⟨x1,τ1,h1⟩:=r;rw[hc]at he
   refine wpIn_mono (ih rd nn τ h x1 τ1 h1 ρ w a (hrd.imp (fun y=>y) fun h=>by simpa only [noRF]using h) hc hs) ?_
   rintro e a1 w1 ⟨rfl,ρ1,hx1,hst1⟩
   cases x1 with
   |normal=>simp only at he;cases he;exact⟨rfl,ρ1,hx1,hst1⟩
   |ret=>simp only at he;cases he;exact⟨rfl,ρ1,hx1,hst1⟩
   |exit i=>
    simp only at he;cases he;simp only[X.exit',Exit.inBlock]
    by_cases hi:i=id
    ·rw[if_pos hi];rw[if_pos hi];exact⟨rfl,ρ1,hx1,hst1⟩
    ·rw[if_neg hi];rw[if_neg hi];exact⟨rfl,ρ1,hx1,hst1⟩
 |loop c ih=>
  intro rd nn τ h x τ' h' ρ w a hrd he hs;simp only[exec]at he;exact iter_wp (fun τ h x τ' h' ρ w a hg hst=>ih rd nn τ h x τ' h' ρ w a (hrd.imp (fun y=>y) fun h=>by simpa only [noRF]using h) hg hst) E.M τ h ρ w a he hs
 |exit i=>
  intro rd nn τ h x τ' h' ρ w a hrd he hs;cases he;exact wpIn_exit ⟨rfl,ρ,Ext.refl _ _ _,hs⟩
 |ret=>
  intro rd nn τ h x τ' h' ρ w a hrd he hs;cases he;exact wpIn_ret ⟨rfl,ρ,Ext.refl _ _ _,hs⟩
 |rangeFunc g ps assign body iha ihb=>
  intro rd nn τ h x τ' h' ρ w a hrd he hs;obtain rfl:rd=none:=hrd.resolve_right (by simp[noRF]);obtain⟨gf,b,hg,hBg,rfl,hττ,hcase⟩:=exec_range he;obtain rfl:τ=τ':=hττ.symm
  have hcg:=ev_cr hs.fr hs.hr.glob' hg
  obtain⟨ug,hug⟩: ∃u,a.eval g=u:=⟨_,rfl⟩;rw[hug]at hcg;obtain⟨Bb,rfl,hρb⟩:=clo_box hcg;obtain⟨hen,hback⟩:=hB gf hBg;refine wpIn_rangeFunc (fun fn _=>?_)
  obtain⟨rec,hrec⟩: ∃rec:LoopState→Loop,rec=fun st=>{state:=st,pending:=none,fn,tmps:=a.tmps,params:=ps,assign,body,defers:=w.heap.size}:=⟨_,rfl⟩
  obtain⟨W1,hW1⟩: ∃W1,(w.alloc (.deferred (some []))).alloc (.loop (rec .ready))=W1:=⟨_,rfl⟩
  have hL1:W1.heap[w.heap.size+1]?=some (.loop (rec .ready)):=by
   rw[←hW1];have:=World.alloc_heap_new (w.alloc (.deferred (some []))) (.loop (rec .ready));rwa [World.size_alloc]at this
  obtain⟨hrA,hxA⟩:=hs.hr.push (w':=w.alloc (.deferred (some []))) rfl ⟨rfl,rfl,rfl⟩;obtain⟨hrB,hxB⟩:=hrA.push (w':=W1) (by rw[←hW1];rfl) (by rw[←hW1];exact⟨rfl,rfl,rfl⟩)
  have hx1:=hxA.trans hxB
  have hK1:W1.heap[w.heap.size]?=some (.deferred (some [])):=by
   have:=hxB.keepo w.heap.size (by simp) (fun off ho=>by
    obtain⟨b',k',y,h1,h2,h3,h4⟩:=ho
    have:=hs.hr.lt h1;omega)
   rw[this];exact World.alloc_heap_new w _
  have hno: ∀B,w.heap.size≤B→ ∀off,¬Own ρ (view h) B off:=fun B hB off ho=>by
   obtain⟨b',k',y,h1,h2,h3,h4⟩:=ho;have:=hs.hr.lt h1;omega
  refine⟨w.heap.size+1,[{target:= .collected w.heap.size,args:= #[]}],W1,{target:= .fn (.func gf) #[.pointer (some ⟨Bb,0,none⟩)],args:= #[.func (.yield (w.heap.size+1)) #[] #[]]},W1,gf,
   #[.func (.yield (w.heap.size+1)) #[] #[]]++ #[.pointer (some ⟨Bb,0,none⟩)],W1,?_,?_,fun _ _=>trivial,?_,fun h=>?_,?_⟩
  ·rw[←hW1,hrec];exact run_enterLoop_outer _ _ _ _ _
  ·simp only[resolve,rangeCall,hug]
   simp[go_sem,hug]
  ·simp[invoke,go_sem,hen]
  ·simp[fw,Fence.wide]at h
  ·show CallsIn Fence.wide _ _ _ _ _ _
   -- behind the loop
   have fin: ∀(h2:H) (ρ2:Rho) (W2:World),Ext (Own ρ (view h)) ρ w (Own ρ2 (view h2)) ρ2 W2→HR E.G A ρ2 W2 (view h2)→W2.heap[w.heap.size+1]?=some (.loop (rec .ready))→W2.heap[w.heap.size]?=some (.deferred (some []))→
     (∀off,¬Own ρ2 (view h2) w.heap.size off)→h'=h2→ ∃jump w4,(Instr.endLoop (w.heap.size+1)).run E.P W2= .ok jump w4∧(match jump with
      |none=>Post E A N s0 ρ w h .normal τ h' .normal {a with defers:= [{target:= .collected w.heap.size,args:= #[]}]++a.defers} w4
      |some c=>c.wpIn (fw none) nn E.P (Post E A N s0 ρ w h .normal τ h') {a with defers:= [{target:= .collected w.heap.size,args:= #[]}]++a.defers} w4):=by
    rintro h2 ρ2 W2 hx2 hr2 hl2 hk2 ho2 rfl;have he:=run_endLoop (P:=E.P) hl2 (by rw[hrec];simp)
    refine⟨none,W2.putObj (w.heap.size+1) (.loop {rec .ready with state:= .exhausted}),by rw[hrec]at he ⊢;exact he,rfl,ρ2,hx2.putObj (by omega),hr2.putObj hl2 ⟨by simp,by simp⟩,fun t=>((hs.fr t).ext hx2).mono (fun _ _ h=>h) (keeps_putObj hl2 ⟨by simp,by simp⟩),hs.sz,?_⟩
    have hd:=hs.de.ext hx2
    refine⟨by have:=hd.1;simpa using this,?_,fun d hdm=>?_⟩
    ·rw[List.singleton_append,List.nodup_cons]
     refine⟨fun hm=>?_,hd.2.1⟩;obtain⟨D,e1,e2,e3,e4⟩:=hs.de.2.2 _ hm
     have:w.heap.size=D:=by simpa using e1
     have:=lt_of_get e3;omega
    ·have other: ∀D,D≠w.heap.size+1→W2.heap[D]?=some (.deferred (some []))→(W2.putObj (w.heap.size+1) (.loop {rec .ready with state:= .exhausted})).heap[D]?=some (.deferred (some [])):=fun D hD h=>by rw[World.putObj_heap_other hD];exact h
     rcases List.mem_cons.1 hdm with rfl|hdm
     ·exact⟨w.heap.size,rfl,hs.de.1,other _ (by omega) hk2,ho2⟩
     ·obtain⟨D,e1,e2,e3,e4⟩:=hd.2.2 _ hdm
      exact⟨D,e1,e2,other D (fun e=>by rw[e,hl2]at e3;cases e3) e3,e4⟩
   rcases hcase with⟨hnil,rfl⟩|⟨sz,l,tl,hlst,rfl,hln,hps,hpN,hlf,hna,hnb,hrounds⟩
   ·--nil:no round
    obtain⟨B',k',h1,h2,_,cs,e,fz,h3,_,h4⟩:=hrB.blk b _ hnil nofun;rw[hρb]at h1;cases h1
    have hcell:W1.cell? ⟨Bb,0,none⟩=some (.slice none 0 0):=by
     obtain⟨v,hv,hc⟩:=h4.get (j:=0) (y:= .nils) rfl;cases hc;rw[Array.getElem?_toList]at hv;simp[World.cell?,h3,hv]
    have:=hback (w.heap.size+1) Bb 0 (fun k W=>k=0∧W=W1) W1 (by omega) (fun k W ⟨_,hW⟩ _=>⟨none,0,by rw[hW];exact hcell⟩) (fun k W _ hk=>by omega) ⟨rfl,rfl⟩
    refine CallsIn.mono (callsIn_wide.2 (callsIn_wide.1 this)) ?_
    rintro e W2 ⟨⟨v,rfl⟩,_,rfl⟩;exact fin _ ρ _ hx1 hrB hL1 hK1 (hno _ (Nat.le_refl _)) rfl
   ·--the rounds
    obtain⟨hk,r1,r2,r3⟩:=rounds_spec hrounds;rw[backL_length]at r2
    have hbackl: ∀k,k<l.length→ ∃x,l[l.length-1-k]?=some x∧(backL l)[k]?=some (l.length-1-k,x):=fun k hk=>backL_get hk
    obtain⟨RS,hRS⟩: ∃RS:Nat→World→Prop,RS=fun k W=> ∃ρ2,Ext (Own ρ (view h)) ρ w (Own ρ2 (view (hk k))) ρ2 W∧HR E.G A ρ2 W (view (hk k))∧W.heap[w.heap.size+1]?=some (.loop (rec .ready))∧W.heap[w.heap.size]?=some (.deferred (some []))∧
      (∀off,¬Own ρ2 (view (hk k)) w.heap.size off)∧(∀off,¬Own ρ2 (view (hk k)) (w.heap.size+1) off):=⟨_,rfl⟩
    -- what the box holds
    have box: ∀k W ρ2,(hk k)[b]?=some (.var [.lst 1 l tl])→Ext (Own ρ (view h)) ρ w (Own ρ2 (view (hk k))) ρ2 W→HR E.G A ρ2 W (view (hk k))→ ∃base c,W.cell? ⟨Bb,0,none⟩=some (.slice base l.length c)∧
      ∀i y,l[i]?=some y→ ∃B o v,base=some ⟨B,o,none⟩∧W.cell? ⟨B,o+i,none⟩=some v∧CR (Forb A ρ2 (view (hk k))) ρ2 W v y:=by
     intro k W ρ2 hb hx hr;obtain⟨B',k',h1,h2,_,cs,e,fz,h3,_,h4⟩:=hr.blk b _ hb nofun;rw[hx.sub _ _ hρb]at h1;cases h1;obtain⟨v,hv,hc⟩:=h4.get (j:=0) (y:= .lst 1 l tl) rfl;rw[Array.getElem?_toList]at hv
     by_cases hvn: ∃b,v= .slice b 0 0
     ·obtain⟨b0,rfl⟩:=hvn
      have hl0:l.length=0:=by
       cases hc with
       |lst0=>rfl
       |lst _ hn=>exact hn.symm
      exact⟨b0,0,by simp[World.cell?,h3,hv,hl0],fun i y hy=>by have:=lt_of_getl hy;omega⟩
     obtain⟨B,o,c,cs2,e2,fz2,rfl,g1,g2,g3,_⟩:=hc.lst_inv (.inl fun b e=>hvn ⟨b,e⟩);refine⟨some ⟨B,o,none⟩,c,by simp[World.cell?,h3,hv],fun i y hy=>?_⟩
     have hleaf:=List.all_eq_true.1 hlf y (List.mem_of_getElem? hy)
     have hyc:y.cells= [y]:=leaf_cells hleaf;have hf:=flat_get g3.1 hy (j:=0) (by omega);rw[hyc]at hf;simp only[Nat.mul_one,Nat.add_zero,List.getElem?_cons_zero]at hf;obtain⟨u,hu,hcu⟩:=g3.2.get hf;rw[List.getElem?_take]at hu;split at hu
     ·rw[List.getElem?_drop,Array.getElem?_toList]at hu
      exact⟨B,o,u,rfl,by simp[World.cell?,g1,hu],hcu⟩
     ·cases hu
    have:=hback (w.heap.size+1) Bb l.length RS W1 hln ?_ ?_ ?_
    ·refine CallsIn.mono (callsIn_wide.2 (callsIn_wide.1 this)) ?_
     rintro e W2 ⟨⟨v,rfl⟩,hJ⟩;rw[hRS]at hJ;obtain⟨ρ2,g1,g2,g3,g4,g5,g6⟩:=hJ;exact fin _ ρ2 _ g1 g2 g3 g4 g5 r2.symm
    ·--the box
     intro k W hJ hcond;rw[hRS]at hJ;obtain⟨ρ2,g1,g2,_⟩:=hJ
     have hbk:(hk k)[b]?=some (.var [.lst 1 l tl]):=by
      rcases hcond with hlt|rfl
      ·obtain⟨x,_,hx⟩:=hbackl k hlt
       exact(r3 k _ x hx).1
      ·rw[r1];exact hlst
     obtain⟨base,c,hc,_⟩:=box k W ρ2 hbk g1 g2;exact⟨base,c,hc⟩
    ·--one round
     intro k W hJ hlt;rw[hRS]at hJ;obtain⟨ρ2,g1,g2,g3,g4,g5,g6⟩:=hJ;obtain⟨x,hxl,hx⟩:=hbackl k hlt;obtain⟨hbk,τ1,h1,τ2,hga,hgb⟩:=r3 k _ x hx;obtain⟨base,c,hc,hel⟩:=box k W ρ2 hbk g1 g2;obtain⟨B,o,v,rfl,hv,hcv⟩:=hel _ x hxl;refine⟨B,o,c,v,hc,hv,?_⟩;have hlW:w.heap.size+1<W.heap.size:=lt_of_get g3;have hy:=run_yield (P:=E.P) (args:= #[.int .i64 ((l.length-1-k:Nat):Int),v]) g3 (by rw[hrec];simp[hps]);rw[hrec]at hy
     have hst0:St E A ρ2 W {tmps:=(ps.zip #[.int .i64 ((l.length-1-k:Nat):Int),v]).foldl (fun t (p,v)=>t.setIfInBounds p v) a.tmps,defers:= []} (setPs τ ps.toList [.int .i64 ((l.length-1-k:Nat):Int),x]) (view (hk k)) N s0:=by
      have hf0:=hs.fr.ext g1
      obtain⟨p1,p2,rfl⟩: ∃p1 p2,ps= #[p1,p2]:=by
       obtain⟨pl⟩:=ps
       match pl,hps with
       | [p1,p2],_=>exact⟨p1,p2,rfl⟩
      simp only[List.all_cons,List.all_nil,Bool.and_true,Bool.and_eq_true,decide_eq_true_eq]at hpN
      have hz:(#[p1,p2].zip #[Value.int .i64 ((l.length-1-k:Nat):Int),v])= #[(p1, .int .i64 ((l.length-1-k:Nat):Int)),(p2,v)]:=by simp
      refine⟨g2,?_,?_,DeOK.nil (Nat.le_trans hs.de.1 g1.size)⟩
      ·rw[hz]
       have f1:=hf0.put (a:=a) hs.sz (dst:=some p1) (v:= .int .i64 ((l.length-1-k:Nat):Int)) (y:= .int .i64 ((l.length-1-k:Nat):Int)) (.int _ _) (τ':=upd τ p1 (.int .i64 ((l.length-1-k:Nat):Int))) (by simp[putA,hpN.1]);exact f1.put (N:=N) (a:=a.put (some p1) (.int .i64 ((l.length-1-k:Nat):Int))) (by rw[put_size];exact hs.sz) (dst:=some p2) hcv (by simp[putA,hpN.2,setPs])
      ·rw[hz];simp[hs.sz]
     refine⟨fn,_,assign,body,hy,roundIn_of_wpIn (F:=Fence.wide) trivial (wpIn_mono (iha (some (w.heap.size+1)) 0 _ _ _ _ _ ρ2 W _ (.inr hna) hga hst0) ?_)⟩;rintro e a1 Wa ⟨rfl,ρ3,hx3,hs3⟩
     have k3:Wa.heap[w.heap.size+1]?=some (.loop (rec .ready)):=by rw[hx3.keepo _ hlW g6];exact g3
     have k4:Wa.heap[w.heap.size]?=some (.deferred (some [])):=by rw[hx3.keepo _ (by omega) g5];exact g4
     have k5: ∀off,¬Own ρ3 (view h1) w.heap.size off:=fun off ho=>by
      rcases hx3.new _ _ ho with h|h
      ·exact g5 off h
      ·omega
     have k6: ∀off,¬Own ρ3 (view h1) (w.heap.size+1) off:=fun off ho=>by
      rcases hx3.new _ _ ho with h|h
      ·exact g6 off h
      ·omega
     have hbeg:=run_beginRound (P:=E.P) k3 (by rw[hrec]);refine⟨_,hbeg,?_⟩;have hlt2:w.heap.size+1<Wa.heap.size:=lt_of_get k3
     have hst3:St E A ρ3 (Wa.putObj (w.heap.size+1) (.loop {rec .ready with state:= .busy})) a1 τ1 (view h1) N s0:=by
      refine⟨hs3.hr.putObj k3 ⟨by simp,by simp⟩,fun t=>(hs3.fr t).mono (fun _ _ h=>h) (keeps_putObj k3 ⟨by simp,by simp⟩),hs3.sz,by simpa using hs3.de.1,hs3.de.2.1,fun d hd=>?_⟩;obtain⟨D,e1,e2,e3,e4⟩:=hs3.de.2.2 d hd;exact⟨D,e1,e2,by rw[World.putObj_heap_other (fun e=>by rw[e,k3]at e3;cases e3)];exact e3,e4⟩
     refine wpIn_mono (ihb (some (w.heap.size+1)) 0 _ _ _ _ _ ρ3 _ a1 (.inr hnb) hgb hst3) ?_
     rintro e a4 Wb ⟨rfl,ρ4,hx4,hs4⟩;have hsame:(Wa.putObj (w.heap.size+1) (.loop {rec .ready with state:= .busy})).heap[w.heap.size+1]?=some (.loop {rec .ready with state:= .busy}):=World.putObj_heap_same hlt2
     have m3:Wb.heap[w.heap.size+1]?=some (.loop {rec .ready with state:= .busy}):=by rw[hx4.keepo _ (by simpa using hlt2) k6];exact hsame
     have m4:Wb.heap[w.heap.size]?=some (.deferred (some [])):=by
      rw[hx4.keepo _ (by simp;omega) k5,World.putObj_heap_other (by omega)];exact k4
     have hend:=run_endRound (P:=E.P) none m3;refine⟨_,_,hend,rfl,?_⟩;rw[hRS];refine⟨ρ4,((((g1.trans hx3).putObj (by omega)).trans hx4).putObj (by omega)),hs4.hr.putObj m3 ⟨by simp,by simp⟩,?_,?_,fun off ho=>?_,fun off ho=>?_⟩
     ·rw[World.putObj_heap_same (lt_of_get m3),hrec];simp
     ·rw[World.putObj_heap_other (by omega)];exact m4
     ·rcases hx4.new _ _ ho with h|h
      ·exact k5 off h
      ·simp at h;omega
     ·rcases hx4.new _ _ ho with h|h
      ·exact k6 off h
      ·simp at h;omega
    ·--ahead of the rounds
     rw[hRS];exact⟨ρ,by rw[r1];exact hx1,by rw[r1];exact hrB,hL1,hK1,by rw[r1];exact hno _ (Nat.le_refl _),by rw[r1];exact hno _ (by omega)⟩
 |_=>intro rd nn τ h x τ' h' ρ w a hrd he hs;cases he
theorem loadA_addr{P:Program}{h:H}{t:TypeId}{p y:AV}(hl:loadA P h t p= .ok y){F:Area}{ρ:Rho}{w:World}{v:Value}(hc:CR F ρ w v p): ∃ad,v= .pointer (some ad):=by
 cases hc<;>first|exact⟨_,rfl⟩|cases hl
def resOf(tmps:Array Value):ResultVar→Sem Value
 | .tmp t=>pure (tmps.getD t Go.undef)
 | .cell a t=>do loadVar t (←asAddr (tmps.getD a Go.undef))
theorem resOf_tmp(tmps:Array Value)(t:Tmp):resOf tmps (.tmp t)=pure (tmps.getD t Go.undef):=rfl
theorem resOf_cell(tmps:Array Value)(a:Tmp)(t:TypeId):resOf tmps (.cell a t)=(do loadVar t (←asAddr (tmps.getD a Go.undef))):=rfl
theorem results_eq(fn:Func)(tmps:Array Value):results fn tmps=(do let vs←fn.results.mapM (resOf tmps);pure (if h:vs.size=1 then vs[0]else .tuple vs)):=by
 unfold results
 congr 1
theorem resA_run{A:Area}{ρ:Rho}{w:World}{tmps:Array Value}{τ:Fr}{h:H}(hr:HR E.G A ρ w (view h))(hf:FRel (Forb A ρ (view h)) ρ w tmps τ): ∀{rs:List ResultVar} {ys:List AV},resA E τ h rs= .ok ys→
  ∃vs,(rs.mapM (resOf tmps)).run E.P w= .ok vs w∧CRs (Forb A ρ (view h)) ρ w vs ys
 | [],ys,hy=>by cases hy;exact⟨[],rfl, .nil⟩
 | .tmp t::rs,ys,hy=>by
   obtain⟨u,hu,hy⟩:=R.bind_ok hy;obtain⟨us,hus,hy⟩:=R.bind_ok hy;cases hy;obtain⟨vs,h1,h2⟩:=resA_run hr hf hus;have hft:=ev_cr (a:={tmps:=tmps,defers:= []}) hf hr.glob' hu;exact⟨tmps.getD t Go.undef::vs,by simp only[List.mapM_cons,Sem.run_bind,resOf_tmp,Sem.run_pure,Result.andThen_ok,h1], .cons hft h2⟩
 | .cell b t::rs,ys,hy=>by
   obtain⟨u,hu,hy⟩:=R.bind_ok hy;obtain⟨us,hus,hy⟩:=R.bind_ok hy;cases hy;obtain⟨vs,h1,h2⟩:=resA_run hr hf hus
   have hfb:=(hf b).resolve_left fun⟨sz,l,e⟩=>by rw[e]at hu;cases hu
   obtain⟨r,h3,h4⟩:=loadA_run (P:=E.P) hu hr (fun _ _=>rfl) hfb;obtain⟨ad,had⟩:=loadA_addr hu hfb;rw[had]at h3
   have h5:(loadVar t ad).run E.P w= .ok r w:=by simpa [Instr.loadAt,Instr.sureAddr]using h3
   refine⟨r::vs,?_, .cons h4 h2⟩;rw[List.mapM_cons]
   have h6:(asAddr (tmps.getD b Go.undef)).run E.P w= .ok ad w:=by rw[had];rfl
   simp only[resOf_cell,Sem.run_bind,h6,Sem.run_pure,Result.andThen_ok,h5,h1]
theorem init_frame{F:Area}{ρ:Rho}{w:World}{vs:Array Value}{args:List AV}(h:CRs F ρ w vs.toList args)(n:Nat):FRel F ρ w (vs++Array.replicate (n-vs.size) Go.undef) (initFr args):=by
 intro i
 have hl:vs.size=args.length:=by simpa using h.1
 simp only[initFr,Array.getD_eq_getD_getElem?,List.getD_eq_getElem?_getD]
 rcases Nat.lt_or_ge i vs.size with hi|hi
 ·rw[Array.getElem?_append_left hi]
  have h1:args[i]?=some args[i]:=List.getElem?_eq_getElem (by omega);obtain⟨v,hv,hc⟩:=h.get h1;rw[Array.getElem?_toList]at hv;rw[h1,hv];exact .inr hc
 ·rw[Array.getElem?_append_right hi,List.getElem?_eq_none (by omega)]
  have:((Array.replicate (n-vs.size) Go.undef)[i-vs.size]?).getD Go.undef=Go.undef:=by
   rw[Array.getElem?_replicate];split<;>rfl
  rw[this];exact .inr undef_cr
theorem leaves_ok{A:Area}{fn:Func}{ρ:Rho}{w:World}{O:Area}{ρ':Rho}{g:View}{tmps:Array Value}{τ:Fr}{R:Ending→World→Prop}{n:Nat}
  (fin: ∀w',HR E.G A ρ' w' g→FRel (Forb A ρ' g) ρ' w' tmps τ→Ext O ρ w (Own ρ' g) ρ' w'→ ∃v,(results fn tmps).run E.P w'= .ok v w'∧R (.returned v) w'):
  ∀(ds:List Deferred) (w':World),DeOK w.heap.size ds w' (Own ρ' g)→HR E.G A ρ' w' g→FRel (Forb A ρ' g) ρ' w' tmps τ→Ext O ρ w (Own ρ' g) ρ' w'→LeavesInM Fence.wide n E.P fn tmps R ds .returning w':=by
 intro ds
 induction ds with
 |nil=>intro w' _ hr hf hx;exact fin w' hr hf hx
 |cons d ds ih=>
  intro w' hd hr hf hx;obtain⟨D,rfl,h2,h3,h4⟩:=hd.2.2 d (List.mem_cons_self ..);refine⟨by simp, .inl ⟨D,_,rfl,run_takeDeferred h3,ih _ ⟨by simpa using hd.1,(List.nodup_cons.1 hd.2.1).2,fun d' hd'=>?_⟩ (hr.putObj h3 ⟨by simp,by simp⟩) (fun t=>(hf t).mono (fun _ _ h=>h) (keeps_putObj h3 ⟨by simp,by simp⟩)) (hx.putObj h2)⟩⟩;obtain⟨D',rfl,k2,k3,k4⟩:=hd.2.2 d' (List.mem_cons_of_mem _ hd')
  have hne:D≠D':=fun h=>(List.nodup_cons.1 hd.2.1).1 (h▸hd')
  refine⟨D',rfl,k2,?_,k4⟩;simp only[World.putObj];rw[Array.getElem?_setIfInBounds_ne hne];exact k3
theorem acall_ok(hS:Smet E.P E.S)(hC:COK E)(hB:BOK E)(hmix:E.P.follows .mixedOrders=true): ∀n,CallOK E (acall E n):=by
 intro n
 induction n with
 |zero=>intro f args h r h' hc;cases hc
 |succ n ih=>
  intro f args h r h' hc A ρ w vs hr hargs;simp only[acall]at hc
  cases hfn:E.P.funcs[f]? with
  |none=>simp [hfn]at hc
  |some fn=>
   simp only[hfn]at hc
   cases hb:fn.body with
   |none=>simp [hb]at hc
   |some c=>
    simp only[hb]at hc;split at hc
    ·cases hc
    ·rename_i hname
     refine⟨fun W=>?_,?_⟩
     ·unfold callFunc
      simp only[Sem.run_bind,run_program,Result.andThen_ok,hfn];rw[if_neg hname];simp[hb]
     ·cases he:exec E f (acall E n) (max fn.ntmps args.length) c (initFr args) h with
      |no s=>rw [he]at hc;cases hc
      |ok res=>
       obtain⟨x,τ,h1⟩:=res
       have hl:vs.size=args.length:=by simpa using hargs.1
       have hst:St E A ρ w {tmps:=vs++Array.replicate (fn.ntmps-vs.size) Go.undef,defers:= []} (initFr args) (view h) (max fn.ntmps args.length) w.heap.size:=
        ⟨hr,init_frame hargs fn.ntmps,by simp;omega,DeOK.nil (Nat.le_refl _)⟩
       have hw:=exec_wp hS hC hB ih hmix c none 0 (initFr args) h x τ h1 ρ w _ (.inl rfl) he hst
       rw[he]at hc;refine callsIn_wide.1 (callsIn_of_wp_marks (F:=Fence.wide) (n:=0) hfn hb trivial (wpIn_mono hw ?_) rfl);rintro e a' w2 ⟨rfl,ρ',hx2,hst2⟩
       have fin: ∀{r0:AV×H} (w':World),HR E.G A ρ' w' (view h1)→FRel (Forb A ρ' (view h1)) ρ' w' a'.tmps τ→Ext (Own ρ (view h)) ρ w (Own ρ' (view h1)) ρ' w'→((resA E τ h1 fn.results.toList).bind fun vs=>R.ok (match vs with| [v]=>v|vs=> .tup vs,h1))=R.ok r0→
         ∃v,(results fn a'.tmps).run E.P w'= .ok v w'∧(∃ρ',Ext (Own ρ (view h)) ρ w (Own ρ' (view h1)) ρ' w'∧HR E.G A ρ' w' (view h1)∧CR (Forb A ρ' (view h1)) ρ' w' v r0.1)∧r0.2=h1:=by
        intro r0 w' hr' hf' hx hc;obtain⟨ys,hys,hc⟩:=R.bind_ok hc;cases hc;obtain⟨us,h2,h3⟩:=resA_run hr' hf' hys;refine⟨if h:us.length=1 then us[0]else .tuple us.toArray,?_,⟨ρ',hx,hr',?_⟩,rfl⟩
        ·rw[results_eq,Sem.run_bind,Array.mapM_eq_mapM_toList,Sem.run_map,h2]
         simp only[Result.andThen_ok,Sem.run_pure]
         congr 1
        ·cases ys with
         |nil=>
          obtain rfl:=List.eq_nil_of_length_eq_zero h3.1;exact .tup_of .nil
         |cons y ys=>
          cases us with
          |nil=>have:=h3.1;simp at this
          |cons u us=>
           cases ys with
           |nil=>
            obtain rfl:us= []:=by have:=h3.1;simpa using this
            simpa using h3.head
           |cons y2 ys=>
            have hlen: ¬(u::us).length=1:=by have:=h3.1;simp at this ⊢;intro e;simp[e]at this
            rw[dif_neg hlen];exact .tup_of (by simpa using h3)
       cases x with
       |normal=>
        simp only at hc;refine leaves_ok (fun w' hr' hf' hx'=>?_) a'.defers w2 hst2.de hst2.hr hst2.fr hx2;obtain⟨v,k1,⟨ρ2,k2,k3,k4⟩,k5⟩:=fin w' hr' hf' hx' hc;obtain rfl:h'=h1:=k5;exact⟨v,k1,v,ρ2,rfl,k2,k3,k4⟩
       |ret=>
        simp only at hc;refine leaves_ok (fun w' hr' hf' hx'=>?_) a'.defers w2 hst2.de hst2.hr hst2.fr hx2;obtain⟨v,k1,⟨ρ2,k2,k3,k4⟩,k5⟩:=fin w' hr' hf' hx' hc;obtain rfl:h'=h1:=k5;exact⟨v,k1,v,ρ2,rfl,k2,k3,k4⟩
       |exit i=>cases hc
end
end Go.Proofs.YtaooangghieljaaGreatDoor.AM
namespace Go.Proofs.YtaooangghieljaaGreatDoor.AM
set_option linter.unusedSimpArgs false
set_option linter.unusedSectionVars false
set_option linter.unusedVariables false
def rho0:Rho:=fun _=>none
def area0:Area:=fun _ _=>False
abbrev F0:Area:=Forb area0 rho0 (view [])
theorem hr0{G:Nat→Option (List AV)}{w:World}(hg: ∀i cs,G i=some cs→CR F0 rho0 w (.pointer (some ⟨i,0,none⟩)) (.fp cs 0)):HR G area0 rho0 w (view []):=
 ⟨fun b h=>rfl,(fun b blk h=>by simp[view]at h),(fun b h=>by simp[view]at h),(fun b b' B k k' x x' h=>by cases h),(fun B off h=>False.elim h),hg⟩
theorem below_of{ρ':Rho}{h':H}{w w':World}(h:Ext (Own rho0 (view [])) rho0 w (Own ρ' (view h')) ρ' w'):RowKit.Below w.heap.size w w':=
 ⟨h.st.1,h.st.2.1,h.st.2.2,h.size,fun k hk=>h.keepo k hk (fun off=>by rintro⟨b,k,y,hb,_⟩;cases hb)⟩
theorem bok_none{E:Env}(h: ∀f,E.B f=false):BOK E:=fun f hf=>by rw[h f]at hf;cases hf
theorem cok_none{E:Env}(h: ∀f args,E.C f args=none):COK E:=fun f args hh r h' hc=>by simp[h]at hc
end Go.Proofs.YtaooangghieljaaGreatDoor.AM
