-- SQUEEZED
/- The abstract machine: a range over a function that hands out a slice from its end. -/
import Derived.Test.YtcocmlmligjjcaaGreatDoorA22
import Derived.RangeFuncWrites
import Derived.RangeFuncLeaves
import Derived.Below
namespace Go.Proofs.YtcocmlmligjjcaaGreatDoor.AM
set_option linter.unusedSectionVars false
set_option linter.unusedVariables false
set_option linter.unusedSimpArgs false
def BackOK(P:Program)(gf:FuncId):Prop:=
 (∀args w,(callFunc gf args).run P w= .ok (.enter gf args) w)∧
 ∀(l bx n:Nat) (J:Nat→World→Prop) (w:World),n≤1000000→
  (∀k W,J k W→(k<n∨k=0)→ ∃a c,W.cell? ⟨bx,0,none⟩=some (.slice a n c))→
  (∀k W,J k W→k<n→ ∃B o c v,W.cell? ⟨bx,0,none⟩=some (.slice (some ⟨B,o,none⟩) n c)∧W.cell? ⟨B,o+(n-1-k),none⟩=some v∧
   YieldAt Fence.wide 0 P l #[.int .i64 ((n-1-k:Nat):Int),v] W fun e W'=>e= .returned (.bool true)∧J (k+1) W')→
  J 0 w→CallsIn Fence.wide 0 P gf #[.func (.yield l) #[] #[], .pointer (some ⟨bx,0,none⟩)] w fun e W'=>(∃v,e= .returned v)∧J n W'
def BOK(E:Env):Prop:= ∀gf,E.B gf=true→BackOK E.P gf
theorem rounds_spec{ga gb:Fr→H→R (X×Fr×H)}{τ:Fr}{ps:List Nat}{b:Nat}{s:AV}: ∀{l:List (Nat×AV)} {h h':H},rounds ga gb τ ps b s l h= .ok h'→
  ∃hk:Nat→H,hk 0=h∧hk l.length=h'∧ ∀(k:Nat) (i:Nat) (x:AV),l[k]?=some (i,x)→(hk k)[b]?=some (.var [s])∧ ∃τ1 h1 τ2,ga (setPs τ ps [.int .i64 i,x]) (hk k)= .ok (.normal,τ1,h1)∧gb τ1 h1= .ok (.normal,τ2,hk (k+1))
 | [],h,h',hr=>by cases hr;exact⟨fun _=>h,rfl,rfl,fun k i x hx=>by simp at hx⟩
 |(i,x)::rest,h,h',hr=>by
  simp only[rounds]at hr;split at hr
  ·rename_i hb
   split at hr
   ·rename_i τ1 h1 hga
    split at hr
    ·rename_i τ2 h2 hgb
     obtain⟨hk,k1,k2,k3⟩:=rounds_spec hr
     refine⟨fun k=>match k with|0=>h|k+1=>hk k,rfl,k2,fun k i' x' hx=>?_⟩
     cases k with
     |zero=>
      simp at hx;obtain⟨rfl,rfl⟩:=hx;exact⟨sameBlk_eq hb,τ1,h1,τ2,hga,by simp only[k1];exact hgb⟩
     |succ k=>
      obtain⟨g1,g2⟩:=k3 k i' x' (by simpa using hx);exact⟨g1,g2⟩
    ·cases hr
    ·cases hr
   ·cases hr
   ·cases hr
  ·cases hr
theorem backL_length(l:List AV):(backL l).length=l.length:=by simp[backL]
theorem backL_get{l:List AV}{k:Nat}(hk:k<l.length): ∃x,l[l.length-1-k]?=some x∧(backL l)[k]?=some (l.length-1-k,x):=by
 have hi:l.length-1-k<l.length:=by omega
 refine⟨l[l.length-1-k],List.getElem?_eq_getElem hi,?_⟩;unfold backL
 have hz:((List.range l.length).zip l).length=l.length:=by simp
 rw[List.getElem?_reverse (by rw[hz];exact hk),hz];rw[List.getElem?_zip_eq_some];exact⟨by simp[hi],List.getElem?_eq_getElem hi⟩
def isRec(o:Obj):Prop:=(∀cs e fz,o≠ .cells cs e fz)∧ ∀es c,o≠ .map es c
theorem Ext.putObj{O O':Area}{ρ ρ':Rho}{w w1:World}(hx:Ext O ρ w O' ρ' w1){D:Nat}{o':Obj}(hD:w.heap.size≤D):Ext O ρ w O' ρ' (w1.putObj D o'):=
 have hs:(w1.putObj D o').heap.size=w1.heap.size:=by simp[World.putObj]
 have hk: ∀B,B<w.heap.size→(w1.putObj D o').heap[B]?=w1.heap[B]?:=fun B hB=>by
  simp only[World.putObj];rw[Array.getElem?_setIfInBounds_ne (by omega)]
 ⟨hx.sub,hx.new,hx.newρ,hx.st,by rw[hs];exact hx.size,fun B cs e fz hb=>by
  obtain⟨cs',fz',k1,k2,k3⟩:=hx.keep B cs e fz hb
  exact⟨cs',fz',by rw[hk B (lt_of_get hb)];exact k1,k2,k3⟩,fun B hB ho=>by rw[hk B hB];exact hx.keepo B hB ho⟩
theorem keeps_putObj{F:Area}{w:World}{D:Nat}{o o':Obj}(hD:w.heap[D]?=some o)(ho:isRec o):Keeps F w F (w.putObj D o'):=by
 intro B cs e fz hb
 have hne:D≠B:=fun h=>by rw[h,hb]at hD;cases hD;exact ho.1 _ _ _ rfl
 refine⟨cs,fz,?_,rfl,fun off _ hF=>⟨rfl,hF⟩⟩;simp only[World.putObj];rw[Array.getElem?_setIfInBounds_ne hne];exact hb
theorem HR.putObj{G:Nat→Option (List AV)}{A:Area}{ρ:Rho}{w:World}{g:View}(hr:HR G A ρ w g){D:Nat}{o o':Obj}(hD:w.heap[D]?=some o)(ho:isRec o):HR G A ρ (w.putObj D o') g:=by
 have hk:=keeps_putObj (F:=Forb A ρ g) (o':=o') hD ho
 have hs:(w.putObj D o').heap.size=w.heap.size:=by simp[World.putObj]
 have hne: ∀B x,w.heap[B]?=some x→ ¬isRec x→(w.putObj D o').heap[B]?=w.heap[B]?:=fun B x hb hx=>by
  have:D≠B:=fun h=>by rw[h,hb]at hD;cases hD;exact hx ho
  simp only[World.putObj];rw[Array.getElem?_setIfInBounds_ne this]
 refine⟨hr.dom,fun b x hb hx=>?_,hr.hole,hr.sep,fun B off ha=>by rw[hs];exact hr.avo B off ha,fun i cs hi=>(hr.glob i cs hi).mono (fun _ _ h=>h) hk⟩;obtain⟨B,k,h1,h2,h3⟩:=hr.blk b x hb hx;refine⟨B,k,h1,by rw[hs];exact h2,?_⟩
 cases x with
 |var l=>obtain⟨_,cs,e,fz,h4,_⟩:=id h3;exact h3.mono (fun _ _ h=>h) hk (hne B _ h4 (fun h=>h.1 _ _ _ rfl))
 |arr sz l=>obtain⟨_,cs,e,fz,h4,_⟩:=id h3;exact h3.mono (fun _ _ h=>h) hk (hne B _ h4 (fun h=>h.1 _ _ _ rfl))
 |map es=>obtain⟨_,ents,clock,h4,_⟩:=id h3;exact h3.mono (fun _ _ h=>h) hk (hne B _ h4 (fun h=>h.2 _ _ rfl))
 |tail=>obtain⟨cs,e,fz,h4,_⟩:=id h3;exact h3.mono (fun _ _ h=>h) hk (hne B _ h4 (fun h=>h.1 _ _ _ rfl))
 |dead=>trivial
 |hole=>trivial
end Go.Proofs.YtcocmlmligjjcaaGreatDoor.AM
namespace Go.Proofs.YtcocmlmligjjcaaGreatDoor.AM
set_option linter.unusedSectionVars false
set_option linter.unusedVariables false
set_option linter.unusedSimpArgs false
section
variable {E:Env} {s0 nn:Nat} {rd:Option Nat} {f:FuncId} {call:CallF} {N:Nat} {ops:Array Oper} {base:Nat} {T:Nat→Fr} {Hh:Nat→H} {ms:List Nat}
theorem closed_set{listed:Array Bool}(hc:Closed ops (Done listed)){j:Nat}(hj:j<listed.size)(hr: ∀e∈(opAt ops j).after,Region.binds .any e=true→Done listed e.on):Closed ops (Done (listed.setIfInBounds j true)):=by
 intro k hk hd e he hb
 rw[done_set hj]at hd ⊢
 rcases hd with rfl|hd
 ·exact .inr (hr e he hb)
 ·exact .inr (hc k hk hd e he hb)
theorem slots_step(hR:Run E f call N ops base T Hh)(hD:DrawOk E ops ms){listed:Array Bool}(hsz:listed.size=ops.size)(hcl:Closed ops (Done listed)){j:Nat}(hj:j<ops.size)(hnd: ¬Done listed j){F:Area}{ρ:Rho}{w:World}{a:Act}{v:Value}{y:AV}
  (hN:a.tmps.size=N) (hold: ∀t q,q≤ops.size→(∀i,i<q→(opAt ops i).dst=some t→Done listed i)→(∀i,q≤i→i<ops.size→(opAt ops i).dst=some t→ ¬Done listed i)→TR F ρ w (a.tmps.getD t Go.undef) (T q t))
  (hv:CR F ρ w v y) (hp:putA N (T j) (opAt ops j).dst y= .ok (T (j+1))):
  ∀t q,q≤ops.size→(∀i,i<q→(opAt ops i).dst=some t→Done (listed.setIfInBounds j true) i)→(∀i,q≤i→i<ops.size→(opAt ops i).dst=some t→ ¬Done (listed.setIfInBounds j true) i)→TR F ρ w ((a.put (opAt ops j).dst v).tmps.getD t Go.undef) (T q t):=by
 intro t q hq h1 h2
 have hjl:j<listed.size:=by omega
 by_cases ht:(opAt ops j).dst=some t
 ·have hjq:j<q:=by
   rcases Nat.lt_or_ge j q with h|h
   ·exact h
   ·exact absurd ((done_set hjl j).2 (.inl rfl)) (h2 j h hj ht)
  have hno: ∀i,j+1≤i→i<q→(opAt ops i).dst≠some t:=by
   intro i hi hiq hd
   have hdone:=(done_set hjl i).1 (h1 i hiq hd)
   rcases hdone with h|h
   ·omega
   ·exact hnd (hD.msk.closed hcl i (by omega) h j (hD.tt j i t (by omega) (by omega) (.inl ⟨ht, .inr hd⟩)))
  have hTq:=hR.slot (t:=t) (show j+1≤q by omega) hq hno
  rw[ht]at hp ⊢
  obtain⟨h3,h4⟩:=putA_self hp;rw[←hTq,h3]
  have hlt:t<a.tmps.size:=by rw[hN];exact h4
  simp only[Act.put,Array.getD_eq_getD_getElem?,Array.getElem?_setIfInBounds_self_of_lt hlt,Option.getD_some];exact .inr hv
 ·have hsame:(a.put (opAt ops j).dst v).tmps.getD t Go.undef=a.tmps.getD t Go.undef:=by
   cases hd:(opAt ops j).dst with
   |none=>rfl
   |some d=>
    have:d≠t:=fun e=>ht (by rw[hd,e])
    simp[Act.put,Array.getD_eq_getD_getElem?,Array.getElem?_setIfInBounds_ne this]
  rw[hsame];refine hold t q hq (fun i hi hd=>?_) (fun i hi hin hd hdone=>?_)
  ·rcases(done_set hjl i).1 (h1 i hi hd)with h|h
   ·rw[h]at hd;exact absurd hd ht
   ·exact h
  ·exact h2 i hi hin hd ((done_set hjl i).2 (.inr hdone))
theorem Masked.lt(hm:Masked ops ms): ∀n j,j<n→j<ops.size→ ∀i,(ms.getD j 0).testBit i=true→i<j:=by
 intro n
 induction n with
 |zero=>intro j h;omega
 |succ n ihn=>
  intro j hj' hjn' i hbt;obtain⟨e,he,hbi,hlt,hc⟩:=hm.bit j hjn' i hbt
  rcases hc with rfl|hc
  ·exact hlt
  ·have:=ihn e.on (by omega) (by omega) i hc;omega
theorem any_wp(hS:Smet E.P E.S)(hC:COK E)(hcall:CallOK E call)(hR:Run E f call N ops base T Hh)(hD:DrawOk E ops ms)
  (hreads: ∀j i,j<ops.size→i<ops.size→kindOf E (opAt ops j).op= .read→isO E (opAt ops i)=true→(ms.getD j 0).testBit i=false→(ms.getD i 0).testBit j=false→i≠j→readA E (T j) (Hh i) (opAt ops j)=readA E (T j) (Hh (i+1)) (opAt ops j))
  (hlater: ∀j i b,j<ops.size→i<ops.size→kindOf E (opAt ops j).op= .read→isAl E (opAt ops i)=true→j≤i→readDep E (T j) (opAt ops j)=some b→b≠idAt E ops base i)
  {A:Area} {ρ0:Rho} {w0:World} {Q:Exit→Act→World→Prop}
  (hQ: ∀ρ w a,Ext (Own ρ0 (view (Hh 0))) ρ0 w0 (Own ρ (view (Hh ops.size))) ρ w→St E A ρ w a (T ops.size) (view (Hh ops.size)) N s0→Q .normal a w):
  ∀(fuel:Nat) (listed:Array Bool) (ρ:Rho) (w:World) (a:Act) (p:Nat),listed.toList.count false=fuel→Inv E f N s0 ops base T Hh A listed ρ0 w0 ρ w a p→wpAnyIn (fw rd) nn E.P .any ops Q fuel listed a w:=by
 have fin: ∀(listed:Array Bool) (ρ:Rho) (w:World) (a:Act) (p:Nat),Inv E f N s0 ops base T Hh A listed ρ0 w0 ρ w a p→Region.ready .any ops listed= []→Q .normal a w:=by
  intro listed ρ w a p hI hr
  have hall:=all_done hI.size hD.msk hr
  have hI2:=hI.advTo hR (Nat.le_refl _) hI.le (fun i h1 h2=>by
   cases ho:isO E (opAt ops i)
   ·exact .inl rfl
   ·cases ha:isAl E (opAt ops i)
    ·have:=(hI.chain i h2 ho ha).1 (hall i h2);omega
    ·exact .inr ⟨rfl,hall i h2⟩)
  have hno: ∀i,¬Early E ops T listed ops.size i:=fun i h=>by have:=h.1;have:=h.2.1;omega
  have hEA: ∀B off,¬EA E ops base (Early E ops T listed ops.size) ρ B off:=fun B off ⟨i,k,h,_⟩=>hno i h
  have hP: ∀X:Area,Plus X (EA E ops base (Early E ops T listed ops.size) ρ)=X:=fun X=>funext fun B=>funext fun off=>propext ⟨fun h=>h.resolve_right (hEA B off), .inl⟩
  refine hQ ρ w a (by have:=hI2.ext;rw[hP]at this;exact this) ⟨by have:=hI2.hr;rw[hP]at this;exact this,fun t=>?_,hI2.sz,by have:=hI2.de;rw[hP]at this;exact this⟩;have:=hI2.slots t ops.size (Nat.le_refl _) (fun i hi _=>hall i hi) (fun i h1 h2=>by omega);rw[hP]at this;exact this
 intro fuel
 induction fuel with
 |zero=>
  intro listed ρ w a p hcnt hI
  have hready:Region.ready .any ops listed= []:=by
   refine List.eq_nil_iff_forall_not_mem.2 fun j hj=>?_
   obtain⟨h1,h2,_⟩:=mem_ready hI.size hj
   have hlt:j<listed.size:=by have:=hI.size;omega
   have:listed[j]=false:=by
    cases hb:listed[j]
    ·rfl
    ·exact absurd (by unfold Done;rw[Array.getElem?_eq_getElem hlt,hb]) h2
   have hm:false∈listed.toList:=by rw[←this,Array.mem_toList_iff];exact Array.getElem_mem hlt
   exact absurd hcnt (Nat.ne_of_gt (List.count_pos_iff.2 hm))
  exact⟨hready,fin listed ρ w a p hI hready⟩
 |succ fuel ih=>
  intro listed ρ w a p0 hcnt hI0;refine⟨fin listed ρ w a p0 hI0,fun j hj=>?_⟩;obtain⟨hjn,hnd,hrd⟩:=mem_ready hI0.size hj
  have hanc0: ∀i,(ms.getD j 0).testBit i=true→Done listed i:=fun i hb=>hD.msk.ready hI0.closed hjn hrd hb
  -- ahead of a store or a call the place goes up to it
  obtain⟨p,hI,hpj⟩: ∃p,Inv E f N s0 ops base T Hh A listed ρ0 w0 ρ w a p∧(isO E (opAt ops j)=true→isAl E (opAt ops j)=false→p=j):=by
   cases ho:isO E (opAt ops j)
   ·exact⟨p0,hI0,fun h=>by cases h⟩
   ·cases ha:isAl E (opAt ops j)
    ·have hp0:p0≤j:=by
      rcases Nat.lt_or_ge j p0 with h|h
      ·exact absurd ((hI0.chain j hjn ho ha).2 h) hnd
      ·exact h
     refine⟨j,hI0.advTo hR (by omega) hp0 (fun i h1 h2=>?_),fun _ _=>rfl⟩;cases hoi:isO E (opAt ops i)
     ·exact .inl rfl
     ·have hdi:=hanc0 i (hD.oo i j h2 hjn hoi ho ha)
      cases hai:isAl E (opAt ops i)
      ·have:=(hI0.chain i (by omega) hoi hai).1 hdi;omega
      ·exact .inr ⟨rfl,hdi⟩
    ·exact⟨p0,hI0,fun _ h=>by cases h⟩
  clear hI0
  have hjl:j<listed.size:=by have:=hI.size;omega
  have hcnt':(listed.setIfInBounds j true).toList.count false=fuel:=by
   have hb:listed.toList[j]?=some false:=by
    rw[Array.getElem?_toList,Array.getElem?_eq_getElem hjl];cases hb:listed[j]
    ·rfl
    ·exact absurd (by unfold Done;rw[Array.getElem?_eq_getElem hjl,hb]) hnd
   rw[Array.toList_setIfInBounds]
   have hjl':j<listed.toList.length:=by simpa using hjl
   have hbe:listed.toList[j]=false:=by rw[List.getElem?_eq_getElem hjl']at hb;exact Option.some.inj hb
   rw[List.count_set hjl'];simp[hbe,hcnt]
  have hanc: ∀i,(ms.getD j 0).testBit i=true→Done listed i:=hanc0;obtain⟨X,hX⟩: ∃X,X=Plus A (EA E ops base (Early E ops T listed p) ρ):=⟨_,rfl⟩
  have hslots:=hI.slots
  rw[←hX]at hslots
  have hhr:=hI.hr
  rw[←hX]at hhr
  -- the operands
  have hlook: ∀t,mentions ops (opAt ops j) t→TR (Forb X ρ (view (Hh p))) ρ w (a.tmps.getD t Go.undef) (T j t):=by
   intro t ht;refine hslots t j (by omega) (fun i hi hd=>hanc i (hD.tt i j t hi hjn (.inl ⟨hd,ht⟩))) (fun i hi hin hd hdone=>?_)
   rcases Nat.lt_or_ge j i with hlt|hge
   ·exact hnd (hD.msk.closed hI.closed i hin hdone j (hD.tt j i t hlt hin (.inr ⟨hd,ht⟩)))
   ·obtain rfl:i=j:=by omega
    exact hnd hdone
  obtain⟨qf,hqf⟩:=Classical.axiomOfChoice (fun t=>hI.least hD t)
  obtain⟨σ,hσ⟩: ∃σ:Fr,σ=fun t=>open Classical in if mentions ops (opAt ops j) t then T j t else T (qf t) t:=⟨_,rfl⟩
  have hσl: ∀t,t∈(opAt ops j).looksAt ops→T j t=σ t:=fun t ht=>by rw[hσ];simp[show mentions ops (opAt ops j) t from .inl ht]
  have hfr:FRel (Forb X ρ (view (Hh p))) ρ w a.tmps σ:=by
   intro t;rw[hσ]
   by_cases ht:mentions ops (opAt ops j) t
   ·simp only[ht,if_true];exact hlook t ht
   ·simp only[ht,if_false];exact hslots t (qf t) (hqf t).1 (hqf t).2.1 (hqf t).2.2
  have hwant:Region.wanted (opAt ops j) (yielded ops a.tmps)=wantA ops (T j) (opAt ops j):=by
   rw[want_eq hfr ops _ (by rw[←gtop_congr hσl];exact stepD_gtop (hR.step j hjn)),wantA_congr hσl]
  have hcl:=closed_set hI.closed hjl hrd
  have hsz':(listed.setIfInBounds j true).size=ops.size:=by simpa using hI.size
  -- the rest, behind an operation that sets no memory aside
  have next: ∀(v:Value) (w':World) (ρ':Rho) (y:AV) (p':Nat),p≤p'→p'≤ops.size→(isAl E (opAt ops j)=true→wantA ops (T j) (opAt ops j)=false)→
    (∀i,i<ops.size→isO E (opAt ops i)=true→isAl E (opAt ops i)=false→(Done (listed.setIfInBounds j true) i↔i<p'))→(p'=p∨(p'=j+1∧p=j∧isAl E (opAt ops j)=false))→
    Ext (Own ρ (view (Hh p))) ρ w (Own ρ' (view (Hh p'))) ρ' w'→HR E.G X ρ' w' (view (Hh p'))→CR (Forb X ρ' (view (Hh p'))) ρ' w' v y→putA N (T j) (opAt ops j).dst y= .ok (T (j+1))→
    wpAnyIn (fw rd) nn E.P .any ops Q fuel (listed.setIfInBounds j true) (a.put (opAt ops j).dst v) w':=by
   intro v w' ρ' y p' hpp hp' hw hbase hcase hx hr hv hput
   have hE:Early E ops T (listed.setIfInBounds j true) p'=Early E ops T listed p:=by
    funext i
    apply propext;constructor
    ·rintro⟨h1,h2,h3,h4,h5⟩
     refine⟨by omega,h2,h3,?_,h5⟩
     rcases(done_set hjl i).1 h4 with rfl|h
     ·rw[hw h3]at h5;cases h5
     ·exact h
    ·rintro⟨h1,h2,h3,h4,h5⟩
     refine⟨?_,h2,h3,(done_set hjl i).2 (.inr h4),h5⟩
     rcases hcase with h|⟨h,h',h''⟩
     ·omega
     ·rcases Nat.lt_or_ge p i with h6|h6
      ·omega
      ·have:i=j:=by omega
       subst this;rw[h'']at h3;cases h3
   refine ih _ ρ' w' _ p' hcnt' (hI.carry hR hpp hp' hE hx (by rw[←hX];exact hr) hsz' hcl hbase (fun i hi ha=>?_) ?_ (by rw[put_size];exact hI.sz) (put_defers ..))
   ·rcases hcase with h|⟨h,h',h''⟩
    ·exact(done_set hjl i).2 (.inr (hI.als i (by omega) ha))
    ·rcases Nat.lt_or_ge i p with h6|h6
     ·exact(done_set hjl i).2 (.inr (hI.als i h6 ha))
     ·exact(done_set hjl i).2 (.inl (by omega))
   ·rw[←hX]
    exact slots_step hR hD hI.size hI.closed hjn hnd hI.sz (fun t q h1 h2 h3=>(hslots t q h1 h2 h3).ext hx) hv hput
  unfold wpOpIn;rw[opAt_get hjn];simp only[hwant];cases hO:isO E (opAt ops j)
  ·--it makes and writes nothing
   have hna:=isO_isAl hO
   have hbase: ∀i,i<ops.size→isO E (opAt ops i)=true→isAl E (opAt ops i)=false→(Done (listed.setIfInBounds j true) i↔i<p):=by
    intro i hi ho ha;rw[done_set hjl];constructor
    ·rintro(rfl|h)
     ·rw[hO]at ho;cases ho
     ·exact(hI.chain i hi ho ha).1 h
    ·exact fun h=> .inr ((hI.chain i hi ho ha).2 h)
   have hnw:isAl E (opAt ops j)=true→wantA ops (T j) (opAt ops j)=false:=fun h=>by rw[hna]at h;cases h
   rcases stepA_inv (stepD_ot (hR.step j hjn) hna)with⟨hw,y,hop,hput⟩|⟨hw,hh,hput⟩
   ·rw[if_pos hw]
    rw[opA_congr (agree_of hσl)]at hop
    by_cases hk:kindOf E (opAt ops j).op= .read
    ·--it reads:all memory that is there is counted in
     obtain⟨K,k1,k2,k3,k4⟩:=hI.all hR ops.size (Nat.le_refl _)
     have hno:(fun i=>Early E ops T listed p i∧ops.size≤i)=fun _=>False:=funext fun i=>propext ⟨fun h=>by have:=h.1.2.1;omega,False.elim⟩
     have hP:Plus A (EA E ops base (fun _=>False) ρ)=A:=funext fun B=>funext fun off=>propext ⟨fun h=>h.resolve_right (fun⟨i,k,h,_⟩=>h), .inl⟩
     rw[hno,hP]at k1 k2;rw[←hX]at k2;unfold opA at hop;simp only[hk]at hop;obtain⟨y',hopr,hop2⟩:=R.bind_ok hop;clear hop
     have hop2:=congrArg Prod.fst (R.ok.inj hop2)
     simp only at hop2;subst hop2
     -- what is read at a place of the text is what is read here
     have hag:=agree_of hσl
     have hK:readA E σ K (opAt ops j)= .ok y':=by
      have hj:readA E (T j) (Hh j) (opAt ops j)= .ok y':=by
       have h1:=opA_congr (E:=E) (f:=f) (call:=call) (h:=Hh j) hag;unfold opA at h1;simp only[hk]at h1;rw[hopr]at h1;obtain⟨y2,h2,h3⟩:=R.bind_ok h1
       have h3:=congrArg Prod.fst (R.ok.inj h3)
       simp only at h3;rw[h2,h3]
      have hTK:readA E (T j) K (opAt ops j)=readA E σ K (opAt ops j):=by
       have h1:=opA_congr (E:=E) (f:=f) (call:=call) (h:=K) hag;unfold opA at h1;simp only[hk]at h1
       cases e1:readA E (T j) K (opAt ops j)with
       |no s1=>
        cases e2:readA E σ K (opAt ops j)with
        |no s2=>rw [e1,e2]at h1;simp only[R.bind]at h1;rw[R.no.inj h1]
        |ok v2=>rw [e1,e2]at h1;cases h1
       |ok v1=>
        cases e2:readA E σ K (opAt ops j)with
        |no s2=>rw [e1,e2]at h1;cases h1
        |ok v2=>rw [e1,e2]at h1;have:=congrArg Prod.fst (R.ok.inj h1);simp only at this;rw[this]
      rw[←hTK]
      have stepSame: ∀i,i<ops.size→isO E (opAt ops i)=true→(ms.getD j 0).testBit i=false→(ms.getD i 0).testBit j=false→readA E (T j) (Hh i) (opAt ops j)=readA E (T j) (Hh (i+1)) (opAt ops j):=fun i hi ho h1 h2=>
       hreads j i hjn hi hk ho h1 h2 (fun e=>by rw[e,hO]at ho;cases ho)
      have notAfter: ∀i,i<ops.size→Done listed i→(ms.getD i 0).testBit j=false:=fun i hi hd=>by
       cases hbit:(ms.getD i 0).testBit j
       ·rfl
       ·exact absurd (hD.msk.closed hI.closed i hi hd j hbit) hnd
      have notAhead: ∀i,¬Done listed i→(ms.getD j 0).testBit i=false:=fun i hd=>by
       cases hbit:(ms.getD j 0).testBit i
       ·rfl
       ·exact absurd (hanc i hbit) hd
      have upward: ∀i,i<j→i<ops.size→(ms.getD i 0).testBit j=false:=fun i hij hi=>by
       cases hbit:(ms.getD i 0).testBit j
       ·rfl
       ·have:=hD.msk.lt (i+1) i (by omega) hi j hbit;omega
      have downward: ∀i,j<i→(ms.getD j 0).testBit i=false:=fun i hij=>by
       cases hbit:(ms.getD j 0).testBit i
       ·rfl
       ·have:=hD.msk.lt (j+1) j (by omega) hjn i hbit;omega
      have chain: ∀{p q:Nat},p≤q→q≤ops.size→(∀i,p≤i→i<q→isO E (opAt ops i)=true→readA E (T j) (Hh i) (opAt ops j)=readA E (T j) (Hh (i+1)) (opAt ops j))→readA E (T j) (Hh p) (opAt ops j)=readA E (T j) (Hh q) (opAt ops j):=by
       intro p q
       induction q with
       |zero=>intro h _ _;obtain rfl:p=0:=by omega
              rfl
       |succ q ihq=>
        intro h hq hk2
        by_cases hpq:p=q+1
        ·rw[hpq]
        ·rw[ihq (by omega) (by omega) (fun i h1 h2=>hk2 i h1 (by omega))]
         cases ho:isO E (opAt ops q)
         ·rw[hR.quiet (by omega) ho]
         ·exact hk2 q (by omega) (by omega) ho
      have other: ∀i,i<ops.size→isAl E (opAt ops i)=true→(∀b,readDep E (T j) (opAt ops j)=some b→b≠idAt E ops base i)→readA E (T j) (Hh i) (opAt ops j)=readA E (T j) (Hh (i+1)) (opAt ops j):=fun i hi ha hne=>
       readA_dep (fun b hb=>hR.other hi ha (hne b hb))
      -- between the place and the read, at a block that none of the early ones made
      have mid: ∀i,i<ops.size→isO E (opAt ops i)=true→(∀m,Early E ops T listed p m→ ∀b,readDep E (T j) (opAt ops j)=some b→b≠idAt E ops base m)→(p≤i∧i<j∨j≤i∧i<p)→readA E (T j) (Hh i) (opAt ops j)=readA E (T j) (Hh (i+1)) (opAt ops j):=by
       intro i hi ho hne hcase
       have hij:i≠j:=fun e=>by rw[e,hO]at ho;cases ho
       rcases hcase with⟨h1,h2⟩|⟨h1,h2⟩
       ·by_cases hdi:Done listed i
        ·cases ha:isAl E (opAt ops i)
         ·have:=(hI.chain i hi ho ha).1 hdi;omega
         ·cases hwi:wantA ops (T i) (opAt ops i)
          ·rcases stepD_al (hR.step i hi) ha with⟨h3,_⟩|⟨_,h3,_⟩
           ·rw[hwi]at h3;cases h3
           ·rw[h3]
          ·exact other i hi ha (hne i ⟨h1,hi,ha,hdi,hwi⟩)
        ·exact stepSame i hi ho (notAhead i hdi) (upward i h2 hi)
       ·have hdi:Done listed i:=by
         cases ha:isAl E (opAt ops i)
         ·exact(hI.chain i hi ho ha).2 h2
         ·exact hI.als i h2 ha
        exact stepSame i hi ho (downward i (by omega)) (notAfter i hi hdi)
      by_cases hearly: ∃m b,Early E ops T listed p m∧readDep E (T j) (opAt ops j)=some b∧b=idAt E ops base m
      ·obtain⟨m,b,hm,hb,hbm⟩:=hearly
       obtain⟨v',x,f1,f2⟩:=k3 m hm hm.2.1
       have hmj:m<j:=by
        rcases Nat.lt_or_ge m j with h|h
        ·exact h
        ·exact absurd hbm (hlater j m b hjn hm.2.1 hk hm.2.2.1 h hb)
       have hHm:(Hh (m+1))[b]?=some x:=by
        rcases stepD_al (hR.step m hm.2.1) hm.2.2.1 with⟨_,hg,v2,x2,g1,g2,_⟩|⟨h3,_⟩
        ·rw[f1]at g1;cases g1
         rw[g2,hbm,List.getElem?_set_self (lt_of_getl hg)]
        ·rw[hm.2.2.2.2]at h3;cases h3
       have e1:readA E (T j) K (opAt ops j)=readA E (T j) (Hh (m+1)) (opAt ops j):=readA_dep (fun b' hb'=>by
        rw[hb]at hb';cases hb'
        rw[hHm,hbm];exact f2)
       rw[e1,←hj];refine chain (by omega) (by omega) (fun i h1 h2 ho=>?_)
       by_cases hdi:Done listed i
       ·cases ha:isAl E (opAt ops i)
        ·have:=(hI.chain i (by omega) ho ha).1 hdi;have:=hm.1;omega
        ·exact other i (by omega) ha (fun b' hb' e=>by
          rw[hb]at hb';cases hb'
          exact idAt_ne (show m≠i by omega) hm.2.1 (by omega) hm.2.2.1 ha (hbm.symm.trans e))
       ·exact stepSame i (by omega) ho (notAhead i hdi) (upward i h2 (by omega))
      ·have hne: ∀m,Early E ops T listed p m→ ∀b,readDep E (T j) (opAt ops j)=some b→b≠idAt E ops base m:=fun m hm b hb e=>hearly ⟨m,b,hm,hb,e⟩
       have e1:readA E (T j) K (opAt ops j)=readA E (T j) (Hh p) (opAt ops j):=readA_dep (fun b hb=>k4 b (fun i hi _=>hne i hi b hb));rw[e1,←hj]
       rcases Nat.le_total p j with hpj'|hpj'
       ·exact chain hpj' (by omega) (fun i h1 h2 ho=>mid i (by omega) ho hne (.inl ⟨h1,h2⟩))
       ·exact(chain hpj' hI.le (fun i h1 h2 ho=>mid i (by have:=hI.le;omega) ho hne (.inr ⟨h1,h2⟩))).symm
     exact read_wp hS hK k1 (by rw[k2];exact hfr) (fun b hb=>rfl) (fun v hv=>next v w ρ y' p (Nat.le_refl _) hI.le hnw hbase (.inl rfl) (Ext.refl _ _ _) hhr (by rw[←k2];exact hv) hput)
    ·exact quiet_wp hS hC hop hO hhr hfr (fun h=>absurd h hk) (fun _ v w' ρ' hx hr hv=>next v w' ρ' y p (Nat.le_refl _) hI.le hnw hbase (.inl rfl) hx hr hv hput)
   ·rw[if_neg (by simp[hw])]
    refine⟨fun _ _=>trivial,?_⟩;exact next Go.undef w ρ undef p (Nat.le_refl _) hI.le hnw hbase (.inl rfl) (Ext.refl _ _ _) hhr undef_cr hput
  ·cases hAl:isAl E (opAt ops j)
   ·--it writes memory or calls:these stand in the text's order
    have hpe:=hpj hO hAl
    subst hpe
    have hbase: ∀i,i<ops.size→isO E (opAt ops i)=true→isAl E (opAt ops i)=false→(Done (listed.setIfInBounds p true) i↔i<p+1):=by
     intro i hi ho ha;rw[done_set hjl];constructor
     ·rintro(rfl|h)
      ·omega
      ·have:=(hI.chain i hi ho ha).1 h;omega
     ·intro h
      rcases Nat.lt_or_ge i p with h1|h1
      ·exact .inr ((hI.chain i hi ho ha).2 h1)
      ·exact .inl (by omega)
    have hnw:isAl E (opAt ops p)=true→wantA ops (T p) (opAt ops p)=false:=fun h=>by rw[hAl]at h;cases h
    have hst:St E X ρ w a σ (view (Hh p)) N s0:=⟨hhr,hfr,hI.sz,hI.de.1,hI.de.2.1,fun d hd=>by
     obtain⟨D,d1,d2,d3,d4⟩:=hI.de.2.2 d hd
     exact⟨D,d1,d2,d3,fun off h=>d4 off (.inl h)⟩⟩
    rcases stepA_inv (stepD_ot (hR.step p hjn) hAl)with⟨hw,y,hop,hput⟩|⟨hw,hh,hput⟩
    ·rw[if_pos hw]
     rw[opA_congr (agree_of hσl)]at hop;exact opA_wp hS hC hcall hop hst (fun v w' ρ' hx hr hv=>next v w' ρ' y (p+1) (by omega) (by omega) hnw hbase (.inr ⟨rfl,rfl,hAl⟩) hx hr hv hput)
    ·rw[if_neg (by simp[hw])]
     refine⟨fun _ _=>trivial,?_⟩;exact next Go.undef w ρ undef (p+1) (by omega) (by omega) hnw hbase (.inr ⟨rfl,rfl,hAl⟩) (by rw[hh];exact Ext.refl _ _ _) (by rw[hh];exact hhr) undef_cr hput
   ·--it makes memory
    have hpj':p≤j:=by
     rcases Nat.lt_or_ge j p with h|h
     ·exact absurd (hI.als j h hAl) hnd
     ·exact h
    have hbase: ∀i,i<ops.size→isO E (opAt ops i)=true→isAl E (opAt ops i)=false→(Done (listed.setIfInBounds j true) i↔i<p):=by
     intro i hi ho ha;rw[done_set hjl];constructor
     ·rintro(rfl|h)
      ·rw[hAl]at ha;cases ha
      ·exact(hI.chain i hi ho ha).1 h
     ·exact fun h=> .inr ((hI.chain i hi ho ha).2 h)
    rcases stepD_al (hR.step j hjn) hAl with⟨hw,hg,y,x,hop,_,hput⟩|⟨hw,hh,hput⟩
    ·rw[if_pos hw]
     have hgp:view (Hh p) (idAt E ops base j)=some .hole:=hR.kept j p hjn hAl hpj';have hid:ρ (idAt E ops base j)=none:=hI.nyet j hpj' hjn hAl (fun h=>hnd h.2.2.2.1);obtain⟨u,w',k,h1,h2,h3,h4⟩:=allocA_run hhr hfr hid (allocA_congr (isAl_kind hAl) (agree_of hσl) hop)
     refine gives_wp (fun c hc=>by simp[allocA,hc]at hop) (.inl h1) ?_
     have hxal:=allocA_alive hop
     obtain⟨ρ1,hρ1⟩: ∃ρ1,ρ1=setR ρ (idAt E ops base j) (w.heap.size,k):=⟨_,rfl⟩;rw[←hρ1]at h2 h3 h4
     have hj1:ρ1 (idAt E ops base j)=some (w.heap.size,k):=by rw[hρ1];simp[setR]
     have ho1: ∀b,b≠idAt E ops base j→ρ1 b=ρ b:=fun b hb=>by rw[hρ1];simp[setR,hb]
     have hset:setG (setG (view (Hh p)) (idAt E ops base j) x) (idAt E ops base j) .hole=view (Hh p):=by
      funext b
      simp only[setG];split
      ·rename_i hb;rw[hb,hgp]
      ·rfl
     have hD1: ∀i,Early E ops T (listed.setIfInBounds j true) p i↔(Early E ops T listed p i∨i=j):=fun i=>by
      constructor
      ·rintro⟨e1,e2,e3,e4,e5⟩
       rcases(done_set hjl i).1 e4 with h|h
       ·exact .inr h
       ·exact .inl ⟨e1,e2,e3,h,e5⟩
      ·rintro(⟨e1,e2,e3,e4,e5⟩|rfl)
       ·exact⟨e1,e2,e3,(done_set hjl i).2 (.inr e4),e5⟩
       ·exact⟨hpj',hjn,hAl,(done_set hjl i).2 (.inl rfl),hw⟩
     have hidne: ∀i,Early E ops T listed p i→idAt E ops base i≠idAt E ops base j:=fun i hi=>idAt_ne (fun e=>hnd (e▸hi.2.2.2.1)) hi.2.1 hjn hi.2.2.1 hAl
     have hEA1:=ea_congr (E:=E) (ops:=ops) (base:=base) (D:=Early E ops T listed p) (ρ:=ρ) (ρ':=ρ1) (fun i hi=>ho1 _ (hidne i hi));have harea:=area_one (A:=A) (E:=E) (ops:=ops) (base:=base) hD1 hj1;rw[hEA1,←hX]at harea;obtain⟨q1,q2⟩:=h3.hide hj1 (by simp[setG]) hxal harea;rw[hset]at q1 q2
     have hap: ∀i,Early E ops T listed p i→ ∀B k,ρ (idAt E ops base i)=some (B,k)→ ∀off,¬Own ρ (view (Hh p)) B off:=fun i hi B k hb=>hI.hr.apart (k:=k) (fun off h=> .inr ⟨i,k,hi,hb,h⟩)
     have hxt:Ext (Plus (Own ρ (view (Hh p))) (EA E ops base (Early E ops T listed p) ρ)) ρ w (Plus (Own ρ1 (view (Hh p))) (EA E ops base (Early E ops T (listed.setIfInBounds j true) p) ρ1)) ρ1 w':=by
      refine h2.widen (fun B off h=> .inl h) (fun B off h=>?_)
      rcases h with⟨b,k',z,g1,g2,g3,g4⟩|⟨i,k',g1,g2,g3⟩
      ·have hb:b≠idAt E ops base j:=fun e=>by rw[e,hgp]at g2;cases g2;cases g3
       rw[ho1 b hb]at g1;exact .inl (.inl ⟨b,k',z,g1,g2,g3,g4⟩)
      ·rcases(hD1 i).1 g1 with h|h
       ·rw[ho1 _ (hidne i h)]at g2
        exact .inl (.inr ⟨i,k',h,g2,g3⟩)
       ·subst h
        rw[hj1]at g2;cases g2;exact .inr (Nat.le_refl _)
     refine ih _ ρ1 w' _ p hcnt' ⟨hsz',hcl,hI.le,hbase,fun i hi ha=>(done_set hjl i).2 (.inr (hI.als i hi ha)),q1,fun i hi his hia hne=>?_,fun i hi=>?_,fun i b B k' k1 hi g1 g2=>?_,hI.ext.trans hxt,?_,by rw[put_size];exact hI.sz,by rw[put_defers];exact hI.de.ext hxt⟩
     ·have hij:i≠j:=fun e=>hne ((hD1 i).2 (.inr e))
      rw[ho1 _ (fun e=>idAt_ne hij his hjn hia hAl e)];exact hI.nyet i hi his hia (fun h=>hne ((hD1 i).2 (.inl h)))
     ·rcases(hD1 i).1 hi with h|h
      ·obtain⟨B,k',v',x',e1,e2,e3,e4,e5,e6⟩:=hI.early i h
       refine⟨B,k',v',x',by rw[ho1 _ (hidne i h)];exact e1,e2,e3,Nat.lt_of_lt_of_le e4 h2.size,?_,e6⟩;rw[q2];rw[←hX]at e5;exact e5.mono h2.sub h2.keeps (h2.keepo B e4 (hap i h B k' e1))
      ·subst h
       obtain⟨B,k',g1,g2,g3⟩:=h3.blk (idAt E ops base i) x (by simp[setG]) (fun e=>by rw[e]at hxal;cases hxal);rw[hj1]at g1;cases g1;refine⟨_,_,y,x,hj1,hop,hxal,g2,by rw[q2];exact g3,fun off ha=>?_⟩;have:=(hhr.avo w.heap.size off (by rw[hX];exact .inl ha)).1;omega
     ·rcases(hD1 i).1 hi with h|h
      ·rw[ho1 _ (hidne i h)]at g1
       by_cases hb:b=idAt E ops base j
       ·subst hb
        rw[hj1]at g2;cases g2;have:=hhr.lt g1;omega
       ·rw[ho1 b hb]at g2
        exact hI.sep i b B k' k1 h g1 g2
      ·subst h
       by_cases hb:b=idAt E ops base i
       ·exact hb
       ·rw[ho1 b hb]at g2
        rw[hj1]at g1;cases g1;have:=hhr.lt g2;omega
     ·rw[q2]
      exact slots_step hR hD hI.size hI.closed hjn hnd hI.sz (fun t q h5 h6 h7=>(hslots t q h5 h6 h7).ext h2) h4 hput
    ·rw[if_neg (by simp[hw])]
     refine⟨fun _ _=>trivial,?_⟩;exact next Go.undef w ρ undef p (Nat.le_refl _) hI.le (fun _=>hw) hbase (.inl rfl) (Ext.refl _ _ _) hhr undef_cr hput
theorem view_holes(h:H)(n:Nat)(b:Nat):(view (h++List.replicate n .hole) b=view h b∧b<h.length)∨(h.length≤b∧(view (h++List.replicate n .hole) b=some .hole∨view (h++List.replicate n .hole) b=none)):=by
 simp only[view]
 rcases Nat.lt_or_ge b h.length with h1|h1
 ·exact .inl ⟨List.getElem?_append_left h1,h1⟩
 ·refine .inr ⟨h1,?_⟩
  rw[List.getElem?_append_right h1,List.getElem?_replicate];split
  ·exact .inl rfl
  ·exact .inr rfl
theorem HR.holes{G:Nat→Option (List AV)}{A:Area}{ρ:Rho}{w:World}{h:H}(hr:HR G A ρ w (view h))(n:Nat):HR G A ρ w (view (h++List.replicate n .hole))∧Own ρ (view (h++List.replicate n .hole))=Own ρ (view h):=by
 have hnone: ∀b,h.length≤b→ρ b=none:=fun b hb=>hr.dom b (by simp[view];omega)
 have hown:Own ρ (view (h++List.replicate n .hole))=Own ρ (view h):=by
  funext B off
  apply propext;constructor
  ·rintro⟨b,k,y,h1,h2,h3,h4⟩
   rcases view_holes h n b with⟨e,_⟩|⟨e,_⟩
   ·exact⟨b,k,y,h1,by rw[←e];exact h2,h3,h4⟩
   ·rw[hnone b e]at h1;cases h1
  ·rintro⟨b,k,y,h1,h2,h3,h4⟩
   rcases view_holes h n b with⟨e,_⟩|⟨e,_⟩
   ·exact⟨b,k,y,h1,by rw[e];exact h2,h3,h4⟩
   ·rw[hnone b e]at h1;cases h1
 have hF:Forb A ρ (view (h++List.replicate n .hole))=Forb A ρ (view h):=by unfold Forb;rw[hown]
 refine⟨⟨fun b hb=>?_,fun b y hb hy=>?_,fun b hb B k hk=>?_,fun b1 b2 B k1 k2 x1 x2 h1 h2 h3 h4 h5 h6=>?_,fun B off ha=>by rw[hown];exact hr.avo B off ha,fun i cs hi=>by rw[hF];exact hr.glob i cs hi⟩,hown⟩
 ·rcases view_holes h n b with⟨e,_⟩|⟨e,_⟩
  ·exact hr.dom b (by rw[←e];exact hb)
  ·exact hnone b e
 ·rw[hF]
  rcases view_holes h n b with⟨e,_⟩|⟨_,e|e⟩
  ·exact hr.blk b y (by rw[←e];exact hb) hy
  ·rw[e]at hb;cases hb;exact absurd rfl hy
  ·rw[e]at hb;cases hb
 ·rcases view_holes h n b with⟨e,_⟩|⟨e,_⟩
  ·exact hr.hole b (by rw[←e];exact hb) B k hk
  ·rw[hnone b e]at hk;cases hk
 ·rcases view_holes h n b1 with⟨e1,_⟩|⟨e1,_⟩
  ·rcases view_holes h n b2 with⟨e2,_⟩|⟨e2,_⟩
   ·exact hr.sep b1 b2 B k1 k2 x1 x2 h1 h2 (by rw[←e1];exact h3) (by rw[←e2];exact h4) h5 h6
   ·rw[hnone b2 e2]at h2;cases h2
  ·rw[hnone b1 e1]at h1;cases h1
theorem regionA_wp(hS:Smet E.P E.S)(hC:COK E)(hcall:CallOK E call)(hmix:E.P.follows .mixedOrders=true){id:Nat}{draw:Bool}{τ τ':Fr}{h h':H}(ho:regionA E f call N ops draw τ h= .ok (τ',h')){A:Area}{ρ:Rho}{w:World}{a:Act}(hs:St E A ρ w a τ (view h) N s0){Q:Exit→Act→World→Prop}
  (hQ: ∀a' w' ρ',Ext (Own ρ (view h)) ρ w (Own ρ' (view h')) ρ' w'→St E A ρ' w' a' τ' (view h') N s0→Q .normal a' w'):(Code.region id ops draw).wpIn (fw rd) nn E.P Q a w:=by
 cases draw with
 |false=>
  refine wpIn_region ?_
  rw[List.range_eq_range'];exact opsA_wp hS hC hcall ops.size 0 τ h ρ w a (by omega) ho hs hQ
 |true=>
  simp only[regionA]at ho;obtain⟨⟨tr,lt,lh⟩,htr,ho⟩:=R.bind_ok ho;simp only at ho;split at ho
  ·rename_i hds
   split at ho
   ·rename_i hdd
    split at ho
    ·rename_i hdl
     split at ho
     ·rename_i hdh
      cases ho;obtain⟨t1,t2,t3,t4⟩:=trace_spec htr
      have hlen:tr.length=ops.size:=by simpa using t1
      have hR:Run E f call N ops h.length (frameAt tr τ') (heapAt tr h'):=by
       refine⟨fun i hi=>t4 i _ (by rw[Array.getElem?_toList];exact opAt_get hi),fun i m hi ha hm=>?_⟩
       have h1:=List.all_eq_true.1 hdh i (List.mem_range.2 hi)
       rw[ha]at h1;simp only[Bool.not_true,Bool.false_or]at h1;exact sameBlk_eq (List.all_eq_true.1 h1 m (List.mem_range.2 (by omega)))
      have hD:=drawS_ok hds
      have hw1:({w with drawn:=w.drawn+1}:World).heap=w.heap:=rfl;obtain⟨hr1,hx1⟩:=hs.hr.heap hw1 ⟨rfl,rfl,rfl⟩;obtain⟨hr2,ho2⟩:=hr1.holes (alsOf E ops.toList)
      have hno: ∀l:Array Bool,(∀i,¬Done l i)→ ∀i,¬Early E ops (frameAt tr τ') l 0 i:=fun l hl i he=>hl i he.2.2.2.1
      have hnd: ∀i,¬Done (Array.replicate ops.size false) i:=fun i hd=>by unfold Done at hd;simp[Array.getElem?_replicate]at hd
      have hP: ∀(Y:Area) (ρ1:Rho),Plus Y (EA E ops h.length (Early E ops (frameAt tr τ') (Array.replicate ops.size false) 0) ρ1)=Y:=fun Y ρ1=>funext fun B=>funext fun off=>propext ⟨fun hh=>hh.resolve_right (fun⟨i,k,h1,_⟩=>hno _ hnd i h1), .inl⟩
      refine wpIn_region_any hmix ?_
      refine any_wp (s0:=s0) (base:=h.length) (T:=frameAt tr τ') (Hh:=heapAt tr h') (ρ0:=ρ) (w0:=w) (A:=A) hS hC hcall hR hD ?_ ?_ ?_ ops.size _ ρ _ a 0 ?_ ?_
      ·intro j i hj hi hk ho hb1 hb2 hne
       have hmem:(j,i)∈pairsA E ops (masksA ops.toList []):=by
        unfold pairsA;rw[List.mem_flatMap];refine⟨j,List.mem_range.2 hj,?_⟩;rw[if_pos hk,List.mem_map];refine⟨i,List.mem_filter.2 ⟨List.mem_range.2 hi,?_⟩,rfl⟩;simp only[ho,hb1,hb2,Bool.not_false,Bool.and_true,Bool.true_and,Bool.not_eq_true',beq_eq_false_iff_ne];exact hne
       have h1:=List.all_eq_true.1 hdd (j,i) hmem
       simp only[Bool.or_eq_true]at h1
       rcases h1 with h1|h1
       ·refine readA_dep (fun b hb=>?_)
        rw[hb]at h1;exact sameBlk_eq h1
       ·exact sameR_eq h1
      ·intro j i b hj hi hk ha hji hdep
       have h1:=List.all_eq_true.1 hdl j (List.mem_range.2 hj)
       rw[if_pos hk,hdep]at h1
       have h2:=List.all_eq_true.1 h1 i (List.mem_range.2 hi)
       have h3:decide (i<j)=false:=by simp;omega
       rw[h3,ha]at h2
       simpa using h2
      ·intro ρ' w' a' hx hst
       rw[frameAt_last hlen,heapAt_last hlen]at hst;rw[heapAt_last hlen,t3,ho2]at hx;exact hQ a' w' ρ' hx hst
      ·simp
      ·refine⟨by simp,fun j hj hd=>absurd hd (hnd j),Nat.zero_le _,fun i hi ho ha=>⟨fun hd=>absurd hd (hnd i),fun h=>by omega⟩,fun i h=>by omega,by rw[hP,t3];exact hr2,fun i _ hi ha _=>?_,fun i hi=>absurd hi (hno _ hnd i),fun i b B k k1 hi=>absurd hi (hno _ hnd i),by rw[hP,t3,ho2];exact hx1,fun t q hq h1 h2=>?_,hs.sz,by rw[hP,t3,ho2];exact hs.de.ext hx1⟩
       ·exact hr1.dom _ (by simp[view,idAt])
       ·have:frameAt tr τ' 0 t=frameAt tr τ' q t:=hR.slot (t:=t) (Nat.zero_le q) hq (fun i _ hi hd=>hnd i (h1 i hi hd))
        rw[←this,t2,t3,hP]
        have h5:=(hs.fr t).ext hx1
        unfold Forb at h5 ⊢
        rw[ho2];exact h5
     ·cases ho
    ·cases ho
   ·cases ho
  ·cases ho
def X.exit':X→Exit
 | .normal=> .normal
 | .ret=> .ret
 | .exit id=> .exit id
def Post(E:Env)(A:Area)(N s0:Nat)(ρ:Rho)(w:World)(h:H)(x:X)(τ':Fr)(h':H):Exit→Act→World→Prop:=
 fun e a' w'=>e=x.exit'∧ ∃ρ',Ext (Own ρ (view h)) ρ w (Own ρ' (view h')) ρ' w'∧St E A ρ' w' a' τ' (view h') N s0
theorem Post.from{A:Area}{ρ ρ1:Rho}{w w1:World}{h h1:H}{x:X}{τ':Fr}{h':H}{e:Exit}{a':Act}{w':World}(hx:Ext (Own ρ (view h)) ρ w (Own ρ1 (view h1)) ρ1 w1)(hp:Post E A N s0 ρ1 w1 h1 x τ' h' e a' w'):Post E A N s0 ρ w h x τ' h' e a' w':=
 let⟨h1,ρ',h2,h3⟩:=hp
 ⟨h1,ρ',hx.trans h2,h3⟩
theorem iter_wp{g:Fr→H→R (X×Fr×H)}{c:Code}{A:Area}
  (hg: ∀τ h x τ' h' ρ w a,g τ h= .ok (x,τ',h')→St E A ρ w a τ (view h) N s0→c.wpIn (fw rd) nn E.P (Post E A N s0 ρ w h x τ' h') a w) {x:X} {τ':Fr} {h':H} (n:Nat) (τ:Fr) (h:H) (ρ:Rho) (w:World) (a:Act)
  (hi:iter g n τ h= .ok (x,τ',h')) (hs:St E A ρ w a τ (view h) N s0):(Code.loop c).wpIn (fw rd) nn E.P (Post E A N s0 ρ w h x τ' h') a w:=by
 have key: ∀(n:Nat) (τ:Fr) (h1:H) (ρ1:Rho) (w1:World) (a:Act),iter g n τ h1= .ok (x,τ',h')→St E A ρ1 w1 a τ (view h1) N s0→Ext (Own ρ (view h)) ρ w (Own ρ1 (view h1)) ρ1 w1→
   Code.roundsIn (fw rd) nn E.P c (Post E A N s0 ρ w h x τ' h') n a w1:=by
  intro n
  induction n with
  |zero=>intro τ h1 ρ1 w1 a hi;cases hi
  |succ n ih=>
   intro τ h1 ρ1 w1 a hi hs hx;simp only[iter]at hi
   cases hgr:g τ h1 with
   |no s=>rw [hgr]at hi;cases hi
   |ok r=>
    obtain⟨x1,τ1,h2⟩:=r;rw[hgr]at hi;rw[roundsIn_succ]
    refine wpIn_mono (hg τ h1 x1 τ1 h2 ρ1 w1 a hgr hs) ?_
    rintro e a1 w2 ⟨rfl,ρ2,hx2,hst2⟩
    cases x1 with
    |normal=>simp only at hi;exact ih τ1 h2 ρ2 w2 a1 hi hst2 (hx.trans hx2)
    |ret=>simp only at hi;cases hi;exact⟨rfl,ρ2,hx.trans hx2,hst2⟩
    |exit id=>simp only at hi;cases hi;exact⟨rfl,ρ2,hx.trans hx2,hst2⟩
 exact wpIn_loop_rounds n (key n τ h ρ w a hi hs (Ext.refl _ _ _))
theorem HR.push{G:Nat→Option (List AV)}{A:Area}{ρ:Rho}{w w':World}{g:View}(hr:HR G A ρ w g){o:Obj}(hw:w'.heap=w.heap.push o)(hst:SameS w w'):HR G A ρ w' g∧Ext (Own ρ g) ρ w (Own ρ g) ρ w':=by
 obtain⟨h1,h2⟩:=hr.upd (ρ':=ρ) (w':=w') (g':=g) w.heap.size hst (fun b p hb=>hb) (fun B hB hne=>by rw[hw];simp[Array.getElem?_push,Nat.ne_of_lt hB]) (fun cs e fz hb=>by have:=lt_of_get hb;omega) (fun h=>by omega) (by rw[hw];simp) (fun B off h=> .inl h) (fun b B k h=> .inl h);exact⟨h2 hr.dom (fun b blk hb=> .inl ⟨hb,fun hal B k hB=>Nat.ne_of_lt (hr.lt hB)⟩) hr.sep (fun b h=>⟨h,rfl⟩),h1⟩
theorem clo_box{F:Area}{ρ:Rho}{w:World}{u:Value}{gf b:Nat}(h:CR F ρ w u (.clo gf [] [.ptr b 0])): ∃Bb,u= .func (.func gf) #[] #[.pointer (some ⟨Bb,0,none⟩)]∧ρ b=some (Bb,0):=by
 cases h with
 | @clo f first caps fa ca hf hc vs us h1 h2 h3 h4=>
   have e1:first= #[]:=by apply Array.eq_empty_of_size_eq_zero;simpa using hf
   obtain⟨c0,e2⟩: ∃c0,caps= #[c0]:=by
    obtain⟨l⟩:=caps
    match l,hc with
    | [c0],_=>exact⟨c0,rfl⟩
   subst e1;subst e2
   have h5:=h3 0 _ rfl
   have h6:=h4 0 _ rfl
   simp at h5;rw[←h5]at h6
   cases h6 with
   |ptr hρ=>exact⟨_,rfl,hρ⟩
theorem exec_range{g:Operand}{ps:Array Tmp}{assign body:Code}{τ τ':Fr}{h h':H}{x:X}(he:exec E f call N (.rangeFunc g ps assign body) τ h= .ok (x,τ',h')):
  ∃gf b,ev E τ g= .ok (.clo gf [] [.ptr b 0])∧E.B gf=true∧x= .normal∧τ'=τ∧(h[b]?=some (.var [.nils])∧h'=h∨ ∃sz l tl,h[b]?=some (.var [.lst sz l tl])∧sz=1∧l.length≤1000000∧ps.size=2∧(ps.toList.all fun p=>decide (p<N))=true∧(l.all AV.leaf)=true∧noRF assign=true∧noRF body=true∧
   rounds (exec E f call N assign) (exec E f call N body) τ ps.toList b (.lst sz l tl) (backL l) h= .ok h'):=by
 simp only[exec]at he;split at he
 ·rename_i gf b hg
  split at he
  ·rename_i hB
   split at he
   ·rename_i hb
    cases he;exact⟨gf,b,hg,hB,rfl,rfl, .inl ⟨hb,rfl⟩⟩
   ·rename_i sz l tl hb
    split at he
    ·rename_i hc
     split at he
     ·rename_i h2 hr
      cases he;exact⟨gf,b,hg,hB,rfl,rfl, .inr ⟨sz,l,tl,hb,hc.1,hc.2.1,hc.2.2.1,hc.2.2.2.1,hc.2.2.2.2.1,hc.2.2.2.2.2.1,hc.2.2.2.2.2.2,hr⟩⟩
     ·cases he
    ·cases he
   ·cases he
  ·cases he
 ·cases he
theorem exec_wp(hS:Smet E.P E.S)(hC:COK E)(hB:BOK E)(hcall:CallOK E call)(hmix:E.P.follows .mixedOrders=true){A:Area}: ∀(c:Code) (rd:Option Nat) (nn:Nat) (τ:Fr) (h:H) (x:X) (τ':Fr) (h':H) (ρ:Rho) (w:World) (a:Act),(rd=none∨noRF c=true)→
  exec E f call N c τ h= .ok (x,τ',h')→St E A ρ w a τ (view h) N s0→c.wpIn (fw rd) nn E.P (Post E A N s0 ρ w h x τ' h') a w:=by
 intro c
 induction c with
 |skip=>
  intro rd nn τ h x τ' h' ρ w a hrd he hs;cases he;exact wpIn_skip ⟨rfl,ρ,Ext.refl _ _ _,hs⟩
 |label l=>
  intro rd nn τ h x τ' h' ρ w a hrd he hs;cases he;exact wpIn_label ⟨rfl,ρ,Ext.refl _ _ _,hs⟩
 |region id ops draw=>
  intro rd nn τ h x τ' h' ρ w a hrd he hs;simp only[exec]at he;rw[regionP_eq]at he;obtain⟨⟨τ1,h1⟩,hr,he⟩:=R.bind_ok he;cases he;exact regionA_wp hS hC hcall hmix hr hs (fun a' w' ρ' hx hst=>⟨rfl,ρ',hx,hst⟩)
 |seq c d ihc ihd=>
  intro rd nn τ h x τ' h' ρ w a hrd he hs;simp only[exec]at he
  refine wpIn_seq ?_
  cases hc:exec E f call N c τ h with
  |no s=>rw [hc]at he;cases he
  |ok r=>
   obtain⟨x1,τ1,h1⟩:=r;rw[hc]at he
   refine wpIn_mono (ihc rd nn τ h x1 τ1 h1 ρ w a (hrd.imp (fun y=>y) fun h=>by simp only[noRF,Bool.and_eq_true]at h;exact h.1) hc hs) ?_
   rintro e a1 w1 ⟨rfl,ρ1,hx1,hst1⟩
   cases x1 with
   |normal=>
    simp only at he;exact wpIn_mono (ihd rd nn τ1 h1 x τ' h' ρ1 w1 a1 (hrd.imp (fun y=>y) fun h=>by simp only[noRF,Bool.and_eq_true]at h;exact h.2) he hst1) (fun e a2 w2 hp=>hp.from hx1)
   |ret=>simp only at he;cases he;exact⟨rfl,ρ1,hx1,hst1⟩
   |exit id=>simp only at he;cases he;exact⟨rfl,ρ1,hx1,hst1⟩
 |cond c d e ihd ihe=>
  intro rd nn τ h x τ' h' ρ w a hrd he hs;simp only[exec]at he
  cases hc:ev E τ c with
  |no s=>rw [hc]at he;cases he
  |ok v=>
   rw[hc]at he
   have hcr:=ev_cr hs.fr hs.hr.glob' hc
   cases v with
   |bool b=>
    have hb:=toV_eq (x:= .bool b) (by rfl) hcr
    cases b with
    |true=>simp only at he;exact wpIn_cond_true hb (ihd rd nn τ h x τ' h' ρ w a (hrd.imp (fun y=>y) fun h=>by simp only[noRF,Bool.and_eq_true]at h;exact h.1) he hs)
    |false=>simp only at he;exact wpIn_cond_false hb (ihe rd nn τ h x τ' h' ρ w a (hrd.imp (fun y=>y) fun h=>by simp only[noRF,Bool.and_eq_true]at h;exact h.2) he hs)
   |_=>cases he
 |block id c ih=>
  intro rd nn τ h x τ' h' ρ w a hrd he hs;simp only[exec]at he
  refine wpIn_block ?_
  cases hc:exec E f call N c τ h with
  |no s=>rw [hc]at he;cases he
  |ok r=>
   obtain⟨x1,τ1,h1⟩:=r;rw[hc]at he
   refine wpIn_mono (ih rd nn τ h x1 τ1 h1 ρ w a (hrd.imp (fun y=>y) fun h=>by simpa only [noRF]using h) hc hs) ?_
   rintro e a1 w1 ⟨rfl,ρ1,hx1,hst1⟩
   cases x1 with
   |normal=>simp only at he;cases he;exact⟨rfl,ρ1,hx1,hst1⟩
   |ret=>simp only at he;cases he;exact⟨rfl,ρ1,hx1,hst1⟩
   |exit i=>
    simp only at he;cases he;simp only[X.exit',Exit.inBlock]
    by_cases hi:i=id
    ·rw[if_pos hi];rw[if_pos hi];exact⟨rfl,ρ1,hx1,hst1⟩
    ·rw[if_neg hi];rw[if_neg hi];exact⟨rfl,ρ1,hx1,hst1⟩
 |loop c ih=>
  intro rd nn τ h x τ' h' ρ w a hrd he hs;simp only[exec]at he;exact iter_wp (fun τ h x τ' h' ρ w a hg hst=>ih rd nn τ h x τ' h' ρ w a (hrd.imp (fun y=>y) fun h=>by simpa only [noRF]using h) hg hst) E.M τ h ρ w a he hs
 |exit i=>
  intro rd nn τ h x τ' h' ρ w a hrd he hs;cases he;exact wpIn_exit ⟨rfl,ρ,Ext.refl _ _ _,hs⟩
 |ret=>
  intro rd nn τ h x τ' h' ρ w a hrd he hs;cases he;exact wpIn_ret ⟨rfl,ρ,Ext.refl _ _ _,hs⟩
 |rangeFunc g ps assign body iha ihb=>
  intro rd nn τ h x τ' h' ρ w a hrd he hs;obtain rfl:rd=none:=hrd.resolve_right (by simp[noRF]);obtain⟨gf,b,hg,hBg,rfl,hττ,hcase⟩:=exec_range he;obtain rfl:τ=τ':=hττ.symm
  have hcg:=ev_cr hs.fr hs.hr.glob' hg
  obtain⟨ug,hug⟩: ∃u,a.eval g=u:=⟨_,rfl⟩;rw[hug]at hcg;obtain⟨Bb,rfl,hρb⟩:=clo_box hcg;obtain⟨hen,hback⟩:=hB gf hBg;refine wpIn_rangeFunc (fun fn _=>?_)
  obtain⟨rec,hrec⟩: ∃rec:LoopState→Loop,rec=fun st=>{state:=st,pending:=none,fn,tmps:=a.tmps,params:=ps,assign,body,defers:=w.heap.size}:=⟨_,rfl⟩
  obtain⟨W1,hW1⟩: ∃W1,(w.alloc (.deferred (some []))).alloc (.loop (rec .ready))=W1:=⟨_,rfl⟩
  have hL1:W1.heap[w.heap.size+1]?=some (.loop (rec .ready)):=by
   rw[←hW1];have:=World.alloc_heap_new (w.alloc (.deferred (some []))) (.loop (rec .ready));rwa [World.size_alloc]at this
  obtain⟨hrA,hxA⟩:=hs.hr.push (w':=w.alloc (.deferred (some []))) rfl ⟨rfl,rfl,rfl⟩;obtain⟨hrB,hxB⟩:=hrA.push (w':=W1) (by rw[←hW1];rfl) (by rw[←hW1];exact⟨rfl,rfl,rfl⟩)
  have hx1:=hxA.trans hxB
  have hK1:W1.heap[w.heap.size]?=some (.deferred (some [])):=by
   have:=hxB.keepo w.heap.size (by simp) (fun off ho=>by
    obtain⟨b',k',y,h1,h2,h3,h4⟩:=ho
    have:=hs.hr.lt h1;omega)
   rw[this];exact World.alloc_heap_new w _
  have hno: ∀B,w.heap.size≤B→ ∀off,¬Own ρ (view h) B off:=fun B hB off ho=>by
   obtain⟨b',k',y,h1,h2,h3,h4⟩:=ho;have:=hs.hr.lt h1;omega
  refine⟨w.heap.size+1,[{target:= .collected w.heap.size,args:= #[]}],W1,{target:= .fn (.func gf) #[.pointer (some ⟨Bb,0,none⟩)],args:= #[.func (.yield (w.heap.size+1)) #[] #[]]},W1,gf,
   #[.func (.yield (w.heap.size+1)) #[] #[]]++ #[.pointer (some ⟨Bb,0,none⟩)],W1,?_,?_,fun _ _=>trivial,?_,fun h=>?_,?_⟩
  ·rw[←hW1,hrec];exact run_enterLoop_outer _ _ _ _ _
  ·simp only[resolve,rangeCall,hug]
   simp[go_sem,hug]
  ·simp[invoke,go_sem,hen]
  ·simp[fw,Fence.wide]at h
  ·show CallsIn Fence.wide _ _ _ _ _ _
   -- behind the loop
   have fin: ∀(h2:H) (ρ2:Rho) (W2:World),Ext (Own ρ (view h)) ρ w (Own ρ2 (view h2)) ρ2 W2→HR E.G A ρ2 W2 (view h2)→W2.heap[w.heap.size+1]?=some (.loop (rec .ready))→W2.heap[w.heap.size]?=some (.deferred (some []))→
     (∀off,¬Own ρ2 (view h2) w.heap.size off)→h'=h2→ ∃jump w4,(Instr.endLoop (w.heap.size+1)).run E.P W2= .ok jump w4∧(match jump with
      |none=>Post E A N s0 ρ w h .normal τ h' .normal {a with defers:= [{target:= .collected w.heap.size,args:= #[]}]++a.defers} w4
      |some c=>c.wpIn (fw none) nn E.P (Post E A N s0 ρ w h .normal τ h') {a with defers:= [{target:= .collected w.heap.size,args:= #[]}]++a.defers} w4):=by
    rintro h2 ρ2 W2 hx2 hr2 hl2 hk2 ho2 rfl;have he:=run_endLoop (P:=E.P) hl2 (by rw[hrec];simp)
    refine⟨none,W2.putObj (w.heap.size+1) (.loop {rec .ready with state:= .exhausted}),by rw[hrec]at he ⊢;exact he,rfl,ρ2,hx2.putObj (by omega),hr2.putObj hl2 ⟨by simp,by simp⟩,fun t=>((hs.fr t).ext hx2).mono (fun _ _ h=>h) (keeps_putObj hl2 ⟨by simp,by simp⟩),hs.sz,?_⟩
    have hd:=hs.de.ext hx2
    refine⟨by have:=hd.1;simpa using this,?_,fun d hdm=>?_⟩
    ·rw[List.singleton_append,List.nodup_cons]
     refine⟨fun hm=>?_,hd.2.1⟩;obtain⟨D,e1,e2,e3,e4⟩:=hs.de.2.2 _ hm
     have:w.heap.size=D:=by simpa using e1
     have:=lt_of_get e3;omega
    ·have other: ∀D,D≠w.heap.size+1→W2.heap[D]?=some (.deferred (some []))→(W2.putObj (w.heap.size+1) (.loop {rec .ready with state:= .exhausted})).heap[D]?=some (.deferred (some [])):=fun D hD h=>by rw[World.putObj_heap_other hD];exact h
     rcases List.mem_cons.1 hdm with rfl|hdm
     ·exact⟨w.heap.size,rfl,hs.de.1,other _ (by omega) hk2,ho2⟩
     ·obtain⟨D,e1,e2,e3,e4⟩:=hd.2.2 _ hdm
      exact⟨D,e1,e2,other D (fun e=>by rw[e,hl2]at e3;cases e3) e3,e4⟩
   rcases hcase with⟨hnil,rfl⟩|⟨sz,l,tl,hlst,rfl,hln,hps,hpN,hlf,hna,hnb,hrounds⟩
   ·--nil:no round
    obtain⟨B',k',h1,h2,_,cs,e,fz,h3,_,h4⟩:=hrB.blk b _ hnil nofun;rw[hρb]at h1;cases h1
    have hcell:W1.cell? ⟨Bb,0,none⟩=some (.slice none 0 0):=by
     obtain⟨v,hv,hc⟩:=h4.get (j:=0) (y:= .nils) rfl;cases hc;rw[Array.getElem?_toList]at hv;simp[World.cell?,h3,hv]
    have:=hback (w.heap.size+1) Bb 0 (fun k W=>k=0∧W=W1) W1 (by omega) (fun k W ⟨_,hW⟩ _=>⟨none,0,by rw[hW];exact hcell⟩) (fun k W _ hk=>by omega) ⟨rfl,rfl⟩
    refine CallsIn.mono (callsIn_wide.2 (callsIn_wide.1 this)) ?_
    rintro e W2 ⟨⟨v,rfl⟩,_,rfl⟩;exact fin _ ρ _ hx1 hrB hL1 hK1 (hno _ (Nat.le_refl _)) rfl
   ·--the rounds
    obtain⟨hk,r1,r2,r3⟩:=rounds_spec hrounds;rw[backL_length]at r2
    have hbackl: ∀k,k<l.length→ ∃x,l[l.length-1-k]?=some x∧(backL l)[k]?=some (l.length-1-k,x):=fun k hk=>backL_get hk
    obtain⟨RS,hRS⟩: ∃RS:Nat→World→Prop,RS=fun k W=> ∃ρ2,Ext (Own ρ (view h)) ρ w (Own ρ2 (view (hk k))) ρ2 W∧HR E.G A ρ2 W (view (hk k))∧W.heap[w.heap.size+1]?=some (.loop (rec .ready))∧W.heap[w.heap.size]?=some (.deferred (some []))∧
      (∀off,¬Own ρ2 (view (hk k)) w.heap.size off)∧(∀off,¬Own ρ2 (view (hk k)) (w.heap.size+1) off):=⟨_,rfl⟩
    -- what the box holds
    have box: ∀k W ρ2,(hk k)[b]?=some (.var [.lst 1 l tl])→Ext (Own ρ (view h)) ρ w (Own ρ2 (view (hk k))) ρ2 W→HR E.G A ρ2 W (view (hk k))→ ∃base c,W.cell? ⟨Bb,0,none⟩=some (.slice base l.length c)∧
      ∀i y,l[i]?=some y→ ∃B o v,base=some ⟨B,o,none⟩∧W.cell? ⟨B,o+i,none⟩=some v∧CR (Forb A ρ2 (view (hk k))) ρ2 W v y:=by
     intro k W ρ2 hb hx hr;obtain⟨B',k',h1,h2,_,cs,e,fz,h3,_,h4⟩:=hr.blk b _ hb nofun;rw[hx.sub _ _ hρb]at h1;cases h1;obtain⟨v,hv,hc⟩:=h4.get (j:=0) (y:= .lst 1 l tl) rfl;rw[Array.getElem?_toList]at hv
     by_cases hvn: ∃b,v= .slice b 0 0
     ·obtain⟨b0,rfl⟩:=hvn
      have hl0:l.length=0:=by
       cases hc with
       |lst0=>rfl
       |lst _ hn=>exact hn.symm
      exact⟨b0,0,by simp[World.cell?,h3,hv,hl0],fun i y hy=>by have:=lt_of_getl hy;omega⟩
     obtain⟨B,o,c,cs2,e2,fz2,rfl,g1,g2,g3,_⟩:=hc.lst_inv (.inl fun b e=>hvn ⟨b,e⟩);refine⟨some ⟨B,o,none⟩,c,by simp[World.cell?,h3,hv],fun i y hy=>?_⟩
     have hleaf:=List.all_eq_true.1 hlf y (List.mem_of_getElem? hy)
     have hyc:y.cells= [y]:=leaf_cells hleaf;have hf:=flat_get g3.1 hy (j:=0) (by omega);rw[hyc]at hf;simp only[Nat.mul_one,Nat.add_zero,List.getElem?_cons_zero]at hf;obtain⟨u,hu,hcu⟩:=g3.2.get hf;rw[List.getElem?_take]at hu;split at hu
     ·rw[List.getElem?_drop,Array.getElem?_toList]at hu
      exact⟨B,o,u,rfl,by simp[World.cell?,g1,hu],hcu⟩
     ·cases hu
    have:=hback (w.heap.size+1) Bb l.length RS W1 hln ?_ ?_ ?_
    ·refine CallsIn.mono (callsIn_wide.2 (callsIn_wide.1 this)) ?_
     rintro e W2 ⟨⟨v,rfl⟩,hJ⟩;rw[hRS]at hJ;obtain⟨ρ2,g1,g2,g3,g4,g5,g6⟩:=hJ;exact fin _ ρ2 _ g1 g2 g3 g4 g5 r2.symm
    ·--the box
     intro k W hJ hcond;rw[hRS]at hJ;obtain⟨ρ2,g1,g2,_⟩:=hJ
     have hbk:(hk k)[b]?=some (.var [.lst 1 l tl]):=by
      rcases hcond with hlt|rfl
      ·obtain⟨x,_,hx⟩:=hbackl k hlt
       exact(r3 k _ x hx).1
      ·rw[r1];exact hlst
     obtain⟨base,c,hc,_⟩:=box k W ρ2 hbk g1 g2;exact⟨base,c,hc⟩
    ·--one round
     intro k W hJ hlt;rw[hRS]at hJ;obtain⟨ρ2,g1,g2,g3,g4,g5,g6⟩:=hJ;obtain⟨x,hxl,hx⟩:=hbackl k hlt;obtain⟨hbk,τ1,h1,τ2,hga,hgb⟩:=r3 k _ x hx;obtain⟨base,c,hc,hel⟩:=box k W ρ2 hbk g1 g2;obtain⟨B,o,v,rfl,hv,hcv⟩:=hel _ x hxl;refine⟨B,o,c,v,hc,hv,?_⟩;have hlW:w.heap.size+1<W.heap.size:=lt_of_get g3;have hy:=run_yield (P:=E.P) (args:= #[.int .i64 ((l.length-1-k:Nat):Int),v]) g3 (by rw[hrec];simp[hps]);rw[hrec]at hy
     have hst0:St E A ρ2 W {tmps:=(ps.zip #[.int .i64 ((l.length-1-k:Nat):Int),v]).foldl (fun t (p,v)=>t.setIfInBounds p v) a.tmps,defers:= []} (setPs τ ps.toList [.int .i64 ((l.length-1-k:Nat):Int),x]) (view (hk k)) N s0:=by
      have hf0:=hs.fr.ext g1
      obtain⟨p1,p2,rfl⟩: ∃p1 p2,ps= #[p1,p2]:=by
       obtain⟨pl⟩:=ps
       match pl,hps with
       | [p1,p2],_=>exact⟨p1,p2,rfl⟩
      simp only[List.all_cons,List.all_nil,Bool.and_true,Bool.and_eq_true,decide_eq_true_eq]at hpN
      have hz:(#[p1,p2].zip #[Value.int .i64 ((l.length-1-k:Nat):Int),v])= #[(p1, .int .i64 ((l.length-1-k:Nat):Int)),(p2,v)]:=by simp
      refine⟨g2,?_,?_,DeOK.nil (Nat.le_trans hs.de.1 g1.size)⟩
      ·rw[hz]
       have f1:=hf0.put (a:=a) hs.sz (dst:=some p1) (v:= .int .i64 ((l.length-1-k:Nat):Int)) (y:= .int .i64 ((l.length-1-k:Nat):Int)) (.int _ _) (τ':=upd τ p1 (.int .i64 ((l.length-1-k:Nat):Int))) (by simp[putA_some,hpN.1]);exact f1.put (N:=N) (a:=a.put (some p1) (.int .i64 ((l.length-1-k:Nat):Int))) (by rw[put_size];exact hs.sz) (dst:=some p2) hcv (by simp[putA_some,hpN.2,setPs])
      ·rw[hz];simp[hs.sz]
     refine⟨fn,_,assign,body,hy,roundIn_of_wpIn (F:=Fence.wide) trivial (wpIn_mono (iha (some (w.heap.size+1)) 0 _ _ _ _ _ ρ2 W _ (.inr hna) hga hst0) ?_)⟩;rintro e a1 Wa ⟨rfl,ρ3,hx3,hs3⟩
     have k3:Wa.heap[w.heap.size+1]?=some (.loop (rec .ready)):=by rw[hx3.keepo _ hlW g6];exact g3
     have k4:Wa.heap[w.heap.size]?=some (.deferred (some [])):=by rw[hx3.keepo _ (by omega) g5];exact g4
     have k5: ∀off,¬Own ρ3 (view h1) w.heap.size off:=fun off ho=>by
      rcases hx3.new _ _ ho with h|h
      ·exact g5 off h
      ·omega
     have k6: ∀off,¬Own ρ3 (view h1) (w.heap.size+1) off:=fun off ho=>by
      rcases hx3.new _ _ ho with h|h
      ·exact g6 off h
      ·omega
     have hbeg:=run_beginRound (P:=E.P) k3 (by rw[hrec]);refine⟨_,hbeg,?_⟩;have hlt2:w.heap.size+1<Wa.heap.size:=lt_of_get k3
     have hst3:St E A ρ3 (Wa.putObj (w.heap.size+1) (.loop {rec .ready with state:= .busy})) a1 τ1 (view h1) N s0:=by
      refine⟨hs3.hr.putObj k3 ⟨by simp,by simp⟩,fun t=>(hs3.fr t).mono (fun _ _ h=>h) (keeps_putObj k3 ⟨by simp,by simp⟩),hs3.sz,by simpa using hs3.de.1,hs3.de.2.1,fun d hd=>?_⟩;obtain⟨D,e1,e2,e3,e4⟩:=hs3.de.2.2 d hd;exact⟨D,e1,e2,by rw[World.putObj_heap_other (fun e=>by rw[e,k3]at e3;cases e3)];exact e3,e4⟩
     refine wpIn_mono (ihb (some (w.heap.size+1)) 0 _ _ _ _ _ ρ3 _ a1 (.inr hnb) hgb hst3) ?_
     rintro e a4 Wb ⟨rfl,ρ4,hx4,hs4⟩;have hsame:(Wa.putObj (w.heap.size+1) (.loop {rec .ready with state:= .busy})).heap[w.heap.size+1]?=some (.loop {rec .ready with state:= .busy}):=World.putObj_heap_same hlt2
     have m3:Wb.heap[w.heap.size+1]?=some (.loop {rec .ready with state:= .busy}):=by rw[hx4.keepo _ (by simpa using hlt2) k6];exact hsame
     have m4:Wb.heap[w.heap.size]?=some (.deferred (some [])):=by
      rw[hx4.keepo _ (by simp;omega) k5,World.putObj_heap_other (by omega)];exact k4
     have hend:=run_endRound (P:=E.P) none m3;refine⟨_,_,hend,rfl,?_⟩;rw[hRS];refine⟨ρ4,((((g1.trans hx3).putObj (by omega)).trans hx4).putObj (by omega)),hs4.hr.putObj m3 ⟨by simp,by simp⟩,?_,?_,fun off ho=>?_,fun off ho=>?_⟩
     ·rw[World.putObj_heap_same (lt_of_get m3),hrec];simp
     ·rw[World.putObj_heap_other (by omega)];exact m4
     ·rcases hx4.new _ _ ho with h|h
      ·exact k5 off h
      ·simp at h;omega
     ·rcases hx4.new _ _ ho with h|h
      ·exact k6 off h
      ·simp at h;omega
    ·--ahead of the rounds
     rw[hRS];exact⟨ρ,by rw[r1];exact hx1,by rw[r1];exact hrB,hL1,hK1,by rw[r1];exact hno _ (Nat.le_refl _),by rw[r1];exact hno _ (by omega)⟩
 |_=>intro rd nn τ h x τ' h' ρ w a hrd he hs;cases he
theorem loadA_addr{P:Program}{h:H}{t:TypeId}{p y:AV}(hl:loadA P h t p= .ok y){F:Area}{ρ:Rho}{w:World}{v:Value}(hc:CR F ρ w v p): ∃ad,v= .pointer (some ad):=by
 cases hc<;>first|exact⟨_,rfl⟩|cases hl
def resOf(tmps:Array Value):ResultVar→Sem Value
 | .tmp t=>pure (tmps.getD t Go.undef)
 | .cell a t=>do loadVar t (←asAddr (tmps.getD a Go.undef))
theorem resOf_tmp(tmps:Array Value)(t:Tmp):resOf tmps (.tmp t)=pure (tmps.getD t Go.undef):=rfl
theorem resOf_cell(tmps:Array Value)(a:Tmp)(t:TypeId):resOf tmps (.cell a t)=(do loadVar t (←asAddr (tmps.getD a Go.undef))):=rfl
theorem results_eq(fn:Func)(tmps:Array Value):results fn tmps=(do let vs←fn.results.mapM (resOf tmps);pure (if h:vs.size=1 then vs[0]else .tuple vs)):=by
 unfold results
 congr 1
theorem resA_run{A:Area}{ρ:Rho}{w:World}{tmps:Array Value}{τ:Fr}{h:H}(hr:HR E.G A ρ w (view h))(hf:FRel (Forb A ρ (view h)) ρ w tmps τ): ∀{rs:List ResultVar} {ys:List AV},resA E τ h rs= .ok ys→
  ∃vs,(rs.mapM (resOf tmps)).run E.P w= .ok vs w∧CRs (Forb A ρ (view h)) ρ w vs ys
 | [],ys,hy=>by cases hy;exact⟨[],rfl, .nil⟩
 | .tmp t::rs,ys,hy=>by
   obtain⟨u,hu,hy⟩:=R.bind_ok hy;obtain⟨us,hus,hy⟩:=R.bind_ok hy;cases hy;obtain⟨vs,h1,h2⟩:=resA_run hr hf hus;have hft:=ev_cr (a:={tmps:=tmps,defers:= []}) hf hr.glob' hu;exact⟨tmps.getD t Go.undef::vs,by simp only[List.mapM_cons,Sem.run_bind,resOf_tmp,Sem.run_pure,Result.andThen_ok,h1], .cons hft h2⟩
 | .cell b t::rs,ys,hy=>by
   obtain⟨u,hu,hy⟩:=R.bind_ok hy;obtain⟨us,hus,hy⟩:=R.bind_ok hy;cases hy;obtain⟨vs,h1,h2⟩:=resA_run hr hf hus
   have hfb:=(hf b).resolve_left fun⟨sz,l,e⟩=>by rw[e]at hu;cases hu
   obtain⟨r,h3,h4⟩:=loadA_run (P:=E.P) hu hr (fun _ _=>rfl) hfb;obtain⟨ad,had⟩:=loadA_addr hu hfb;rw[had]at h3
   have h5:(loadVar t ad).run E.P w= .ok r w:=by simpa [Instr.loadAt,Instr.sureAddr]using h3
   refine⟨r::vs,?_, .cons h4 h2⟩;rw[List.mapM_cons]
   have h6:(asAddr (tmps.getD b Go.undef)).run E.P w= .ok ad w:=by rw[had];rfl
   simp only[resOf_cell,Sem.run_bind,h6,Sem.run_pure,Result.andThen_ok,h5,h1]
theorem init_frame{F:Area}{ρ:Rho}{w:World}{vs:Array Value}{args:List AV}(h:CRs F ρ w vs.toList args)(n:Nat):FRel F ρ w (vs++Array.replicate (n-vs.size) Go.undef) (initFr args):=by
 intro i
 have hl:vs.size=args.length:=by simpa using h.1
 simp only[initFr,Array.getD_eq_getD_getElem?,List.getD_eq_getElem?_getD]
 rcases Nat.lt_or_ge i vs.size with hi|hi
 ·rw[Array.getElem?_append_left hi]
  have h1:args[i]?=some args[i]:=List.getElem?_eq_getElem (by omega);obtain⟨v,hv,hc⟩:=h.get h1;rw[Array.getElem?_toList]at hv;rw[h1,hv];exact .inr hc
 ·rw[Array.getElem?_append_right hi,List.getElem?_eq_none (by omega)]
  have:((Array.replicate (n-vs.size) Go.undef)[i-vs.size]?).getD Go.undef=Go.undef:=by
   rw[Array.getElem?_replicate];split<;>rfl
  rw[this];exact .inr undef_cr
theorem leaves_ok{A:Area}{fn:Func}{ρ:Rho}{w:World}{O:Area}{ρ':Rho}{g:View}{tmps:Array Value}{τ:Fr}{R:Ending→World→Prop}{n:Nat}
  (fin: ∀w',HR E.G A ρ' w' g→FRel (Forb A ρ' g) ρ' w' tmps τ→Ext O ρ w (Own ρ' g) ρ' w'→ ∃v,(results fn tmps).run E.P w'= .ok v w'∧R (.returned v) w'):
  ∀(ds:List Deferred) (w':World),DeOK w.heap.size ds w' (Own ρ' g)→HR E.G A ρ' w' g→FRel (Forb A ρ' g) ρ' w' tmps τ→Ext O ρ w (Own ρ' g) ρ' w'→LeavesInM Fence.wide n E.P fn tmps R ds .returning w':=by
 intro ds
 induction ds with
 |nil=>intro w' _ hr hf hx;exact fin w' hr hf hx
 |cons d ds ih=>
  intro w' hd hr hf hx;obtain⟨D,rfl,h2,h3,h4⟩:=hd.2.2 d (List.mem_cons_self ..);refine⟨by simp, .inl ⟨D,_,rfl,run_takeDeferred h3,ih _ ⟨by simpa using hd.1,(List.nodup_cons.1 hd.2.1).2,fun d' hd'=>?_⟩ (hr.putObj h3 ⟨by simp,by simp⟩) (fun t=>(hf t).mono (fun _ _ h=>h) (keeps_putObj h3 ⟨by simp,by simp⟩)) (hx.putObj h2)⟩⟩;obtain⟨D',rfl,k2,k3,k4⟩:=hd.2.2 d' (List.mem_cons_of_mem _ hd')
  have hne:D≠D':=fun h=>(List.nodup_cons.1 hd.2.1).1 (h▸hd')
  refine⟨D',rfl,k2,?_,k4⟩;simp only[World.putObj];rw[Array.getElem?_setIfInBounds_ne hne];exact k3
end
end Go.Proofs.YtcocmlmligjjcaaGreatDoor.AM
namespace Go.Proofs.YtcocmlmligjjcaaGreatDoor.AM
set_option linter.unusedVariables false
set_option linter.unusedSimpArgs false
set_option linter.unusedSectionVars false
noncomputable section
def bindF{α β:Type}(x:R α)(f:α→R β):R β:= @R.rec α (fun _=>R β) f (fun s=> .no s) x
theorem bindF_eq{α β:Type}(x:R α)(f:α→R β):bindF x f=x.bind f:=by cases x<;>rfl
def nthF{α:Type}(l:List α)(n:Nat):Option α:= @List.rec α (fun _=>Nat→Option α) (fun _=>none) (fun a _ ih n=> @Nat.rec (fun _=>Option α) (some a) (fun m _=>ih m) n) l n
theorem nthF_eq{α:Type}(l:List α)(n:Nat):nthF l n=l[n]?:=by
 induction l generalizing n with
 |nil=>simp [nthF]
 |cons a l ih=>cases n with
  |zero=>rfl
  |succ m=>rw [List.getElem?_cons_succ,←ih m];rfl
def setF{α:Type}(l:List α)(n:Nat)(x:α):List α:= @List.rec α (fun _=>Nat→List α) (fun _=> []) (fun a t ih n=> @Nat.rec (fun _=>List α) (x::t) (fun m _=>a::ih m) n) l n
theorem setF_eq{α:Type}(l:List α)(n:Nat)(x:α):setF l n x=l.set n x:=by
 induction l generalizing n with
 |nil=>rfl
 |cons a l ih=>cases n with
  |zero=>rfl
  |succ m=>rw [List.set_cons_succ,←ih m];rfl
def lenF{α:Type}(l:List α):Nat:= @List.rec α (fun _=>Nat) 0 (fun _ _ n=>Nat.succ n) l
theorem lenF_eq{α:Type}(l:List α):lenF l=l.length:=by
 induction l with
 |nil=>rfl
 |cons a l ih=>rw [List.length_cons,←ih];rfl
def appF{α:Type}(xs ys:List α):List α:= @List.rec α (fun _=>List α) ys (fun a _ ih=>a::ih) xs
theorem appF_eq{α:Type}(xs ys:List α):appF xs ys=xs++ys:=by
 induction xs with
 |nil=>rfl
 |cons a l ih=>rw [List.cons_append,←ih];rfl
def andF(a b:Bool):Bool:= @Bool.rec (fun _=>Bool) false b a
theorem andF_eq(a b:Bool):andF a b=(a&&b):=by cases a<;>rfl
def iteF{α:Type}(b:Bool)(t e:α):α:= @Bool.rec (fun _=>α) e t b
theorem iteF_eq{α:Type}(b:Bool)(t e:α):iteF b t e=if b=true then t else e:=by cases b<;>rfl
def beqK(k k':IntKind):Bool:=Nat.beq (@IntKind.rec (fun _=>Nat) 0 1 2 3 4 5 6 7 k) (@IntKind.rec (fun _=>Nat) 0 1 2 3 4 5 6 7 k')
theorem beqK_eq(k k':IntKind):beqK k k'=decide (k=k'):=by cases k<;>cases k'<;>rfl
def limK(k:IntKind):Nat:= @IntKind.rec (fun _=>Nat) 127 32767 2147483647 9223372036854775807 255 65535 4294967295 18446744073709551615 k
def negK(k:IntKind):Bool:= @IntKind.rec (fun _=>Bool) true true true true false false false false k
def wrapF(k:IntKind)(n:Int):Int:= @Int.rec (fun _=>Int) (fun m=>iteF (Nat.ble m (limK k)) (.ofNat m) (k.wrap (.ofNat m))) (fun m=>iteF (andF (negK k) (Nat.ble m (limK k))) (.negSucc m) (k.wrap (.negSucc m))) n
theorem wrap_of(k:IntKind)(m:Nat)(h:m≤limK k):(Int.ofNat m)=k.wrap (.ofNat m):=by
 cases k<;>simp only[limK]at h<;>simp only[IntKind.wrap,IntKind.bits,IntKind.signed,Int.ofNat_eq_natCast,Bool.true_and,Bool.false_and,decide_eq_true_eq,Nat.reduceSub,Int.reducePow,ge_iff_le,Bool.false_eq_true,if_false]<;>(try split)<;>omega
theorem wrap_neg(k:IntKind)(m:Nat)(hk:negK k=true)(h:m≤limK k):(Int.negSucc m)=k.wrap (.negSucc m):=by
 have hz:Int.negSucc m= -(m:Int)-1:=by rw[Int.negSucc_eq];omega
 generalize Int.negSucc m=z at hz ⊢
 cases k<;>simp only[limK,negK,Bool.false_eq_true]at h hk<;>simp only[IntKind.wrap,IntKind.bits,IntKind.signed,Bool.true_and,decide_eq_true_eq,Nat.reduceSub,Int.reducePow,ge_iff_le]<;>(try split)<;>omega
theorem wrapF_eq(k:IntKind)(n:Int):wrapF k n=k.wrap n:=by
 cases n with
 |ofNat m=>
  show iteF (Nat.ble m (limK k)) (.ofNat m) (k.wrap (.ofNat m))=_;rw[iteF_eq];split
  ·rename_i h;exact wrap_of k m (Nat.le_of_ble_eq_true h)
  ·rfl
 |negSucc m=>
  show iteF (andF (negK k) (Nat.ble m (limK k))) (.negSucc m) (k.wrap (.negSucc m))=_;rw[iteF_eq,andF_eq];split
  ·rename_i h
   simp only[Bool.and_eq_true]at h;exact wrap_neg k m h.1 (Nat.le_of_ble_eq_true h.2)
  ·rfl
def ltI(a b:Int):Bool:= @Int.rec (fun _=>Int→Bool) (fun m b=> @Int.rec (fun _=>Bool) (fun n=>Nat.ble (Nat.succ m) n) (fun _=>false) b) (fun m b=> @Int.rec (fun _=>Bool) (fun _=>true) (fun n=>Nat.ble (Nat.succ n) m) b) a b
theorem ltI_eq(a b:Int):ltI a b=decide (a<b):=by
 have hb: ∀m n:Nat,Nat.ble (Nat.succ m) n=decide (m<n):=fun m n=>by
  rw[Bool.eq_iff_iff,Nat.ble_eq,decide_eq_true_eq];exact Iff.rfl
 cases a with
 |ofNat m=>cases b with
  |ofNat n=>show Nat.ble (Nat.succ m) n=_;rw[hb];apply decide_eq_decide.2;simp
  |negSucc n=>show false=_;symm;apply decide_eq_false;simp only[Int.ofNat_eq_natCast,Int.negSucc_eq];omega
 |negSucc m=>cases b with
  |ofNat n=>show true=_;symm;apply decide_eq_true;simp only[Int.ofNat_eq_natCast,Int.negSucc_eq];omega
  |negSucc n=>show Nat.ble (Nat.succ n) m=_;rw[hb];apply decide_eq_decide.2;simp only[Int.negSucc_eq];omega
def eqI(a b:Int):Bool:= @Int.rec (fun _=>Int→Bool) (fun m b=> @Int.rec (fun _=>Bool) (fun n=>Nat.beq m n) (fun _=>false) b) (fun m b=> @Int.rec (fun _=>Bool) (fun _=>false) (fun n=>Nat.beq m n) b) a b
theorem eqI_eq(a b:Int):eqI a b=(a==b):=by
 have hb: ∀m n:Nat,Nat.beq m n=decide (m=n):=fun m n=>by
  rw[Bool.eq_iff_iff,Nat.beq_eq,decide_eq_true_eq]
 have hd:(a==b)=decide (a=b):=rfl;rw[hd]
 cases a with
 |ofNat m=>cases b with
  |ofNat n=>show Nat.beq m n=_;rw[hb];exact decide_eq_decide.2 ⟨fun h=>congrArg _ h,fun h=>Int.ofNat.inj h⟩
  |negSucc n=>show false=_;symm;exact decide_eq_false fun h=>by cases h
 |negSucc m=>cases b with
  |ofNat n=>show false=_;symm;exact decide_eq_false fun h=>by cases h
  |negSucc n=>show Nat.beq m n=_;rw[hb];exact decide_eq_decide.2 ⟨fun h=>congrArg _ h,fun h=>Int.negSucc.inj h⟩
def eqL(a b:List UInt8):Bool:= @List.rec UInt8 (fun _=>List UInt8→Bool) (fun b=> @List.rec UInt8 (fun _=>Bool) true (fun _ _ _=>false) b) (fun x _ ih b=> @List.rec UInt8 (fun _=>Bool) false (fun y ys _=>andF (Nat.beq x.toNat y.toNat) (ih ys)) b) a b
theorem eqL_eq(a b:List UInt8):eqL a b=(a==b):=by
 induction a generalizing b with
 |nil=>cases b<;>rfl
 |cons x a ih=>cases b with
  |nil=>rfl
  |cons y b=>
   show andF (Nat.beq x.toNat y.toNat) (eqL a b)=_;rw[andF_eq,ih,List.cons_beq_cons]
   congr 1
   rw[Bool.eq_iff_iff,Nat.beq_eq,beq_iff_eq];exact UInt8.toNat_inj
def eqS(a b:ByteArray):Bool:=eqL a.data.toList b.data.toList
theorem eqS_eq(a b:ByteArray):eqS a b=(a.toList==b.toList):=by
 rw[ByteArray.toList_eq,ByteArray.toList_eq];exact eqL_eq _ _
theorem eqS_dec(a b:ByteArray):eqS a b=(a==b):=by rw[eqS_eq,beq_toListBytes]
def isTop(v:AV):Bool:= @AV.rec (fun _=>Bool) (fun _=>Unit) (fun _=>false) (fun _ _=>false) (fun _=>false) (false) (fun _ _=>false) (fun _ _ _ _=>false) (fun _ _ _=>false) (false) (fun _ _ _ _ _=>false) (fun _ _ _ _=>false) (fun _ _ _ _=>false) (fun _ _ _=>true) (false) (fun _=>false) (false) (fun _ _ _ _ _=>false) (false) (fun _ _=>false) (fun _ _=>false) () (fun _ _ _ _=>()) v
def topF(v:AV):R AV:=iteF (isTop v) (.no "top") (.ok v)
def evF(E:Env)(τ:Fr)(x:Operand):R AV:= @Operand.rec (fun _=>Env→Fr→R AV) (fun t _ τ=>topF (τ t)) (fun v _ _=>lift "const" (ofV v)) (fun g E _=>lift "global" ((E.G g).map fun cs=> .fp cs 0)) (fun f _ _=> .ok (.clo f [] [])) x E τ
theorem evF_eq(E:Env)(τ:Fr)(x:Operand):evF E τ x=ev E τ x:=by
 cases x with
 |tmp t=>
  show topF (τ t)=_;unfold ev topF
  dsimp only
  generalize τ t=v
  cases v<;>rfl
 |_=>rfl
def evsF(E:Env)(τ:Fr)(l:List Operand):R (List AV):= @List.rec Operand (fun _=>R (List AV)) (.ok []) (fun x _ ih=>bindF (evF E τ x) fun v=>bindF ih fun vs=> .ok (v::vs)) l
theorem evsF_eq(E:Env)(τ:Fr)(l:List Operand):evsF E τ l=evs E τ l:=by
 induction l with
 |nil=>rfl
 |cons x l ih=>
  show bindF (evF E τ x) (fun v=>bindF (evsF E τ l) fun vs=> .ok (v::vs))=_;simp only[evs,bindF_eq,evF_eq,ih]
def cellsF(v:AV):List AV:= @AV.rec (fun _=>AV→List AV) (fun _=>Unit) (fun _=>fun v=> [v]) (fun _ _=>fun v=> [v]) (fun _=>fun v=> [v]) (fun v=> [v]) (fun _ _=>fun v=> [v]) (fun _ _ _ _=>fun v=> [v]) (fun _ _ _=>fun v=> [v]) (fun v=> [v]) (fun _ _ _ _ _=>fun v=> [v]) (fun _ _ _ _=>fun v=> [v]) (fun _ _ _ _=>fun v=> [v]) (fun _ _ _=>fun v=> [v]) (fun v=> [v]) (fun _=>fun v=> [v]) (fun v=> [v]) (fun _ _ _ _ _=>fun v=> [v]) (fun v=> [v]) (fun cs _=>fun _=>cs) (fun _ _=>fun v=> [v]) () (fun _ _ _ _=>()) v v
theorem cellsF_eq(v:AV):cellsF v=v.cells:=by cases v<;>rfl
def leafF(v:AV):Bool:= @AV.rec (fun _=>Bool) (fun _=>Unit) (fun _=>true) (fun _ _=>true) (fun _=>true) (true) (fun _ _=>true) (fun _ _ _ _=>true) (fun _ _ _=>true) (true) (fun _ _ _ _ _=>true) (fun _ _ _ _=>true) (fun _ _ _ _=>true) (fun _ _ _=>false) (true) (fun _=>true) (true) (fun _ _ _ _ _=>true) (true) (fun _ _=>false) (fun _ _=>false) () (fun _ _ _ _=>()) v
theorem leafF_eq(v:AV):leafF v=v.leaf:=by cases v<;>rfl
def allLeafF(l:List AV):Bool:= @List.rec AV (fun _=>Bool) true (fun v _ ih=>andF (leafF v) ih) l
theorem allLeafF_eq(l:List AV):allLeafF l=l.all AV.leaf:=by
 induction l with
 |nil=>rfl
 |cons v l ih=>show andF (leafF v) (allLeafF l)=_;rw[andF_eq,ih,leafF_eq];rfl
def allsF(l:List AV):Bool:= @List.rec AV (fun _=>Bool) true (fun v _ ih=>andF (allLeafF (cellsF v)) ih) l
theorem allsF_eq(l:List AV):allsF l=l.all fun y=>y.cells.all AV.leaf:=by
 induction l with
 |nil=>rfl
 |cons v l ih=>show andF (allLeafF (cellsF v)) (allsF l)=_;rw[andF_eq,ih,allLeafF_eq,cellsF_eq];rfl
def setsF(cs:List AV)(off:Nat)(l:List AV):List AV:= @List.rec AV (fun _=>List AV→Nat→List AV) (fun cs _=>cs) (fun v _ ih cs off=>ih (setF cs off v) (Nat.succ off)) l cs off
theorem setsF_eq(cs:List AV)(off:Nat)(l:List AV):setsF cs off l=setCells cs off l:=by
 induction l generalizing cs off with
 |nil=>rfl
 |cons v l ih=>show setsF (setF cs off v) (off+1) l=_;rw[ih,setF_eq];rfl
def takeF(l:List AV)(n:Nat):List AV:= @List.rec AV (fun _=>Nat→List AV) (fun _=> []) (fun a _ ih n=> @Nat.rec (fun _=>List AV) [] (fun m _=>a::ih m) n) l n
theorem takeF_eq(l:List AV)(n:Nat):takeF l n=l.take n:=by
 induction l generalizing n with
 |nil=>simp [takeF]
 |cons a l ih=>cases n with
  |zero=>rfl
  |succ m=>rw [List.take_succ_cons,←ih m];rfl
def dropF(l:List AV)(n:Nat):List AV:= @Nat.rec (fun _=>List AV→List AV) (fun l=>l) (fun _ ih l=> @List.rec AV (fun _=>List AV) [] (fun _ t _=>ih t) l) n l
theorem dropF_eq(l:List AV)(n:Nat):dropF l n=l.drop n:=by
 induction n generalizing l with
 |zero=>rfl
 |succ n ih=>cases l with
  |nil=>rfl
  |cons a l=>rw [List.drop_succ_cons,←ih l];rfl
def partT(P:Program)(t:TypeId):R (Option Nat):=(aggT P t).bind fun b=>if b then(size P t).bind fun s=> .ok (some s)else .ok none
def partF(P:Program)(t:TypeId)(cs:List AV)(off:Nat):R AV:=bindF (partT P t) fun q=> @Option.rec Nat (fun _=>R AV) (@Option.rec AV (fun _=>R AV) (.no "part") (fun v=> .ok v) (nthF cs off)) (fun s=>iteF (Nat.ble (Nat.add off s) (lenF cs)) (.ok (.agg (takeF (dropF cs off) s))) (.no "part")) q
theorem partF_eq(P:Program)(t:TypeId)(cs:List AV)(off:Nat):partF P t cs off=partA P t cs off:=by
 unfold partF partA partT;rw[bindF_eq]
 cases aggT P t with
 |no s=>rfl
 |ok b=>cases b with
  |false=>
   show @Option.rec AV (fun _=>R AV) (.no "part") (fun v=> .ok v) (nthF cs off)=lift "part" cs[off]?;rw[nthF_eq]
   cases cs[off]?<;>rfl
  |true=>
   simp only[R.bind,if_true]
   cases size P t with
   |no s=>rfl
   |ok s=>
    show iteF (Nat.ble (off+s) (lenF cs)) (R.ok (AV.agg (takeF (dropF cs off) s))) (R.no "part")=_;rw[iteF_eq,takeF_eq,dropF_eq,lenF_eq];simp only[Nat.ble_eq]
def blkK{β:Type}(h:H)(b:Nat)(d:β)(kv:List AV→β)(ka:Nat→List AV→β)(km:List (AV×AV)→β):β:= @Option.rec Blk (fun _=>β) d (fun x=> @Blk.rec (fun _=>β) kv ka km d d d x) (nthF h b)
def loadF(P:Program)(h:H)(t:TypeId)(p:AV):R AV:= @AV.rec (fun _=>Program→H→TypeId→R AV) (fun _=>Unit) (fun _=>fun _ _ _=> .no "load: pointer") (fun _ _=>fun _ _ _=> .no "load: pointer") (fun _=>fun _ _ _=> .no "load: pointer") (fun _ _ _=> .no "load: pointer") (fun b off=>fun P h t=>blkK h b (.no "load: block") (fun cs=>partF P t cs off) (fun _ _=> .no "load: block") (fun _=> .no "load: block")) (fun b i sz off=>fun P h t=>blkK h b (.no "load: array") (fun _=> .no "load: array") (fun sz' l=> @Option.rec AV (fun _=>R AV) (.no "load: element") (fun x=>iteF (Nat.beq sz sz') (partF P t (cellsF x) off) (.no "load: size")) (nthF l i)) (fun _=> .no "load: array")) (fun cs off _=>fun P _ t=>partF P t cs off) (fun _ _ _=> .no "load: pointer") (fun _ _ _ _ _=>fun _ _ _=> .no "load: pointer") (fun _ _ _ _=>fun _ _ _=> .no "load: pointer") (fun _ _ _ _=>fun _ _ _=> .no "load: pointer") (fun _ _ _=>fun _ _ _=> .no "load: pointer") (fun _ _ _=> .no "load: pointer") (fun _=>fun _ _ _=> .no "load: pointer") (fun _ _ _=> .no "load: pointer") (fun _ _ _ _ _=>fun _ _ _=> .no "load: pointer") (fun _ _ _=> .no "load: pointer") (fun _ _=>fun _ _ _=> .no "load: pointer") (fun _ _=>fun _ _ _=> .no "load: pointer") () (fun _ _ _ _=>()) p P h t
theorem beqN{m n:Nat}{α:Type}(t e:α):iteF (Nat.beq m n) t e=if m=n then t else e:=by
 rw[iteF_eq];simp only[Nat.beq_eq]
theorem loadF_eq(P:Program)(h:H)(t:TypeId)(p:AV):loadF P h t p=loadA P h t p:=by
 cases p with
 |ptr b off=>
  show blkK h b _ _ _ _=_;unfold blkK loadA;rw[nthF_eq]
  dsimp only
  cases h[b]? with
  |none=>rfl
  |some x=>cases x with
   |var cs=>exact partF_eq ..
   |_=>rfl
 |eptr b i sz off=>
  show blkK h b _ _ _ _=_;unfold blkK loadA;rw[nthF_eq]
  dsimp only
  cases h[b]? with
  |none=>rfl
  |some x=>cases x with
   |arr sz' l=>
    dsimp only
    rw[nthF_eq]
    cases l[i]? with
    |none=>rfl
    |some x=>dsimp only;rw[beqN,partF_eq,cellsF_eq]
   |_=>rfl
 |fp cs off=>exact partF_eq ..
 |_=>rfl
def storeF(P:Program)(h:H)(t:TypeId)(v:AV)(p:AV):R H:= @AV.rec (fun _=>Program→H→TypeId→AV→AV→R H) (fun _=>Unit) (fun _=>fun P h t v p=>storeA P h t v p) (fun _ _=>fun P h t v p=>storeA P h t v p) (fun _=>fun P h t v p=>storeA P h t v p) (fun P h t v p=>storeA P h t v p) (fun b off=>fun P h t v _=>blkK h b (.no "store: block") (fun cs=>bindF (size P t) fun s=>iteF (andF (Nat.beq (lenF (cellsF v)) s) (andF (Nat.ble (Nat.add off s) (lenF cs)) (allLeafF (cellsF v)))) (.ok (setF h b (.var (setsF cs off (cellsF v))))) (.no "store: size")) (fun _ _=> .no "store: block") (fun _=> .no "store: block")) (fun _ _ _ _=>fun P h t v p=>storeA P h t v p) (fun _ _ _=>fun P h t v p=>storeA P h t v p) (fun P h t v p=>storeA P h t v p) (fun _ _ _ _ _=>fun P h t v p=>storeA P h t v p) (fun _ _ _ _=>fun P h t v p=>storeA P h t v p) (fun _ _ _ _=>fun P h t v p=>storeA P h t v p) (fun _ _ _=>fun P h t v p=>storeA P h t v p) (fun P h t v p=>storeA P h t v p) (fun _=>fun P h t v p=>storeA P h t v p) (fun P h t v p=>storeA P h t v p) (fun _ _ _ _ _=>fun P h t v p=>storeA P h t v p) (fun P h t v p=>storeA P h t v p) (fun _ _=>fun P h t v p=>storeA P h t v p) (fun _ _=>fun P h t v p=>storeA P h t v p) () (fun _ _ _ _=>()) p P h t v p
theorem storeF_eq(P:Program)(h:H)(t:TypeId)(v p:AV):storeF P h t v p=storeA P h t v p:=by
 cases p with
 |ptr b off=>
  show blkK h b _ _ _ _=_;unfold blkK storeA;rw[nthF_eq]
  dsimp only
  cases h[b]? with
  |none=>rfl
  |some x=>cases x with
   |var cs=>
    dsimp only
    rw[bindF_eq]
    congr 1
    funext s
    rw[iteF_eq,andF_eq,andF_eq,lenF_eq,cellsF_eq,allLeafF_eq,setF_eq,setsF_eq,lenF_eq];simp only[Bool.and_eq_true,Nat.beq_eq,Nat.ble_eq];rfl
   |_=>rfl
 |_=>rfl
def boolK{β:Type}(v:AV)(t e d:β):β:= @AV.rec (fun _=>β→β→β→β) (fun _=>Unit) (fun b=>fun t e _=>iteF b t e) (fun _ _=>fun _ _ d=>d) (fun _=>fun _ _ d=>d) (fun _ _ d=>d) (fun _ _=>fun _ _ d=>d) (fun _ _ _ _=>fun _ _ d=>d) (fun _ _ _=>fun _ _ d=>d) (fun _ _ d=>d) (fun _ _ _ _ _=>fun _ _ d=>d) (fun _ _ _ _=>fun _ _ d=>d) (fun _ _ _ _=>fun _ _ d=>d) (fun _ _ _=>fun _ _ d=>d) (fun _ _ d=>d) (fun _=>fun _ _ d=>d) (fun _ _ d=>d) (fun _ _ _ _ _=>fun _ _ d=>d) (fun _ _ d=>d) (fun _ _=>fun _ _ d=>d) (fun _ _=>fun _ _ d=>d) () (fun _ _ _ _=>()) v t e d
def isNil(v:AV):Bool:= @AV.rec (fun _=>Bool) (fun _=>Unit) (fun _=>false) (fun _ _=>false) (fun _=>false) (true) (fun _ _=>false) (fun _ _ _ _=>false) (fun _ _ _=>false) (false) (fun _ _ _ _ _=>false) (fun _ _ _ _=>false) (fun _ _ _ _=>false) (fun _ _ _=>false) (false) (fun _=>false) (true) (fun _ _ _ _ _=>false) (true) (fun _ _=>false) (fun _ _=>false) () (fun _ _ _ _=>()) v
def intF(v:AV):R Int:= @AV.rec (fun _=>R Int) (fun _=>Unit) (fun _=> .no "int") (fun _ n=> .ok n) (fun _=> .no "int") (.no "int") (fun _ _=> .no "int") (fun _ _ _ _=> .no "int") (fun _ _ _=> .no "int") (.no "int") (fun _ _ _ _ _=> .no "int") (fun _ _ _ _=> .no "int") (fun _ _ _ _=> .no "int") (fun _ _ _=> .no "int") (.no "int") (fun _=> .no "int") (.no "int") (fun _ _ _ _ _=> .no "int") (.no "int") (fun _ _=> .no "int") (fun _ _=> .no "int") () (fun _ _ _ _=>()) v
theorem intF_eq(v:AV):intF v=intA v:=by cases v<;>rfl
def intsF(op:BinOp)(k:IntKind)(a b:Int)(d:R AV):R AV:= @BinOp.rec (fun _=>IntKind→Int→Int→R AV→R AV) (fun k a b _=> .ok (.int k (wrapF k (Int.add a b)))) (fun k a b _=> .ok (.int k (wrapF k (Int.sub a b)))) (fun _ _ _ d=>d) (fun _ _ _ d=>d) (fun _ _ _ d=>d) (fun _ _ _ d=>d) (fun _ _ _ d=>d) (fun _ _ _ d=>d) (fun _ _ _ d=>d) (fun _ _ _ d=>d) (fun _ _ _ d=>d) (fun _ a b _=> .ok (.bool (eqI a b))) (fun _ a b _=> .ok (.bool (iteF (eqI a b) false true))) (fun _ a b _=> .ok (.bool (ltI a b))) (fun _ a b _=> .ok (.bool (iteF (ltI b a) false true))) (fun _ a b _=> .ok (.bool (ltI b a))) (fun _ a b _=> .ok (.bool (iteF (ltI a b) false true))) op k a b d
def strsF(op:BinOp)(a b:ByteArray)(d:R AV):R AV:= @BinOp.rec (fun _=>ByteArray→ByteArray→R AV→R AV) (fun _ _ d=>d) (fun _ _ d=>d) (fun _ _ d=>d) (fun _ _ d=>d) (fun _ _ d=>d) (fun _ _ d=>d) (fun _ _ d=>d) (fun _ _ d=>d) (fun _ _ d=>d) (fun _ _ d=>d) (fun _ _ d=>d) (fun a b _=> .ok (.bool (eqS a b))) (fun a b _=> .ok (.bool (iteF (eqS a b) false true))) (fun _ _ d=>d) (fun _ _ d=>d) (fun _ _ d=>d) (fun _ _ d=>d) op a b d
def binF(P:Program)(S:TypeId→Bool)(op:BinOp)(t:TypeId)(x y:AV):R AV:= @AV.rec (fun _=>BinOp→AV→R AV→R AV) (fun _=>Unit) (fun _=>fun _ _ d=>d) (fun k a=>fun op y d=>(@AV.rec (fun _=>BinOp→IntKind→Int→R AV→R AV) (fun _=>Unit) (fun _=>fun _ _ _ d=>d) (fun k' b=>fun op k a d=>iteF (beqK k k') (intsF op k a b d) d) (fun _=>fun _ _ _ d=>d) (fun _ _ _ d=>d) (fun _ _=>fun _ _ _ d=>d) (fun _ _ _ _=>fun _ _ _ d=>d) (fun _ _ _=>fun _ _ _ d=>d) (fun _ _ _ d=>d) (fun _ _ _ _ _=>fun _ _ _ d=>d) (fun _ _ _ _=>fun _ _ _ d=>d) (fun _ _ _ _=>fun _ _ _ d=>d) (fun _ _ _=>fun _ _ _ d=>d) (fun _ _ _ d=>d) (fun _=>fun _ _ _ d=>d) (fun _ _ _ d=>d) (fun _ _ _ _ _=>fun _ _ _ d=>d) (fun _ _ _ d=>d) (fun _ _=>fun _ _ _ d=>d) (fun _ _=>fun _ _ _ d=>d) () (fun _ _ _ _=>()) y) op k a d) (fun a=>fun op y d=>(@AV.rec (fun _=>BinOp→ByteArray→R AV→R AV) (fun _=>Unit) (fun _=>fun _ _ d=>d) (fun _ _=>fun _ _ d=>d) (fun b=>fun op a d=>strsF op a b d) (fun _ _ d=>d) (fun _ _=>fun _ _ d=>d) (fun _ _ _ _=>fun _ _ d=>d) (fun _ _ _=>fun _ _ d=>d) (fun _ _ d=>d) (fun _ _ _ _ _=>fun _ _ d=>d) (fun _ _ _ _=>fun _ _ d=>d) (fun _ _ _ _=>fun _ _ d=>d) (fun _ _ _=>fun _ _ d=>d) (fun _ _ d=>d) (fun _=>fun _ _ d=>d) (fun _ _ d=>d) (fun _ _ _ _ _=>fun _ _ d=>d) (fun _ _ d=>d) (fun _ _=>fun _ _ d=>d) (fun _ _=>fun _ _ d=>d) () (fun _ _ _ _=>()) y) op a d) (fun _ _ d=>d) (fun _ _=>fun _ _ d=>d) (fun _ _ _ _=>fun _ _ d=>d) (fun _ _ _=>fun _ _ d=>d) (fun _ _ d=>d) (fun _ _ _ _ _=>fun _ _ d=>d) (fun _ _ _ _=>fun _ _ d=>d) (fun _ _ _ _=>fun _ _ d=>d) (fun _ _ _=>fun _ _ d=>d) (fun _ _ d=>d) (fun _=>fun _ _ d=>d) (fun _ _ d=>d) (fun _ _ _ _ _=>fun _ _ d=>d) (fun _ _ d=>d) (fun _ _=>fun _ _ d=>d) (fun _ _=>fun _ _ d=>d) () (fun _ _ _ _=>()) x op y (binA P S op t x y)
theorem intsF_eq(P:Program)(S:TypeId→Bool)(op:BinOp)(t:TypeId)(k:IntKind)(a b:Int):intsF op k a b (binA P S op t (.int k a) (.int k b))=binA P S op t (.int k a) (.int k b):=by
 have hn: ∀b:Bool,iteF b false true=!b:=fun b=>by cases b<;>rfl
 have hle: ∀a b:Int,(!decide (b<a))=decide (a≤b):=fun a b=>by
  rw[←decide_not];apply decide_eq_decide.2;omega
 have key:binA P S op t (.int k a) (.int k b)=lift "binOp" ((pureRun P (binOp op t (.int k a) (.int k b))).bind ofV):=rfl
 cases op<;>first
  |rfl
  |(rw[key];simp only[binOp,ne_eq,not_true_eq_false,if_false,Op.intArith,Op.intCmp]
    simp only[intsF,wrapF_eq,eqI_eq,ltI_eq,hn,hle]
    rfl)
theorem strsF_eq(P:Program)(S:TypeId→Bool)(op:BinOp)(t:TypeId)(a b:ByteArray):strsF op a b (binA P S op t (.str a) (.str b))=binA P S op t (.str a) (.str b):=by
 have hn: ∀b:Bool,iteF b false true=!b:=fun b=>by cases b<;>rfl
 have key:binA P S op t (.str a) (.str b)=lift "binOp" ((pureRun P (binOp op t (.string a) (.string b))).bind ofV):=rfl
 cases op<;>first
  |rfl
  |(rw[key];simp only[binOp,Op.stringOp]
    simp only[strsF,eqS_eq,hn]
    rfl)
theorem binF_eq(P:Program)(S:TypeId→Bool)(op:BinOp)(t:TypeId)(x y:AV):binF P S op t x y=binA P S op t x y:=by
 cases x with
 |int k a=>cases y with
  |int k' b=>
   show iteF (beqK k k') (intsF op k a b (binA P S op t (.int k a) (.int k' b))) (binA P S op t (.int k a) (.int k' b))=_;rw[iteF_eq,beqK_eq];split
   ·rename_i h
    have h:=of_decide_eq_true h
    subst h;exact intsF_eq ..
   ·rfl
  |_=>rfl
 |str a=>cases y with
  |str b=>exact strsF_eq ..
  |_=>rfl
 |_=>rfl
def notF(op:UnOp)(a:AV)(d:R AV):R AV:= @UnOp.rec (fun _=>AV→R AV→R AV) (fun _ d=>d) (fun _ d=>d) (fun a d=> @AV.rec (fun _=>R AV→R AV) (fun _=>Unit) (fun b=>fun _=> .ok (.bool (iteF b false true))) (fun _ _=>fun d=>d) (fun _=>fun d=>d) (fun d=>d) (fun _ _=>fun d=>d) (fun _ _ _ _=>fun d=>d) (fun _ _ _=>fun d=>d) (fun d=>d) (fun _ _ _ _ _=>fun d=>d) (fun _ _ _ _=>fun d=>d) (fun _ _ _ _=>fun d=>d) (fun _ _ _=>fun d=>d) (fun d=>d) (fun _=>fun d=>d) (fun d=>d) (fun _ _ _ _ _=>fun d=>d) (fun d=>d) (fun _ _=>fun d=>d) (fun _ _=>fun d=>d) () (fun _ _ _ _=>()) a d) (fun _ d=>d) op a d
theorem notF_eq(P:Program)(op:UnOp)(a:AV):notF op a (lift "unOp" (a.toV.bind fun v=>(pureRun P (Op.unary op v)).bind ofV))=lift "unOp" (a.toV.bind fun v=>(pureRun P (Op.unary op v)).bind ofV):=by
 cases op<;>first
  |rfl
  |(cases a with
    |bool b=>cases b<;>rfl
    |_=>rfl)
def fillAF(place:Nat→Option (Nat×Nat))(l:List (Nat×AV))(cells:List AV):R (List AV):= @List.rec (Nat×AV) (fun _=>List AV→R (List AV)) (fun cells=> .ok cells) (fun p _ ih cells=> @Option.rec (Nat×Nat) (fun _=>R (List AV)) (.no "fill") (fun q=>iteF (andF (Nat.beq (lenF (cellsF p.2)) q.2) (Nat.ble (Nat.add q.1 q.2) (lenF cells))) (ih (setsF cells q.1 (cellsF p.2))) (.no "fill: size")) (place p.1)) l cells
theorem fillAF_eq(place:Nat→Option (Nat×Nat))(l:List (Nat×AV))(cells:List AV):fillAF place l cells=fillA place cells l:=by
 induction l generalizing cells with
 |nil=>rfl
 |cons p l ih=>
  obtain⟨i,v⟩:=p;unfold fillA;show @Option.rec (Nat×Nat) (fun _=>R (List AV)) (.no "fill") (fun q=>iteF (andF (Nat.beq (lenF (cellsF v)) q.2) (Nat.ble (Nat.add q.1 q.2) (lenF cells))) (fillAF place l (setsF cells q.1 (cellsF v))) (.no "fill: size")) (place i)=_
  cases place i with
  |none=>rfl
  |some q=>
   dsimp only
   rw[iteF_eq,andF_eq,ih,setsF_eq,lenF_eq,lenF_eq,cellsF_eq];simp only[Bool.and_eq_true,Nat.beq_eq,Nat.ble_eq];rfl
def buildT(P:Program)(t:TypeId):R (List AV×(Nat→Option (Nat×Nat))):=(zero P t).bind fun z=>(under P t).bind fun
 | .struct fs=>(sizesR P fs.toList).bind fun ps=> .ok (z.cells,fun i=>ps[i]?)
 | .array _ e=>(size P e).bind fun s=> .ok (z.cells,fun i=>some (i*s,s))
 |_=> .no "build"
def buildF(P:Program)(t:TypeId)(parts:List (Nat×AV)):R AV:=bindF (buildT P t) fun q=>bindF (fillAF q.2 parts q.1) fun cs=> .ok (.agg cs)
theorem buildF_eq(P:Program)(t:TypeId)(parts:List (Nat×AV)):buildF P t parts=buildA P t parts:=by
 unfold buildF buildA buildT;simp only[bindF_eq,fillAF_eq]
 cases zero P t with
 |no s=>rfl
 |ok z=>
  dsimp only[R.bind]
  cases under P t with
  |no s=>rfl
  |ok d=>cases d with
   |struct fs=>dsimp only[R.bind];cases sizesR P fs.toList<;>rfl
   |array n e=>dsimp only[R.bind];cases size P e<;>rfl
   |_=>rfl
def zipF{α β:Type}(xs:List α)(ys:List β):List (α×β):= @List.rec α (fun _=>List β→List (α×β)) (fun _=> []) (fun x _ ih ys=> @List.rec β (fun _=>List (α×β)) [] (fun y t _=>(x,y)::ih t) ys) xs ys
theorem zipF_eq{α β:Type}(xs:List α)(ys:List β):zipF xs ys=xs.zip ys:=by
 induction xs generalizing ys with
 |nil=>rfl
 |cons x xs ih=>cases ys with
  |nil=>rfl
  |cons y ys=>rw [List.zip_cons_cons,←ih];rfl
def fieldTy(P:Program)(t:TypeId)(f:Nat):R (TypeId×Nat):=(under P t).bind fun
 | .struct fs=>(lift "field" fs[f]?).bind fun fd=> .ok (fd.type,fd.offset)
 |_=> .no "field"
def faddrT(P:Program)(t:TypeId)(f:Nat):R Nat:=(under P t).bind fun
 | .struct fs=>(lift "field" fs[f]?).bind fun fd=>(size P fd.type).bind fun z=>if z=0 then .no "field: size" else .ok fd.offset
 |_=> .no "fieldAddr"
def atF(p:AV)(d:Nat):R AV:= @AV.rec (fun _=>Nat→R AV) (fun _=>Unit) (fun _=>fun _=> .no "fieldAddr") (fun _ _=>fun _=> .no "fieldAddr") (fun _=>fun _=> .no "fieldAddr") (fun _=> .no "fieldAddr") (fun b off=>fun d=> .ok (.ptr b (Nat.add off d))) (fun b i sz off=>fun d=> .ok (.eptr b i sz (Nat.add off d))) (fun cs off _=>fun d=> .ok (.fp cs (Nat.add off d))) (fun _=> .no "fieldAddr") (fun _ _ _ _ _=>fun _=> .no "fieldAddr") (fun _ _ _ _=>fun _=> .no "fieldAddr") (fun _ _ _ _=>fun _=> .no "fieldAddr") (fun _ _ _=>fun _=> .no "fieldAddr") (fun _=> .no "fieldAddr") (fun _=>fun _=> .no "fieldAddr") (fun _=> .no "fieldAddr") (fun _ _ _ _ _=>fun _=> .no "fieldAddr") (fun _=> .no "fieldAddr") (fun _ _=>fun _=> .no "fieldAddr") (fun _ _=>fun _=> .no "fieldAddr") () (fun _ _ _ _=>()) p d
def fieldF(P:Program)(t:TypeId)(v:AV)(f:Nat):R AV:=bindF (fieldTy P t f) fun q=> @AV.rec (fun _=>Program→TypeId×Nat→R AV) (fun _=>Unit) (fun _=>fun _ _=> .no "field") (fun _ _=>fun _ _=> .no "field") (fun _=>fun _ _=> .no "field") (fun _ _=> .no "field") (fun _ _=>fun _ _=> .no "field") (fun _ _ _ _=>fun _ _=> .no "field") (fun _ _ _=>fun _ _=> .no "field") (fun _ _=> .no "field") (fun _ _ _ _ _=>fun _ _=> .no "field") (fun _ _ _ _=>fun _ _=> .no "field") (fun _ _ _ _=>fun _ _=> .no "field") (fun _ _ _=>fun _ _=> .no "field") (fun _ _=> .no "field") (fun _=>fun _ _=> .no "field") (fun _ _=> .no "field") (fun _ _ _ _ _=>fun _ _=> .no "field") (fun _ _=> .no "field") (fun cs _=>fun P q=>partF P q.1 cs q.2) (fun _ _=>fun _ _=> .no "field") () (fun _ _ _ _=>()) v P q
def idxT(P:Program)(t:TypeId):R (Nat×Option Nat):=(under P t).bind fun
 | .slice e=>(size P e).bind fun s=> .ok (s,none)
 | .array n e=>(size P e).bind fun s=> .ok (s,some n)
 |_=> .no "index"
def idxSlow(x:AV)(i:Int)(s:Nat):R AV:=(lenA x).bind fun n=>if 0≤i∧i<n∧szA x s then(match x with
    | .lst _ l _=>match l[i.toNat]? with|some v=> .ok (.fp v.cells 0)|none=> .no "index"
    | .sl b off _ sz _=> .ok (.eptr b (off+i.toNat) sz 0)
    | .vsl b off _ _=> .ok (.ptr b (off+i.toNat))
    |_=> .no "index")else .no "index: bounds"
def natK{β:Type}(i:Int)(k:Nat→β)(d:β):β:= @Int.rec (fun _=>β) k (fun _=>d) i
def idxSl(x:AV)(i:Int)(s:Nat):R AV:= @AV.rec (fun _=>Int→Nat→R AV→R AV) (fun _=>Unit) (fun _=>fun _ _ d=>d) (fun _ _=>fun _ _ d=>d) (fun _=>fun _ _ d=>d) (fun _ _ d=>d) (fun _ _=>fun _ _ d=>d) (fun _ _ _ _=>fun _ _ d=>d) (fun _ _ _=>fun _ _ d=>d) (fun _ _ d=>d) (fun b off len sz _=>fun i s _=>natK i (fun m=>iteF (andF (Nat.ble (Nat.succ m) len) (Nat.beq sz s)) (.ok (.eptr b (Nat.add off m) sz 0)) (.no "index: bounds")) (.no "index: bounds")) (fun _ _ _ _=>fun _ _ d=>d) (fun sz l _ _=>fun i s _=>natK i (fun m=> @Option.rec AV (fun _=>R AV) (.no "index: bounds") (fun v=>iteF (Nat.beq sz s) (.ok (.fp (cellsF v) 0)) (.no "index: bounds")) (nthF l m)) (.no "index: bounds")) (fun _ _ _=>fun _ _ d=>d) (fun _ _ d=>d) (fun _=>fun _ _ d=>d) (fun _ _ d=>d) (fun _ _ _ _ _=>fun _ _ d=>d) (fun _ _ d=>d) (fun _ _=>fun _ _ d=>d) (fun _ _=>fun _ _ d=>d) () (fun _ _ _ _=>()) x i s (idxSlow x i s)
def idxAr(x:AV)(i:Int)(s n:Nat):R AV:=if 0≤i∧i<n then(match x with
    | .ptr b off=> .ok (.ptr b (off+i.toNat*s))
    | .eptr b j sz off=> .ok (.eptr b j sz (off+i.toNat*s))
    | .fp cs off=> .ok (.fp cs (off+i.toNat*s))
    |_=> .no "index")else .no "index: bounds"
def idxF(P:Program)(t:TypeId)(x:AV)(i:Int):R AV:=bindF (idxT P t) fun q=> @Option.rec Nat (fun _=>R AV) (idxSl x i q.1) (fun n=>idxAr x i q.1 n) q.2
theorem idxSl_eq(x:AV)(i:Int)(s:Nat):idxSl x i s=idxSlow x i s:=by
 have hz: ∀a b:Nat,(a==b)=true↔a=b:=fun a b=>beq_iff_eq
 cases x with
 |lst sz l tl=>
  cases i with
  |negSucc m=>
   unfold idxSlow;show R.no "index: bounds" =_;simp only[lenA,R.bind];rw[if_neg fun h=>by have:=h.1;rw[Int.negSucc_eq]at this;omega]
  |ofNat m=>
   show @Option.rec AV (fun _=>R AV) (R.no "index: bounds") (fun v=>iteF (Nat.beq sz s) (R.ok (.fp (cellsF v) 0)) (R.no "index: bounds")) (nthF l m)=_;unfold idxSlow;rw[nthF_eq];simp only[lenA,R.bind]
   rcases Nat.lt_or_ge m l.length with hm|hm
   ·have hg:l[(Int.ofNat m).toNat]?=some l[m]:=List.getElem?_eq_getElem hm
    rw[hg,List.getElem?_eq_getElem hm]
    dsimp only
    rw[beqN,cellsF_eq]
    by_cases hs:sz=s
    ·rw[if_pos hs,if_pos ⟨Int.natCast_nonneg m,Int.ofNat_lt.2 hm,(hz _ _).2 hs⟩]
    ·rw[if_neg hs,if_neg fun h=>hs ((hz _ _).1 h.2.2)]
   ·rw[List.getElem?_eq_none hm,if_neg fun h=>by have:=h.2.1;have:=Int.ofNat_lt.1 this;omega]
 |sl b off len sz c=>
  cases i with
  |negSucc m=>
   unfold idxSlow;show R.no "index: bounds" =_;simp only[lenA,R.bind];rw[if_neg fun h=>by have:=h.1;rw[Int.negSucc_eq]at this;omega]
  |ofNat m=>
   show iteF (andF (Nat.ble (Nat.succ m) len) (Nat.beq sz s)) (R.ok (AV.eptr b (Nat.add off m) sz 0)) (R.no "index: bounds")=_;unfold idxSlow;rw[iteF_eq,andF_eq];simp only[lenA,R.bind,Bool.and_eq_true,Nat.ble_eq,Nat.beq_eq]
   by_cases hc:m.succ≤len∧sz=s
   ·rw[if_pos hc,if_pos ⟨Int.natCast_nonneg m,Int.ofNat_lt.2 hc.1,(hz _ _).2 hc.2⟩];rfl
   ·rw[if_neg hc,if_neg fun h=>hc ⟨Int.ofNat_lt.1 h.2.1,(hz _ _).1 h.2.2⟩]
 |_=>rfl
theorem idxF_eq(P:Program)(t:TypeId)(x:AV)(i:Int):idxF P t x i=indexA P t x i:=by
 unfold idxF indexA idxT;rw[bindF_eq]
 cases under P t with
 |no s=>rfl
 |ok d=>cases d with
  |slice e=>
   dsimp only[R.bind]
   cases size P e with
   |no s=>rfl
   |ok s=>exact idxSl_eq x i s
  |array n e=>
   dsimp only[R.bind]
   cases size P e with
   |no s=>rfl
   |ok s=>rfl
  |_=>rfl
def strIdx(t:TypeId)(P:Program)(x i:AV)(d:R AV):R AV:= @AV.rec (fun _=>AV→R AV→R AV) (fun _=>Unit) (fun _=>fun _ d=>d) (fun _ _=>fun _ d=>d) (fun s=>fun i d=>(@AV.rec (fun _=>ByteArray→R AV→R AV) (fun _=>Unit) (fun _=>fun _ d=>d) (fun _ n=>fun s d=>natK n (fun m=> @Option.rec UInt8 (fun _=>R AV) d (fun c=> .ok (.int .u8 (.ofNat c.toNat))) (nthF s.data.toList m)) d) (fun _=>fun _ d=>d) (fun _ d=>d) (fun _ _=>fun _ d=>d) (fun _ _ _ _=>fun _ d=>d) (fun _ _ _=>fun _ d=>d) (fun _ d=>d) (fun _ _ _ _ _=>fun _ d=>d) (fun _ _ _ _=>fun _ d=>d) (fun _ _ _ _=>fun _ d=>d) (fun _ _ _=>fun _ d=>d) (fun _ d=>d) (fun _=>fun _ d=>d) (fun _ d=>d) (fun _ _ _ _ _=>fun _ d=>d) (fun _ d=>d) (fun _ _=>fun _ d=>d) (fun _ _=>fun _ d=>d) () (fun _ _ _ _=>()) i) s d) (fun _ d=>d) (fun _ _=>fun _ d=>d) (fun _ _ _ _=>fun _ d=>d) (fun _ _ _=>fun _ d=>d) (fun _ d=>d) (fun _ _ _ _ _=>fun _ d=>d) (fun _ _ _ _=>fun _ d=>d) (fun _ _ _ _=>fun _ d=>d) (fun _ _ _=>fun _ d=>d) (fun _ d=>d) (fun _=>fun _ d=>d) (fun _ d=>d) (fun _ _ _ _ _=>fun _ d=>d) (fun _ d=>d) (fun _ _=>fun _ d=>d) (fun _ _=>fun _ d=>d) () (fun _ _ _ _=>()) x i d
def isStrT(P:Program)(t:TypeId):Bool:=match P.underlying t with|some .string=>true|_=>false
def idxVSlow(P:Program)(t:TypeId)(x i:AV):R AV:=match x,i with
    | .str s, .int k n=>lift "index" ((pureRun P (Instr.index t (.string s) (.int k n))).bind ofV)
    | .agg cs, .int _ n=>(under P t).bind fun
      | .array len e=>(size P e).bind fun s=>if 0≤n∧n<len then partA P e cs (n.toNat*s)else .no "index: bounds"
      |_=> .no "index"
    |_,_=> .no "index"
def idxVF(P:Program)(t:TypeId)(x i:AV):R AV:=iteF (isStrT P t) (strIdx t P x i (idxVSlow P t x i)) (idxVSlow P t x i)
theorem idxVF_eq(P:Program)(t:TypeId)(x i:AV):idxVF P t x i=idxVSlow P t x i:=by
 unfold idxVF;rw[iteF_eq];split
 ·rename_i hs
  have hu:P.underlying t=some .string:=by
   unfold isStrT at hs;split at hs
   ·assumption
   ·cases hs
  cases x with
  |str s=>cases i with
   |int k n=>
    show natK n (fun m=> @Option.rec UInt8 (fun _=>R AV) (idxVSlow P t (.str s) (.int k n)) (fun c=> .ok (.int .u8 (.ofNat c.toNat))) (nthF s.data.toList m)) (idxVSlow P t (.str s) (.int k n))=_
    cases n with
    |negSucc m=>rfl
    |ofNat m=>
     show @Option.rec UInt8 (fun _=>R AV) _ _ (nthF s.data.toList m)=_;rw[nthF_eq]
     cases hc:s.data.toList[m]? with
     |none=>rfl
     |some c=>
      have hm:m<s.size:=by
       have:=(List.getElem?_eq_some_iff.1 hc).1
       simpa using this
      have hi:s[m]?=some c:=by
       rw[getElem?_pos s m hm]
       congr 1
       show s.data[m]'hm=_;have:=(List.getElem?_eq_some_iff.1 hc).2
       simpa using this
      show(.ok (.int .u8 (.ofNat c.toNat)):R AV)=lift "index" ((pureRun P (Instr.index t (.string s) (.int k (.ofNat m)))).bind ofV);unfold Instr.index
      have h:(if(0:Int)≤Int.ofNat m then s[(Int.ofNat m).toNat]? else none)=some c:=by rw[if_pos (by simp)];exact hi
      simp only[asIntOf,underlying,bind]
      have e: ∀(f:Program→Sem TypeDesc) (g:TypeDesc→Sem Value),pureRun P ((program.bind f).bind g)=pureRun P ((f P).bind g):=fun _ _=>rfl
      refine Eq.symm ?_
      refine(congrArg (fun z=>lift "index" (Option.bind z ofV)) (e _ _)).trans ?_
      simp only[hu];show lift "index" (Option.bind (pureRun P (match(if(0:Int)≤Int.ofNat m then s[(Int.ofNat m).toNat]? else none)with|some b=>_|none=>_)) ofV)=_;rw[h];rfl
   |_=>rfl
  |_=>rfl
 ·rfl
def extF(v:AV)(i:Nat):R AV:= @AV.rec (fun _=>Nat→R AV) (fun _=>Unit) (fun _=>fun _=> .no "extract") (fun _ _=>fun _=> .no "extract") (fun _=>fun _=> .no "extract") (fun _=> .no "extract") (fun _ _=>fun _=> .no "extract") (fun _ _ _ _=>fun _=> .no "extract") (fun _ _ _=>fun _=> .no "extract") (fun _=> .no "extract") (fun _ _ _ _ _=>fun _=> .no "extract") (fun _ _ _ _=>fun _=> .no "extract") (fun _ _ _ _=>fun _=> .no "extract") (fun _ _ _=>fun _=> .no "extract") (fun _=> .no "extract") (fun _=>fun _=> .no "extract") (fun _=> .no "extract") (fun _ _ _ _ _=>fun _=> .no "extract") (fun _=> .no "extract") (fun _ _=>fun _=> .no "extract") (fun vs _=>fun i=> @Option.rec AV (fun _=>R AV) (.no "extract") (fun v=> .ok v) (nthF vs i)) () (fun _ _ _ _=>()) v i
def isLenB(b:Builtin):Bool:=match b with| .len=>true|_=>false
def oneT(l:List Operand):Option Operand:=match l with| [x]=>some x|_=>none
def lenT(P:Program)(ts:Array TypeId):R Nat:=(lift "len" ts[0]?).bind fun t=>(under P t).bind fun| .string=> .ok 0| .slice _=> .ok 1|_=> .ok 2
def lenAF(v:AV):R Nat:= @AV.rec (fun _=>R Nat) (fun _=>Unit) (fun _=> .no "len") (fun _ _=> .no "len") (fun _=> .no "len") (.no "len") (fun _ _=> .no "len") (fun _ _ _ _=> .no "len") (fun _ _ _=> .no "len") (.ok 0) (fun _ _ len _ _=> .ok len) (fun _ _ len _=> .ok len) (fun _ l _ _=> .ok (lenF l)) (fun _ _ _=> .no "len") (.no "len") (fun _=> .no "len") (.no "len") (fun _ _ _ _ _=> .no "len") (.no "len") (fun _ _=> .no "len") (fun _ _=> .no "len") () (fun _ _ _ _=>()) v
theorem lenAF_eq(v:AV):lenAF v=lenA v:=by
 cases v with
 |lst sz l tl=>show R.ok (lenF l)=_;rw[lenF_eq];rfl
 |_=>rfl
def lenV(q:Nat)(v:AV):R AV:= @AV.rec (fun _=>Nat→AV→R AV) (fun _=>Unit) (fun _=>fun q v=>iteF (Nat.beq q 1) (bindF (lenAF v) fun n=> .ok (.int .i64 (.ofNat n))) (.no "len")) (fun _ _=>fun q v=>iteF (Nat.beq q 1) (bindF (lenAF v) fun n=> .ok (.int .i64 (.ofNat n))) (.no "len")) (fun s=>fun q _=>iteF (Nat.beq q 0) (.ok (.int .i64 (.ofNat (lenF s.data.toList)))) (.no "len")) (fun q v=>iteF (Nat.beq q 1) (bindF (lenAF v) fun n=> .ok (.int .i64 (.ofNat n))) (.no "len")) (fun _ _=>fun q v=>iteF (Nat.beq q 1) (bindF (lenAF v) fun n=> .ok (.int .i64 (.ofNat n))) (.no "len")) (fun _ _ _ _=>fun q v=>iteF (Nat.beq q 1) (bindF (lenAF v) fun n=> .ok (.int .i64 (.ofNat n))) (.no "len")) (fun _ _ _=>fun q v=>iteF (Nat.beq q 1) (bindF (lenAF v) fun n=> .ok (.int .i64 (.ofNat n))) (.no "len")) (fun q v=>iteF (Nat.beq q 1) (bindF (lenAF v) fun n=> .ok (.int .i64 (.ofNat n))) (.no "len")) (fun _ _ _ _ _=>fun q v=>iteF (Nat.beq q 1) (bindF (lenAF v) fun n=> .ok (.int .i64 (.ofNat n))) (.no "len")) (fun _ _ _ _=>fun q v=>iteF (Nat.beq q 1) (bindF (lenAF v) fun n=> .ok (.int .i64 (.ofNat n))) (.no "len")) (fun _ _ _ _=>fun q v=>iteF (Nat.beq q 1) (bindF (lenAF v) fun n=> .ok (.int .i64 (.ofNat n))) (.no "len")) (fun _ _ _=>fun q v=>iteF (Nat.beq q 1) (bindF (lenAF v) fun n=> .ok (.int .i64 (.ofNat n))) (.no "len")) (fun q v=>iteF (Nat.beq q 1) (bindF (lenAF v) fun n=> .ok (.int .i64 (.ofNat n))) (.no "len")) (fun _=>fun q v=>iteF (Nat.beq q 1) (bindF (lenAF v) fun n=> .ok (.int .i64 (.ofNat n))) (.no "len")) (fun q v=>iteF (Nat.beq q 1) (bindF (lenAF v) fun n=> .ok (.int .i64 (.ofNat n))) (.no "len")) (fun _ _ _ _ _=>fun q v=>iteF (Nat.beq q 1) (bindF (lenAF v) fun n=> .ok (.int .i64 (.ofNat n))) (.no "len")) (fun q v=>iteF (Nat.beq q 1) (bindF (lenAF v) fun n=> .ok (.int .i64 (.ofNat n))) (.no "len")) (fun _ _=>fun q v=>iteF (Nat.beq q 1) (bindF (lenAF v) fun n=> .ok (.int .i64 (.ofNat n))) (.no "len")) (fun _ _=>fun q v=>iteF (Nat.beq q 1) (bindF (lenAF v) fun n=> .ok (.int .i64 (.ofNat n))) (.no "len")) () (fun _ _ _ _=>()) v q v
def lenSlow(P:Program)(ts:Array TypeId)(x:AV):R AV:=match x with
    | .str s=>(lift "len" ts[0]?).bind fun t=>(under P t).bind fun
      | .string=> .ok (.int .i64 s.size)
      |_=> .no "len"
    |x=>(lift "len" ts[0]?).bind fun t=>(under P t).bind fun
     | .slice _=>(lenA x).bind fun n=> .ok (.int .i64 n)
     |_=> .no "len"
theorem lenV_eq(P:Program)(ts:Array TypeId)(x:AV):(bindF (lenT P ts) fun q=>lenV q x)=lenSlow P ts x:=by
 unfold lenT lenSlow;rw[bindF_eq]
 cases lift "len" ts[0]? with
 |no s=>cases x<;>rfl
 |ok t=>
  dsimp only[R.bind]
  cases under P t with
  |no s=>cases x<;>rfl
  |ok d=>
   have hs: ∀s:ByteArray,lenF s.data.toList=s.size:=fun s=>by rw[lenF_eq];simp
   have hv: ∀x:AV,(bindF (lenAF x) fun n=> .ok (.int .i64 (.ofNat n)))=((lenA x).bind fun n=>(.ok (.int .i64 n):R AV)):=fun x=>by rw[bindF_eq,lenAF_eq];rfl
   cases x with
   |str s=>cases d<;>first|rfl|(show R.ok (AV.int .i64 (.ofNat (lenF s.data.toList)))=_;rw[hs];rfl)
   |lst sz l tl=>cases d<;>first|rfl|exact hv (.lst sz l tl)
   |_=>cases d<;>rfl
def callPF(c:Call)(E:Env)(τ:Fr)(o:Oper):R AV:= @Callee.rec (fun _=>R AV) (fun _=>pureA E τ o) (fun _ _=>pureA E τ o) (fun b=>iteF (isLenB b) (@Option.rec Operand (fun _=>R AV) (pureA E τ o) (fun x=>bindF (evF E τ x) fun v=>bindF (lenT E.P c.argTypes) fun q=>lenV q v) (oneT c.args.toList)) (pureA E τ o)) c.callee
theorem callPF_eq(c:Call)(E:Env)(τ:Fr)(o:Oper)(ho:o.op= .call c):callPF c E τ o=pureA E τ o:=by
 obtain⟨callee,args,ts⟩:=c;unfold callPF
 cases callee with
 |builtin b=>
  show iteF (isLenB b) _ _=_;rw[iteF_eq];split
  ·rename_i hb
   have hb:b= .len:=by cases b<;>first|rfl|cases hb
   subst hb;show @Option.rec Operand (fun _=>R AV) (pureA E τ o) _ (oneT args.toList)=_
   cases hl:args.toList with
   |nil=>rfl
   |cons x l=>cases l with
    |cons y l=>rfl
    |nil=>
     show(bindF (evF E τ x) fun v=>bindF (lenT E.P ts) fun q=>lenV q v)=_;unfold pureA;simp only[ho,hl,bindF_eq,evF_eq,evs]
     cases hv:ev E τ x with
     |no s=>rfl
     |ok v=>
      dsimp only[R.bind]
      have:=lenV_eq E.P ts v;rw[bindF_eq]at this
      refine this.trans ?_
      cases v<;>rfl
  ·rfl
 |_=>rfl
def sliceO(E:Env)(τ:Fr)(t:TypeId)(x:Operand)(lo hi mx:Option Operand):R AV:=(ev E τ x).bind fun a=>(evo E τ lo).bind fun lo=>(evo E τ hi).bind fun hi=>(evo E τ mx).bind fun mx=>sliceA E.P t a lo hi mx
def convO(E:Env)(τ:Fr)(src dst:TypeId)(x:Operand):R AV:=(ev E τ x).bind fun a=>(under E.P src).bind fun us=>(under E.P dst).bind fun ud=>match us,ud,a with
    | .int _, .int k, .int _ n=> .ok (.int k (k.wrap n))
    | .string, .string, .str s=> .ok (.str s)
    |_,_,_=> .no "convert"
def pureF(E:Env)(τ:Fr)(o:Oper):R AV:= @Op.rec (fun _=>Oper→Env→Fr→R AV) (fun x _ E τ=>evF E τ x) (fun x _ E τ=>evF E τ x) (fun c a b _ E τ=>bindF (evF E τ c) fun v=>boolK v (evF E τ a) (evF E τ b) (.no "pick")) (fun _=>fun o E τ=>pureA E τ o) (fun _ _=>fun o E τ=>pureA E τ o) (fun t parts _ E τ=>bindF (evsF E τ (parts.toList.map (·.2))) fun vs=>buildF E.P t (zipF (parts.toList.map (·.1)) vs)) (fun _ _ _=>fun o E τ=>pureA E τ o) (fun _ _ _ _=>fun o E τ=>pureA E τ o) (fun _ _=>fun o E τ=>pureA E τ o) (fun _ _ _=>fun o E τ=>pureA E τ o) (fun _=>fun o E τ=>pureA E τ o) (fun _=>fun o E τ=>pureA E τ o) (fun x _ E τ=>bindF (evF E τ x) fun v=>iteF (isNil v) (.no "nil") (.ok v)) (fun op t x y _ _ E τ=>bindF (evF E τ x) fun a=>bindF (evF E τ y) fun b=>binF E.P E.S op t a b) (fun op _ x _ E τ=>bindF (evF E τ x) fun a=>notF op a (lift "unOp" (a.toV.bind fun v=>(pureRun E.P (Op.unary op v)).bind ofV))) (fun src dst x _ E τ=>convO E τ src dst x) (fun _ _=>fun o E τ=>pureA E τ o) (fun _ _=>fun o E τ=>pureA E τ o) (fun _ _ _=>fun o E τ=>pureA E τ o) (fun _ _=>fun o E τ=>pureA E τ o) (fun _ _=>fun o E τ=>pureA E τ o) (fun _ _ _=>fun o E τ=>pureA E τ o) (fun t x lo hi mx _ E τ=>sliceO E τ t x lo hi mx) (fun s x f _ E τ=>bindF (evF E τ x) fun p=>bindF (faddrT E.P s f) fun d=>atF p d) (fun t x f _ E τ=>bindF (evF E τ x) fun v=>fieldF E.P t v f) (fun t x ix _ E τ=>bindF (evF E τ x) fun x=>bindF (evF E τ ix) fun i=>bindF (intF i) fun i=>idxF E.P t x i) (fun t x ix _ E τ=>bindF (evF E τ x) fun x=>bindF (evF E τ ix) fun i=>idxVF E.P t x i) (fun _ _ _ _=>fun o E τ=>pureA E τ o) (fun _ _ _ _=>fun o E τ=>pureA E τ o) (fun _ _ _=>fun o E τ=>pureA E τ o) (fun _ _ _ _=>fun o E τ=>pureA E τ o) (fun _ _=>fun o E τ=>pureA E τ o) (fun _ _=>fun o E τ=>pureA E τ o) (fun _=>fun o E τ=>pureA E τ o) (fun _ _ _ _=>fun o E τ=>pureA E τ o) (fun t i _ E τ=>bindF (evF E τ t) fun v=>extF v i) (fun c o E τ=>callPF c E τ o) (fun _=>fun o E τ=>pureA E τ o) (fun _=>fun o E τ=>pureA E τ o) (fun _=>fun o E τ=>pureA E τ o) (fun _ _=>fun o E τ=>pureA E τ o) (fun _ _ _=>fun o E τ=>pureA E τ o) (fun _ _=>fun o E τ=>pureA E τ o) o.op o E τ
theorem pureF_eq(E:Env)(τ:Fr)(o:Oper):pureF E τ o=pureA E τ o:=by
 obtain⟨dst,op,ty,pos,after,guard⟩:=o
 cases op with
 |move x=>exact evF_eq ..
 |assign x=>exact evF_eq ..
 |pick c a b=>
  show(bindF (evF E τ c) fun v=>boolK v (evF E τ a) (evF E τ b) (.no "pick"))=_;unfold pureA;simp only[bindF_eq,evF_eq]
  congr 1;funext v
  cases v with
  |bool b=>cases b<;>rfl
  |_=>rfl
 |build t parts=>
  show(bindF (evsF E τ (parts.toList.map (·.2))) fun vs=>buildF E.P t (zipF (parts.toList.map (·.1)) vs))=_;simp only[bindF_eq,evsF_eq,buildF_eq,zipF_eq];rfl
 |nilCheck x=>
  show(bindF (evF E τ x) fun v=>iteF (isNil v) (.no "nil") (.ok v))=_;unfold pureA;simp only[bindF_eq,evF_eq]
  congr 1;funext v
  cases v<;>rfl
 |binOp op t x y yt=>
  show(bindF (evF E τ x) fun a=>bindF (evF E τ y) fun b=>binF E.P E.S op t a b)=_;simp only[bindF_eq,evF_eq,binF_eq];rfl
 |unOp op t x=>
  show(bindF (evF E τ x) fun a=>notF op a (lift "unOp" (a.toV.bind fun v=>(pureRun E.P (Op.unary op v)).bind ofV)))=_;simp only[bindF_eq,evF_eq,notF_eq];rfl
 |fieldAddr s x f=>
  show(bindF (evF E τ x) fun p=>bindF (faddrT E.P s f) fun d=>atF p d)=_;unfold pureA;simp only[bindF_eq,evF_eq]
  congr 1;funext p
  unfold faddrT
  cases under E.P s with
  |no s=>rfl
  |ok d=>cases d with
   |struct fs=>
    dsimp only[R.bind]
    cases lift "field" fs[f]? with
    |no s=>rfl
    |ok fd=>
     dsimp only[R.bind]
     cases size E.P fd.type with
     |no s=>rfl
     |ok z=>
      dsimp only[R.bind]
      by_cases hz:z=0
      ·rw[if_pos hz,if_pos hz]
      ·rw[if_neg hz,if_neg hz];cases p<;>rfl
   |_=>rfl
 |field t x f=>
  show(bindF (evF E τ x) fun v=>fieldF E.P t v f)=_;unfold pureA fieldF fieldTy;simp only[bindF_eq,evF_eq]
  congr 1;funext p
  cases under E.P t with
  |no s=>rfl
  |ok d=>cases d with
   |struct fs=>
    dsimp only[R.bind]
    cases lift "field" fs[f]? with
    |no s=>rfl
    |ok fd=>
     dsimp only[R.bind]
     cases p with
     |agg cs=>exact partF_eq ..
     |_=>rfl
   |_=>rfl
 |indexAddr t x ix=>
  show(bindF (evF E τ x) fun x=>bindF (evF E τ ix) fun i=>bindF (intF i) fun i=>idxF E.P t x i)=_;simp only[bindF_eq,evF_eq,idxF_eq,intF_eq];rfl
 |index t x ix=>
  show(bindF (evF E τ x) fun x=>bindF (evF E τ ix) fun i=>idxVF E.P t x i)=_;simp only[bindF_eq,evF_eq,idxVF_eq];rfl
 |extract t i=>
  show(bindF (evF E τ t) fun v=>extF v i)=_;unfold pureA;simp only[bindF_eq,evF_eq]
  congr 1;funext v
  cases v with
  |tup vs=>show @Option.rec AV (fun _=>R AV) (.no "extract") (fun v=> .ok v) (nthF vs i)=lift "extract" vs[i]?;rw[nthF_eq];cases vs[i]?<;>rfl
  |_=>rfl
 |call c=>exact callPF_eq c E τ _ rfl
 |_=>rfl
def mapF(h:H)(v:AV):R (List (AV×AV)):= @AV.rec (fun _=>H→R (List (AV×AV))) (fun _=>Unit) (fun _=>fun _=> .no "map") (fun _ _=>fun _=> .no "map") (fun _=>fun _=> .no "map") (fun _=> .no "map") (fun _ _=>fun _=> .no "map") (fun _ _ _ _=>fun _=> .no "map") (fun _ _ _=>fun _=> .no "map") (fun _=> .no "map") (fun _ _ _ _ _=>fun _=> .no "map") (fun _ _ _ _=>fun _=> .no "map") (fun _ _ _ _=>fun _=> .no "map") (fun _ _ _=>fun _=> .no "map") (fun _=> .ok []) (fun b=>fun h=>blkK h b (.no "map") (fun _=> .no "map") (fun _ _=> .no "map") (fun es=> .ok es)) (fun _=> .no "map") (fun _ _ _ _ _=>fun _=> .no "map") (fun _=> .no "map") (fun _ _=>fun _=> .no "map") (fun _ _=>fun _=> .no "map") () (fun _ _ _ _=>()) v h
theorem mapF_eq(h:H)(v:AV):mapF h v=mapOf h v:=by
 cases v with
 |map b=>
  show blkK h b _ _ _ _=_;unfold blkK mapOf;rw[nthF_eq]
  dsimp only
  cases h[b]? with
  |none=>rfl
  |some x=>cases x<;>rfl
 |_=>rfl
def strEqO(x y:AV)(d:Option Bool):Option Bool:= @AV.rec (fun _=>AV→Option Bool→Option Bool) (fun _=>Unit) (fun _=>fun _ d=>d) (fun _ _=>fun _ d=>d) (fun a=>fun y d=>(@AV.rec (fun _=>ByteArray→Option Bool→Option Bool) (fun _=>Unit) (fun _=>fun _ d=>d) (fun _ _=>fun _ d=>d) (fun b=>fun a _=>some (eqS a b)) (fun _ d=>d) (fun _ _=>fun _ d=>d) (fun _ _ _ _=>fun _ d=>d) (fun _ _ _=>fun _ d=>d) (fun _ d=>d) (fun _ _ _ _ _=>fun _ d=>d) (fun _ _ _ _=>fun _ d=>d) (fun _ _ _ _=>fun _ d=>d) (fun _ _ _=>fun _ d=>d) (fun _ d=>d) (fun _=>fun _ d=>d) (fun _ d=>d) (fun _ _ _ _ _=>fun _ d=>d) (fun _ d=>d) (fun _ _=>fun _ d=>d) (fun _ _=>fun _ d=>d) () (fun _ _ _ _=>()) y) a d) (fun _ d=>d) (fun _ _=>fun _ d=>d) (fun _ _ _ _=>fun _ d=>d) (fun _ _ _=>fun _ d=>d) (fun _ d=>d) (fun _ _ _ _ _=>fun _ d=>d) (fun _ _ _ _=>fun _ d=>d) (fun _ _ _ _=>fun _ d=>d) (fun _ _ _=>fun _ d=>d) (fun _ d=>d) (fun _=>fun _ d=>d) (fun _ d=>d) (fun _ _ _ _ _=>fun _ d=>d) (fun _ d=>d) (fun _ _=>fun _ d=>d) (fun _ _=>fun _ d=>d) () (fun _ _ _ _=>()) x y d
def keyEqF(P:Program)(S:TypeId→Bool)(t:TypeId)(x y:AV):Option Bool:=iteF (isStrT P t) (strEqO x y (eqT P S 99 t x y)) (eqT P S 99 t x y)
theorem keyEqF_eq(P:Program)(S:TypeId→Bool)(t:TypeId)(x y:AV):keyEqF P S t x y=eqT P S 99 t x y:=by
 unfold keyEqF;rw[iteF_eq];split
 ·rename_i hs
  have hu:P.underlying t=some .string:=by
   unfold isStrT at hs;split at hs
   ·assumption
   ·cases hs
  cases x with
  |str a=>cases y with
   |str b=>show some (eqS a b)=_;rw[eqT,eqS_dec];exact hu
   |_=>rfl
  |_=>rfl
 ·rfl
def findF(eq:AV→AV→Option Bool)(k:AV)(l:List (AV×AV)):Option (Option (Nat×AV)):= @List.rec (AV×AV) (fun _=>Option (Option (Nat×AV))) (some none) (fun p _ ih=> @Option.rec Bool (fun _=>Option (Option (Nat×AV))) none (fun b=>iteF b (some (some (0,p.2))) (ih.map fun r=>r.map fun(i,v)=>(i+1,v))) (eq k p.1)) l
theorem findF_eq(eq:AV→AV→Option Bool)(k:AV)(l:List (AV×AV)):findF eq k l=find eq k l:=by
 induction l with
 |nil=>rfl
 |cons p l ih=>
  obtain⟨a,v⟩:=p;unfold find;rw[←ih];show @Option.rec Bool (fun _=>Option (Option (Nat×AV))) none (fun b=>iteF b (some (some (0,v))) ((findF eq k l).map fun r=>r.map fun(i,v)=>(i+1,v))) (eq k a)=_
  cases eq k a with
  |none=>rfl
  |some b=>cases b<;>rfl
def lookF(E:Env)(τ:Fr)(h:H)(t:TypeId)(m k:Operand)(ok:Bool):R AV:=bindF (evF E τ m) fun m=>bindF (evF E τ k) fun k=>(under E.P t).bind fun
    | .map kt e=>bindF (mapF h m) fun es=>bindF (zero E.P e) fun z=>if keyA E.P 99 kt k=false then .no "lookup: key" else(lift "lookup: key" (findF (keyEqF E.P E.S kt) k es)).bind fun r=>
      let v:=match r with|some (_,v)=>v|none=>z
      if ok then .ok (.tup [v, .bool r.isSome])else .ok v
    |_=> .no "lookup"
def readF(E:Env)(τ:Fr)(h:H)(o:Oper):R AV:= @Op.rec (fun _=>Oper→Env→Fr→H→R AV) (fun _=>fun o E τ h=>readA E τ h o) (fun _=>fun o E τ h=>readA E τ h o) (fun _ _ _=>fun o E τ h=>readA E τ h o) (fun _=>fun o E τ h=>readA E τ h o) (fun _ _=>fun o E τ h=>readA E τ h o) (fun _ _=>fun o E τ h=>readA E τ h o) (fun _ _ _=>fun o E τ h=>readA E τ h o) (fun _ _ _ _=>fun o E τ h=>readA E τ h o) (fun t a _ E τ h=>bindF (evF E τ a) fun p=>loadF E.P h t p) (fun _ _ _=>fun o E τ h=>readA E τ h o) (fun _=>fun o E τ h=>readA E τ h o) (fun _=>fun o E τ h=>readA E τ h o) (fun _=>fun o E τ h=>readA E τ h o) (fun _ _ _ _ _=>fun o E τ h=>readA E τ h o) (fun _ _ _=>fun o E τ h=>readA E τ h o) (fun _ _ _=>fun o E τ h=>readA E τ h o) (fun _ _=>fun o E τ h=>readA E τ h o) (fun _ _=>fun o E τ h=>readA E τ h o) (fun _ _ _=>fun o E τ h=>readA E τ h o) (fun _ _=>fun o E τ h=>readA E τ h o) (fun _ _=>fun o E τ h=>readA E τ h o) (fun _ _ _=>fun o E τ h=>readA E τ h o) (fun _ _ _ _ _=>fun o E τ h=>readA E τ h o) (fun _ _ _=>fun o E τ h=>readA E τ h o) (fun _ _ _=>fun o E τ h=>readA E τ h o) (fun _ _ _=>fun o E τ h=>readA E τ h o) (fun _ _ _=>fun o E τ h=>readA E τ h o) (fun t m k ok _ E τ h=>lookF E τ h t m k ok) (fun _ _ _ _=>fun o E τ h=>readA E τ h o) (fun _ _ _=>fun o E τ h=>readA E τ h o) (fun _ _ _ _=>fun o E τ h=>readA E τ h o) (fun _ _=>fun o E τ h=>readA E τ h o) (fun _ _=>fun o E τ h=>readA E τ h o) (fun _=>fun o E τ h=>readA E τ h o) (fun _ _ _ _=>fun o E τ h=>readA E τ h o) (fun _ _=>fun o E τ h=>readA E τ h o) (fun _=>fun o E τ h=>readA E τ h o) (fun _=>fun o E τ h=>readA E τ h o) (fun _=>fun o E τ h=>readA E τ h o) (fun _=>fun o E τ h=>readA E τ h o) (fun _ _=>fun o E τ h=>readA E τ h o) (fun _ _ _=>fun o E τ h=>readA E τ h o) (fun _ _=>fun o E τ h=>readA E τ h o) o.op o E τ h
theorem readF_eq(E:Env)(τ:Fr)(h:H)(o:Oper):readF E τ h o=readA E τ h o:=by
 obtain⟨dst,op,ty,pos,after,guard⟩:=o
 cases op with
 |load t a=>show(bindF (evF E τ a) fun p=>loadF E.P h t p)=_;simp only[bindF_eq,evF_eq,loadF_eq];rfl
 |lookup t m k ok=>
  show lookF E τ h t m k ok=_
  have hk: ∀kt,keyEqF E.P E.S kt=eqT E.P E.S 99 kt:=fun kt=>funext fun x=>funext fun y=>keyEqF_eq ..
  unfold lookF;simp only[bindF_eq,evF_eq,mapF_eq,findF_eq,hk];rfl
 |_=>rfl
def fillEF(sz:Nat)(l:List (Nat×AV))(xs:List AV):R (List AV):= @List.rec (Nat×AV) (fun _=>List AV→R (List AV)) (fun xs=> .ok xs) (fun p _ ih xs=>iteF (andF (Nat.beq (lenF (cellsF p.2)) sz) (Nat.ble (Nat.succ p.1) (lenF xs))) (ih (setF xs p.1 p.2)) (.no "fillE")) l xs
theorem fillEF_eq(sz:Nat)(l:List (Nat×AV))(xs:List AV):fillEF sz l xs=fillE sz xs l:=by
 induction l generalizing xs with
 |nil=>rfl
 |cons p l ih=>
  obtain⟨i,v⟩:=p;unfold fillE;show iteF (andF (Nat.beq (lenF (cellsF v)) sz) (Nat.ble (Nat.succ i) (lenF xs))) (fillEF sz l (setF xs i v)) (.no "fillE")=_;rw[iteF_eq,andF_eq,ih,setF_eq,lenF_eq,lenF_eq,cellsF_eq];simp only[Bool.and_eq_true,Nat.beq_eq,Nat.ble_eq];rfl
def newF(E:Env)(f:FuncId)(dst:Option Nat)(id sz:Nat)(l:List AV):AV×Blk:=iteF (locB E f dst) (.sl id 0 (lenF l) sz false, .arr sz l) (.lst sz l (.own id), .tail)
theorem newF_eq(E:Env)(f:FuncId)(dst:Option Nat)(id sz:Nat)(l:List AV):newF E f dst id sz l=newSl E f dst id sz l:=by
 unfold newF newSl;rw[lenF_eq];cases locB E f dst<;>rfl
def elemT(P:Program)(t:TypeId):R (Nat×AV):=(under P t).bind fun
    | .slice e=>(size P e).bind fun sz=>(zero P e).bind fun z=> .ok (sz,z)
    |_=> .no "buildSlice"
def buildSlF(E:Env)(f:FuncId)(τ:Fr)(id:Nat)(dst:Option Nat)(t:TypeId)(n:Nat)(parts:Array (Nat×Operand)):R (AV×Blk):=bindF (evsF E τ (parts.toList.map (·.2))) fun vs=>bindF (elemT E.P t) fun q=>iteF (andF (Nat.beq (lenF (cellsF q.2)) q.1) (Nat.ble (Nat.mul n q.1) 16777216)) (bindF (fillEF q.1 (zipF (parts.toList.map (·.1)) vs) (List.replicate n q.2)) fun l=> .ok (newF E f dst id q.1 l)) (.no "buildSlice")
def allocF(E:Env)(f:FuncId)(τ:Fr)(id:Nat)(o:Oper):R (AV×Blk):= @Op.rec (fun _=>Oper→Env→FuncId→Fr→Nat→R (AV×Blk)) (fun _=>fun o E f τ id=>allocA E f τ id o) (fun _=>fun o E f τ id=>allocA E f τ id o) (fun _ _ _=>fun o E f τ id=>allocA E f τ id o) (fun t _ E _ _ id=>bindF (zero E.P t) fun z=> .ok (.ptr id 0, .var (cellsF z))) (fun _ x _ E _ τ id=>bindF (evF E τ x) fun v=>iteF (allLeafF (cellsF v)) (.ok (.ptr id 0, .var (cellsF v))) (.no "box")) (fun _ _=>fun o E f τ id=>allocA E f τ id o) (fun t n parts o E f τ id=>buildSlF E f τ id o.dst t n parts) (fun _ _ _ _=>fun o E f τ id=>allocA E f τ id o) (fun _ _=>fun o E f τ id=>allocA E f τ id o) (fun _ _ _=>fun o E f τ id=>allocA E f τ id o) (fun _=>fun o E f τ id=>allocA E f τ id o) (fun _=>fun o E f τ id=>allocA E f τ id o) (fun _=>fun o E f τ id=>allocA E f τ id o) (fun _ _ _ _ _=>fun o E f τ id=>allocA E f τ id o) (fun _ _ _=>fun o E f τ id=>allocA E f τ id o) (fun _ _ _=>fun o E f τ id=>allocA E f τ id o) (fun _ _=>fun o E f τ id=>allocA E f τ id o) (fun _ _=>fun o E f τ id=>allocA E f τ id o) (fun _ _ _=>fun o E f τ id=>allocA E f τ id o) (fun _ _=>fun o E f τ id=>allocA E f τ id o) (fun _ _=>fun o E f τ id=>allocA E f τ id o) (fun _ _ _=>fun o E f τ id=>allocA E f τ id o) (fun _ _ _ _ _=>fun o E f τ id=>allocA E f τ id o) (fun _ _ _=>fun o E f τ id=>allocA E f τ id o) (fun _ _ _=>fun o E f τ id=>allocA E f τ id o) (fun _ _ _=>fun o E f τ id=>allocA E f τ id o) (fun _ _ _=>fun o E f τ id=>allocA E f τ id o) (fun _ _ _ _=>fun o E f τ id=>allocA E f τ id o) (fun _ _ _ _=>fun o E f τ id=>allocA E f τ id o) (fun _ _ _=>fun o E f τ id=>allocA E f τ id o) (fun _ _ _ _=>fun o E f τ id=>allocA E f τ id o) (fun _ _=>fun o E f τ id=>allocA E f τ id o) (fun _ _=>fun o E f τ id=>allocA E f τ id o) (fun _=>fun o E f τ id=>allocA E f τ id o) (fun _ _ _ _=>fun o E f τ id=>allocA E f τ id o) (fun _ _=>fun o E f τ id=>allocA E f τ id o) (fun _=>fun o E f τ id=>allocA E f τ id o) (fun _=>fun o E f τ id=>allocA E f τ id o) (fun _=>fun o E f τ id=>allocA E f τ id o) (fun _=>fun o E f τ id=>allocA E f τ id o) (fun _ _=>fun o E f τ id=>allocA E f τ id o) (fun _ _ _=>fun o E f τ id=>allocA E f τ id o) (fun _ _=>fun o E f τ id=>allocA E f τ id o) o.op o E f τ id
theorem allocF_eq(E:Env)(f:FuncId)(τ:Fr)(id:Nat)(o:Oper):allocF E f τ id o=allocA E f τ id o:=by
 obtain⟨dst,op,ty,pos,after,guard⟩:=o
 cases op with
 |alloc t=>show(bindF (zero E.P t) fun z=> .ok (AV.ptr id 0,Blk.var (cellsF z)))=_;simp only[bindF_eq,cellsF_eq];rfl
 |box t x=>
  show(bindF (evF E τ x) fun v=>iteF (allLeafF (cellsF v)) (.ok (AV.ptr id 0,Blk.var (cellsF v))) (.no "box"))=_;simp only[bindF_eq,evF_eq,cellsF_eq,allLeafF_eq,iteF_eq];rfl
 |buildSlice t n parts=>
  show buildSlF E f τ id dst t n parts=_;unfold buildSlF allocA elemT;simp only[bindF_eq,evsF_eq,cellsF_eq,newF_eq,fillEF_eq,zipF_eq,iteF_eq,andF_eq,lenF_eq]
  congr 1;funext vs
  cases under E.P t with
  |no s=>rfl
  |ok d=>cases d with
   |slice e=>
    dsimp only[R.bind]
    cases size E.P e with
    |no s=>rfl
    |ok sz=>
     dsimp only[R.bind]
     cases zero E.P e with
     |no s=>rfl
     |ok z=>
      dsimp only[R.bind]
      simp only[Bool.and_eq_true,Nat.beq_eq,Nat.ble_eq];rfl
   |_=>rfl
 |_=>rfl
def szF(v:AV)(s:Nat):Bool:= @AV.rec (fun _=>Nat→Bool) (fun _=>Unit) (fun _=>fun _=>false) (fun _ _=>fun _=>false) (fun _=>fun _=>false) (fun _=>false) (fun _ _=>fun _=>false) (fun _ _ _ _=>fun _=>false) (fun _ _ _=>fun _=>false) (fun _=>true) (fun _ _ _ sz _=>fun s=>Nat.beq sz s) (fun _ _ _ _=>fun s=>Nat.beq s 1) (fun sz _ _ _=>fun s=>Nat.beq sz s) (fun _ _ _=>fun _=>false) (fun _=>false) (fun _=>fun _=>false) (fun _=>false) (fun _ _ _ _ _=>fun _=>false) (fun _=>false) (fun _ _=>fun _=>false) (fun _ _=>fun _=>false) () (fun _ _ _ _=>()) v s
theorem szF_eq(v:AV)(s:Nat):szF v s=szA v s:=by
 have hb: ∀m n:Nat,Nat.beq m n=(m==n):=fun m n=>by rw[Bool.eq_iff_iff,Nat.beq_eq,beq_iff_eq]
 cases v<;>first|rfl|exact hb _ _
def elemsF(h:H)(v:AV):R (List AV):= @AV.rec (fun _=>H→AV→R (List AV)) (fun _=>Unit) (fun _=>fun h v=>elemsA h v) (fun _ _=>fun h v=>elemsA h v) (fun _=>fun h v=>elemsA h v) (fun h v=>elemsA h v) (fun _ _=>fun h v=>elemsA h v) (fun _ _ _ _=>fun h v=>elemsA h v) (fun _ _ _=>fun h v=>elemsA h v) (fun _ _=> .ok []) (fun _ _ _ _ _=>fun h v=>elemsA h v) (fun _ _ _ _=>fun h v=>elemsA h v) (fun _ l _ _=>fun _ _=> .ok l) (fun _ _ _=>fun h v=>elemsA h v) (fun h v=>elemsA h v) (fun _=>fun h v=>elemsA h v) (fun h v=>elemsA h v) (fun _ _ _ _ _=>fun h v=>elemsA h v) (fun h v=>elemsA h v) (fun _ _=>fun h v=>elemsA h v) (fun _ _=>fun h v=>elemsA h v) () (fun _ _ _ _=>()) v h v
theorem elemsF_eq(h:H)(v:AV):elemsF h v=elemsA h v:=by cases v<;>rfl
def newsTy(P:Program)(t:TypeId):R Nat:=(under P t).bind fun| .slice _=> .ok 0| .string=> .ok 1|_=> .no "append"
def newsF(P:Program)(sz:Nat)(xt:TypeId)(x:AV)(h:H):R (List AV):=bindF (newsTy P xt) fun q=>iteF (Nat.beq q 0) (iteF (szF x sz) (elemsF h x) (.no "append: size")) (newsA P sz xt x h)
theorem newsF_eq(P:Program)(sz:Nat)(xt:TypeId)(x:AV)(h:H):newsF P sz xt x h=newsA P sz xt x h:=by
 unfold newsF newsTy;rw[bindF_eq]
 cases hu:under P xt with
 |no s=>unfold newsA;rw[hu]
 |ok d=>cases d with
  |slice e=>
   dsimp only[R.bind]
   show iteF (szF x sz) (elemsF h x) (.no "append: size")=_;unfold newsA;rw[hu,iteF_eq,szF_eq,elemsF_eq]
  |string=>rfl
  |_=>unfold newsA;rw[hu]
def appT(P:Program)(st:TypeId):R (TypeInfo×AV×Bool):=(under P st).bind fun
 | .slice e=>(info P e).bind fun i=>(zero P e).bind fun z=> .ok (i,z,andF (Nat.ble 1 i.bytes) (Nat.beq (lenF (cellsF z)) i.size))
 |_=> .no "append"
def isIntT(P:Program)(t:TypeId):Bool:=match P.underlying t with|some (.int _)=>true|_=>false
def newsIF(P:Program)(i:TypeInfo)(z:AV)(xt:TypeId)(x:AV)(h:H):R (List AV):=iteF (isIntT P xt) (zerosA i z x) (newsF P i.size xt x h)
theorem newsIF_eq(P:Program)(i:TypeInfo)(z:AV)(xt:TypeId)(x:AV)(h:H):newsIF P i z xt x h=newsI P i z xt x h:=by
 unfold newsIF newsI isIntT;rw[iteF_eq,newsF_eq]
 cases P.underlying xt with
 |none=>rfl
 |some d=>cases d<;>rfl
def emptyF(l:List AV):Bool:= @List.rec AV (fun _=>Bool) true (fun _ _ _=>false) l
theorem emptyF_eq(l:List AV):emptyF l=l.isEmpty:=by cases l<;>rfl
def isTail(x:Blk):Bool:= @Blk.rec (fun _=>Bool) (fun _=>false) (fun _ _=>false) (fun _=>false) true false false x
def grow(E:Env)(f:FuncId)(dst:Option Nat)(sz:Nat)(l:List AV)(h:H):R (AV×H):= @Prod.rec AV Blk (fun _=>R (AV×H)) (fun v b=> .ok (v,appF h [b])) (newF E f dst (lenF h) sz l)
def appSlow(E:Env)(f:FuncId)(dst:Option Nat)(sz:Nat)(s:AV)(new:List AV)(h:H):R (AV×H):=match s with
    | .nils=>if new.isEmpty then .ok (.nils,h)else .ok ((newSl E f dst h.length sz new).1,h++ [(newSl E f dst h.length sz new).2])
    | .lst sz old .clip=>if new.isEmpty then .ok (.lst sz old .clip,h)else .ok ((newSl E f dst h.length sz (old++new)).1,h++ [(newSl E f dst h.length sz (old++new)).2])
    | .lst sz old (.own t)=>match h[t]? with
      |some .tail=> .ok (.lst sz (old++new) (.own h.length),h.set t .dead++ [.tail])
      |_=> .no "append: spent"
    | .sl b off len sz clip=>(elemsA h s).bind fun old=>
      if clip then(if new.isEmpty then .ok (s,h)else .ok ((newSl E f dst h.length sz (old++new)).1,h++ [(newSl E f dst h.length sz (old++new)).2]))
      else if off=0 then .ok (.sl h.length 0 (old++new).length sz false,h.set b .dead++ [.arr sz (old++new)])else .no "append: middle"
    |_=> .no "append"
def appFast(E:Env)(f:FuncId)(dst:Option Nat)(sz:Nat)(s:AV)(new:List AV)(h:H):R (AV×H):= @AV.rec (fun _=>Env→FuncId→Option Nat→Nat→List AV→H→R (AV×H)→R (AV×H)) (fun _=>Unit) (fun _=>fun _ _ _ _ _ _ d=>d) (fun _ _=>fun _ _ _ _ _ _ d=>d) (fun _=>fun _ _ _ _ _ _ d=>d) (fun _ _ _ _ _ _ d=>d) (fun _ _=>fun _ _ _ _ _ _ d=>d) (fun _ _ _ _=>fun _ _ _ _ _ _ d=>d) (fun _ _ _=>fun _ _ _ _ _ _ d=>d) (fun E f dst sz new h _=>iteF (emptyF new) (.ok (.nils,h)) (grow E f dst sz new h)) (fun _ _ _ _ _=>fun _ _ _ _ _ _ d=>d) (fun _ _ _ _=>fun _ _ _ _ _ _ d=>d) (fun sz old tl _=>fun E f dst _ new h d=> @Tl.rec (fun _=>R (AV×H)) (iteF (emptyF new) (.ok (.lst sz old .clip,h)) (grow E f dst sz (appF old new) h)) d (fun t=> @Option.rec Blk (fun _=>R (AV×H)) (.no "append: spent") (fun x=>iteF (isTail x) (.ok (.lst sz (appF old new) (.own (lenF h)),appF (setF h t .dead) [.tail])) (.no "append: spent")) (nthF h t)) tl) (fun _ _ _=>fun _ _ _ _ _ _ d=>d) (fun _ _ _ _ _ _ d=>d) (fun _=>fun _ _ _ _ _ _ d=>d) (fun _ _ _ _ _ _ d=>d) (fun _ _ _ _ _=>fun _ _ _ _ _ _ d=>d) (fun _ _ _ _ _ _ d=>d) (fun _ _=>fun _ _ _ _ _ _ d=>d) (fun _ _=>fun _ _ _ _ _ _ d=>d) () (fun _ _ _ _=>()) s E f dst sz new h (appSlow E f dst sz s new h)
theorem grow_eq(E:Env)(f:FuncId)(dst:Option Nat)(sz:Nat)(l:List AV)(h:H):grow E f dst sz l h= .ok ((newSl E f dst h.length sz l).1,h++ [(newSl E f dst h.length sz l).2]):=by
 unfold grow;rw[newF_eq,lenF_eq];generalize newSl E f dst (List.length h) sz l=q;obtain⟨v,b⟩:=q
 dsimp only;rw[appF_eq]
theorem appFast_eq(E:Env)(f:FuncId)(dst:Option Nat)(sz:Nat)(s:AV)(new:List AV)(h:H):appFast E f dst sz s new h=appSlow E f dst sz s new h:=by
 cases s with
 |nils=>
  show iteF (emptyF new) (.ok (.nils,h)) (grow E f dst sz new h)=_;rw[iteF_eq,emptyF_eq,grow_eq];rfl
 |lst sz' old tl=>cases tl with
  |clip=>
   show iteF (emptyF new) (.ok (.lst sz' old .clip,h)) (grow E f dst sz' (appF old new) h)=_;rw[iteF_eq,emptyF_eq,grow_eq,appF_eq];rfl
  |open_=>rfl
  |own t=>
   show @Option.rec Blk (fun _=>R (AV×H)) (.no "append: spent") (fun x=>iteF (isTail x) (.ok (.lst sz' (appF old new) (.own (lenF h)),appF (setF h t .dead) [.tail])) (.no "append: spent")) (nthF h t)=_;unfold appSlow;rw[nthF_eq,appF_eq,appF_eq,lenF_eq,setF_eq]
   dsimp only
   cases h[t]? with
   |none=>rfl
   |some x=>cases x<;>rfl
 |_=>rfl
def appendF(E:Env)(f:FuncId)(dst:Option Nat)(st xt:TypeId)(s x:AV)(h:H):R (AV×H):=bindF (appT E.P st) fun q=>bindF (newsIF E.P q.1 q.2.1 xt x h) fun new=>bindF (lenAF s) fun n=>iteF (andF (szF s q.1.size) (andF (Nat.ble (Nat.mul (Nat.add n (lenF new)) q.1.bytes) 140000000000000) (andF (Nat.ble (Nat.add n (lenF new)) 140000000000000) (andF q.2.2 (allsF new))))) (appFast E f dst q.1.size s new h) (.no "append: room")
theorem appendF_eq(E:Env)(f:FuncId)(dst:Option Nat)(st xt:TypeId)(s x:AV)(h:H):appendF E f dst st xt s x h=appendA E f dst st xt s x h:=by
 unfold appendF appendA appT;simp only[bindF_eq,newsIF_eq,lenAF_eq,iteF_eq,andF_eq,szF_eq,lenF_eq,allsF_eq,cellsF_eq,appFast_eq]
 cases under E.P st with
 |no s=>rfl
 |ok d=>cases d with
  |slice e=>
   dsimp only[R.bind]
   cases info E.P e with
   |no s=>rfl
   |ok i=>
    dsimp only[R.bind]
    cases zero E.P e with
    |no s=>rfl
    |ok z=>
     dsimp only[R.bind]
     cases newsI E.P i z xt x h with
     |no s=>rfl
     |ok new=>
      dsimp only[R.bind]
      cases lenA s with
      |no s=>rfl
      |ok n=>
       dsimp only[R.bind]
       simp only[Bool.and_eq_true,Nat.beq_eq,Nat.ble_eq,and_assoc];rfl
  |_=>rfl
def isAppB(b:Builtin):Bool:=match b with| .append=>true|_=>false
def twoT(l:List Operand):Option (Operand×Operand):=match l with| [x,y]=>some (x,y)|_=>none
def typesT(ts:Array TypeId):R (TypeId×TypeId):=(lift "append" ts[0]?).bind fun t=>(lift "append" ts[1]?).bind fun u=> .ok (t,u)
def callHF(c:Call)(E:Env)(f:FuncId)(τ:Fr)(h:H)(o:Oper):R (AV×H):= @Callee.rec (fun _=>R (AV×H)) (fun _=>heavyA E f τ h o) (fun _ _=>heavyA E f τ h o) (fun b=>iteF (isAppB b) (@Option.rec (Operand×Operand) (fun _=>R (AV×H)) (heavyA E f τ h o) (fun q=>bindF (evF E τ q.1) fun s=>bindF (evF E τ q.2) fun x=>bindF (typesT c.argTypes) fun ts=>appendF E f o.dst ts.1 ts.2 s x h) (twoT c.args.toList)) (heavyA E f τ h o)) c.callee
theorem callHF_eq(c:Call)(E:Env)(f:FuncId)(τ:Fr)(h:H)(o:Oper)(ho:o.op= .call c):callHF c E f τ h o=heavyA E f τ h o:=by
 obtain⟨callee,args,ts⟩:=c;unfold callHF
 cases callee with
 |builtin b=>
  show iteF (isAppB b) _ _=_;rw[iteF_eq];split
  ·rename_i hb
   have hb:b= .append:=by cases b<;>first|rfl|cases hb
   subst hb;show @Option.rec (Operand×Operand) (fun _=>R (AV×H)) (heavyA E f τ h o) _ (twoT args.toList)=_
   cases hl:args.toList with
   |nil=>rfl
   |cons x l=>cases l with
    |nil=>rfl
    |cons y l=>cases l with
     |cons z l=>rfl
     |nil=>
      show(bindF (evF E τ x) fun s=>bindF (evF E τ y) fun v=>bindF (typesT ts) fun ts=>appendF E f o.dst ts.1 ts.2 s v h)=_;unfold heavyA typesT;simp only[ho,hl,bindF_eq,evF_eq,evs,appendF_eq]
      cases ev E τ x with
      |no s=>rfl
      |ok a=>
       dsimp only[R.bind]
       cases ev E τ y with
       |no s=>rfl
       |ok b=>
        dsimp only[R.bind]
        cases lift "append" ts[0]? with
        |no s=>rfl
        |ok t=>
         dsimp only[R.bind]
         cases lift "append" ts[1]?<;>rfl
  ·rfl
 |_=>rfl
def heavyF(E:Env)(f:FuncId)(τ:Fr)(h:H)(o:Oper):R (AV×H):= @Op.rec (fun _=>Oper→Env→FuncId→Fr→H→R (AV×H)) (fun _=>fun o E f τ h=>heavyA E f τ h o) (fun _=>fun o E f τ h=>heavyA E f τ h o) (fun _ _ _=>fun o E f τ h=>heavyA E f τ h o) (fun _=>fun o E f τ h=>heavyA E f τ h o) (fun _ _=>fun o E f τ h=>heavyA E f τ h o) (fun _ _=>fun o E f τ h=>heavyA E f τ h o) (fun _ _ _=>fun o E f τ h=>heavyA E f τ h o) (fun _ _ _ _=>fun o E f τ h=>heavyA E f τ h o) (fun _ _=>fun o E f τ h=>heavyA E f τ h o) (fun t a x _ E _ τ h=>bindF (evF E τ a) fun p=>bindF (evF E τ x) fun v=>bindF (storeF E.P h t v p) fun h'=> .ok (undef,h')) (fun _=>fun o E f τ h=>heavyA E f τ h o) (fun _=>fun o E f τ h=>heavyA E f τ h o) (fun _=>fun o E f τ h=>heavyA E f τ h o) (fun _ _ _ _ _=>fun o E f τ h=>heavyA E f τ h o) (fun _ _ _=>fun o E f τ h=>heavyA E f τ h o) (fun _ _ _=>fun o E f τ h=>heavyA E f τ h o) (fun _ _=>fun o E f τ h=>heavyA E f τ h o) (fun _ _=>fun o E f τ h=>heavyA E f τ h o) (fun _ _ _=>fun o E f τ h=>heavyA E f τ h o) (fun _ _=>fun o E f τ h=>heavyA E f τ h o) (fun _ _=>fun o E f τ h=>heavyA E f τ h o) (fun _ _ _=>fun o E f τ h=>heavyA E f τ h o) (fun _ _ _ _ _=>fun o E f τ h=>heavyA E f τ h o) (fun _ _ _=>fun o E f τ h=>heavyA E f τ h o) (fun _ _ _=>fun o E f τ h=>heavyA E f τ h o) (fun _ _ _=>fun o E f τ h=>heavyA E f τ h o) (fun _ _ _=>fun o E f τ h=>heavyA E f τ h o) (fun _ _ _ _=>fun o E f τ h=>heavyA E f τ h o) (fun _ _ _ _=>fun o E f τ h=>heavyA E f τ h o) (fun _ _ _=>fun o E f τ h=>heavyA E f τ h o) (fun _ _ _ _=>fun o E f τ h=>heavyA E f τ h o) (fun _ _=>fun o E f τ h=>heavyA E f τ h o) (fun _ _=>fun o E f τ h=>heavyA E f τ h o) (fun _=>fun o E f τ h=>heavyA E f τ h o) (fun _ _ _ _=>fun o E f τ h=>heavyA E f τ h o) (fun _ _=>fun o E f τ h=>heavyA E f τ h o) (fun c o E f τ h=>callHF c E f τ h o) (fun _=>fun o E f τ h=>heavyA E f τ h o) (fun _=>fun o E f τ h=>heavyA E f τ h o) (fun _=>fun o E f τ h=>heavyA E f τ h o) (fun _ _=>fun o E f τ h=>heavyA E f τ h o) (fun _ _ _=>fun o E f τ h=>heavyA E f τ h o) (fun _ _=>fun o E f τ h=>heavyA E f τ h o) o.op o E f τ h
theorem heavyF_eq(E:Env)(f:FuncId)(τ:Fr)(h:H)(o:Oper):heavyF E f τ h o=heavyA E f τ h o:=by
 obtain⟨dst,op,ty,pos,after,guard⟩:=o
 cases op with
 |store t a x=>
  show(bindF (evF E τ a) fun p=>bindF (evF E τ x) fun v=>bindF (storeF E.P h t v p) fun h'=> .ok (undef,h'))=_;simp only[bindF_eq,evF_eq,storeF_eq];rfl
 |call c=>exact callHF_eq c E f τ h _ rfl
 |_=>rfl
def applyF(v:AV)(c:Call)(E:Env)(call:CallF)(τ:Fr)(h:H):R (AV×H):= @AV.rec (fun _=>Call→Env→CallF→Fr→H→R (AV×H)) (fun _=>Unit) (fun _=>fun _ _ _ _ _=> .no "call") (fun _ _=>fun _ _ _ _ _=> .no "call") (fun _=>fun _ _ _ _ _=> .no "call") (fun _ _ _ _ _=> .no "call") (fun _ _=>fun _ _ _ _ _=> .no "call") (fun _ _ _ _=>fun _ _ _ _ _=> .no "call") (fun _ _ _=>fun _ _ _ _ _=> .no "call") (fun _ _ _ _ _=> .no "call") (fun _ _ _ _ _=>fun _ _ _ _ _=> .no "call") (fun _ _ _ _=>fun _ _ _ _ _=> .no "call") (fun _ _ _ _=>fun _ _ _ _ _=> .no "call") (fun _ _ _=>fun _ _ _ _ _=> .no "call") (fun _ _ _ _ _=> .no "call") (fun _=>fun _ _ _ _ _=> .no "call") (fun _ _ _ _ _=> .no "call") (fun g first caps _ _=>fun c E call τ h=>bindF (evsF E τ c.args.toList) fun vs=>(fun as=> @Option.rec AV (fun _=>R (AV×H)) (call g as h) (fun r=> .ok (thaw h r)) (E.C g as)) (appF first (appF vs caps))) (fun _ _ _ _ _=> .no "call") (fun _ _=>fun _ _ _ _ _=> .no "call") (fun _ _=>fun _ _ _ _ _=> .no "call") () (fun _ _ _ _=>()) v c E call τ h
theorem applyF_eq(v:AV)(c:Call)(E:Env)(call:CallF)(τ:Fr)(h:H):applyF v c E call τ h=match v with
  | .clo g first caps=>(evs E τ c.args.toList).bind fun vs=>match E.C g (first++vs++caps)with
    |some r=> .ok (thaw h r)
    |none=>call g (first++vs++caps) h
  |_=> .no "call" :=by
 cases v with
 |clo g first caps=>
  show(bindF (evsF E τ c.args.toList) fun vs=> @Option.rec AV (fun _=>R (AV×H)) (call g (appF first (appF vs caps)) h) (fun r=> .ok (thaw h r)) (E.C g (appF first (appF vs caps))))=_;rw[bindF_eq,evsF_eq]
  dsimp only
  congr 1;funext vs
  rw[appF_eq,appF_eq,←List.append_assoc]
  cases E.C g (first++vs++caps)<;>rfl
 |_=>rfl
def callVF(c:Call)(E:Env)(call:CallF)(τ:Fr)(h:H)(o:Oper):R (AV×H):= @Callee.rec (fun _=>R (AV×H)) (fun g=>bindF (evF E τ g) fun v=>applyF v c E call τ h) (fun _ _=> .no "call") (fun _=> .no "call") c.callee
def callF(E:Env)(call:CallF)(τ:Fr)(h:H)(o:Oper):R (AV×H):= @Op.rec (fun _=>Oper→Env→CallF→Fr→H→R (AV×H)) (fun _=>fun _ _ _ _ _=> .no "call") (fun _=>fun _ _ _ _ _=> .no "call") (fun _ _ _=>fun _ _ _ _ _=> .no "call") (fun _=>fun _ _ _ _ _=> .no "call") (fun _ _=>fun _ _ _ _ _=> .no "call") (fun _ _=>fun _ _ _ _ _=> .no "call") (fun _ _ _=>fun _ _ _ _ _=> .no "call") (fun _ _ _ _=>fun _ _ _ _ _=> .no "call") (fun _ _=>fun _ _ _ _ _=> .no "call") (fun _ _ _=>fun _ _ _ _ _=> .no "call") (fun _=>fun _ _ _ _ _=> .no "call") (fun _=>fun _ _ _ _ _=> .no "call") (fun _=>fun _ _ _ _ _=> .no "call") (fun _ _ _ _ _=>fun _ _ _ _ _=> .no "call") (fun _ _ _=>fun _ _ _ _ _=> .no "call") (fun _ _ _=>fun _ _ _ _ _=> .no "call") (fun _ _=>fun _ _ _ _ _=> .no "call") (fun _ _=>fun _ _ _ _ _=> .no "call") (fun _ _ _=>fun _ _ _ _ _=> .no "call") (fun _ _=>fun _ _ _ _ _=> .no "call") (fun _ _=>fun _ _ _ _ _=> .no "call") (fun _ _ _=>fun _ _ _ _ _=> .no "call") (fun _ _ _ _ _=>fun _ _ _ _ _=> .no "call") (fun _ _ _=>fun _ _ _ _ _=> .no "call") (fun _ _ _=>fun _ _ _ _ _=> .no "call") (fun _ _ _=>fun _ _ _ _ _=> .no "call") (fun _ _ _=>fun _ _ _ _ _=> .no "call") (fun _ _ _ _=>fun _ _ _ _ _=> .no "call") (fun _ _ _ _=>fun _ _ _ _ _=> .no "call") (fun _ _ _=>fun _ _ _ _ _=> .no "call") (fun _ _ _ _=>fun _ _ _ _ _=> .no "call") (fun _ _=>fun _ _ _ _ _=> .no "call") (fun _ _=>fun _ _ _ _ _=> .no "call") (fun _=>fun _ _ _ _ _=> .no "call") (fun _ _ _ _=>fun _ _ _ _ _=> .no "call") (fun _ _=>fun _ _ _ _ _=> .no "call") (fun c o E call τ h=>callVF c E call τ h o) (fun _=>fun _ _ _ _ _=> .no "call") (fun _=>fun _ _ _ _ _=> .no "call") (fun _=>fun _ _ _ _ _=> .no "call") (fun _ _=>fun _ _ _ _ _=> .no "call") (fun _ _ _=>fun _ _ _ _ _=> .no "call") (fun _ _=>fun _ _ _ _ _=> .no "call") o.op o E call τ h
theorem callF_eq(E:Env)(call:CallF)(τ:Fr)(h:H)(o:Oper):callF E call τ h o=callA E call τ h o:=by
 obtain⟨dst,op,ty,pos,after,guard⟩:=o
 cases op with
 |call c=>
  obtain⟨callee,args,ts⟩:=c
  cases callee with
  |value g=>
   show(bindF (evF E τ g) fun v=>applyF v ⟨.value g,args,ts⟩ E call τ h)=_;rw[bindF_eq,evF_eq];unfold callA
   dsimp only
   congr 1;funext v
   exact applyF_eq ..
  |_=>rfl
 |_=>rfl
def opF(E:Env)(f:FuncId)(call:CallF)(τ:Fr)(h:H)(o:Oper):R (AV×H):= @Kind.rec (fun _=>Env→FuncId→CallF→Fr→H→Oper→R (AV×H))
 (fun E _ _ τ h o=>bindF (pureF E τ o) fun v=> .ok (v,h))
 (fun E _ _ τ h o=>bindF (readF E τ h o) fun v=> .ok (v,h))
 (fun E _ _ τ h o=>bindF (lightA E τ o) fun v=> .ok (v,h))
 (fun E f _ τ h o=>bindF (allocF E f τ (lenF h) o) fun p=> @Prod.rec AV Blk (fun _=>R (AV×H)) (fun v b=> .ok (v,appF h [b])) p)
 (fun E f _ τ h o=>heavyF E f τ h o)
 (fun E _ call τ h o=>callF E call τ h o)
 (kindOf E o.op) E f call τ h o
theorem opF_eq(E:Env)(f:FuncId)(call:CallF)(τ:Fr)(h:H)(o:Oper):opF E f call τ h o=opA E f call τ h o:=by
 unfold opF opA
 cases kindOf E o.op with
 |pure=>dsimp only;rw[bindF_eq,pureF_eq]
 |read=>dsimp only;rw[bindF_eq,readF_eq]
 |light=>dsimp only;rw[bindF_eq]
 |alloc=>dsimp only;rw[bindF_eq,allocF_eq,lenF_eq];congr 1;funext p;obtain⟨v,b⟩:=p;dsimp only;rw[appF_eq]
 |heavy=>exact heavyF_eq ..
 |call=>exact callF_eq ..
def updF(τ:Fr)(i:Nat)(v:AV):Fr:=fun j=> @Bool.rec (fun _=>AV) (τ j) v (Nat.beq j i)
def putF(N:Nat)(τ:Fr)(dst:Option Nat)(v:AV):R Fr:= @Option.rec Nat (fun _=>R Fr) (.ok τ) (fun d=>iteF (Nat.ble (Nat.succ d) N) (.ok (updF τ d v)) (.no "slot")) dst
theorem putF_eq(N:Nat)(τ:Fr)(dst:Option Nat)(v:AV):putF N τ dst v=putA N τ dst v:=by
 cases dst with
 |none=>rfl
 |some d=>
  show iteF (Nat.ble (d+1) N) (R.ok (updF τ d v)) (R.no "slot")=(match Nat.ble (d+1) N with|true=>R.ok (upd τ d v)|false=>R.no "slot")
  cases Nat.ble (d+1) N<;>rfl
def goF(E:Env)(f:FuncId)(call:CallF)(N:Nat)(τ:Fr)(h:H)(o:Oper):R (Fr×H):= @R.rec (AV×H) (fun _=>R (Fr×H)) (fun p=> @Prod.rec AV H (fun _=>R (Fr×H)) (fun v h'=>bindF (putF N τ o.dst v) fun τ'=> .ok (τ',h')) p) (fun s=> .no (s++ " @ " ++o.pos)) (opF E f call τ h o)
def guardT(ops:Array Oper)(q:Nat×Bool):Option (Nat×Bool):=((ops[q.1]?).bind (·.dst)).map fun d=>(d,q.2)
def wantV(v:AV)(w:Bool):Bool:= @AV.rec (fun _=>Bool→Bool) (fun _=>Unit) (fun b=>fun w=> @Bool.rec (fun _=>Bool) (iteF w false true) w b) (fun _ _=>fun _=>false) (fun _=>fun _=>false) (fun _=>false) (fun _ _=>fun _=>false) (fun _ _ _ _=>fun _=>false) (fun _ _ _=>fun _=>false) (fun _=>false) (fun _ _ _ _ _=>fun _=>false) (fun _ _ _ _=>fun _=>false) (fun _ _ _ _=>fun _=>false) (fun _ _ _=>fun _=>false) (fun _=>false) (fun _=>fun _=>false) (fun _=>false) (fun _ _ _ _ _=>fun _=>false) (fun _=>false) (fun _ _=>fun _=>false) (fun _ _=>fun _=>false) () (fun _ _ _ _=>()) v w
def skipF(N:Nat)(τ:Fr)(h:H)(o:Oper):R (Fr×H):=bindF (putF N τ o.dst undef) fun τ'=> .ok (τ',h)
def guardF(E:Env)(f:FuncId)(call:CallF)(N:Nat)(ops:Array Oper)(τ:Fr)(h:H)(o:Oper)(q:Nat×Bool):R (Fr×H):= @Option.rec (Nat×Bool) (fun _=>R (Fr×H)) (skipF N τ h o) (fun r=> @Prod.rec Nat Bool (fun _=>R (Fr×H)) (fun d w=>iteF (isTop (τ d)) (.no "guard") (iteF (wantV (τ d) w) (goF E f call N τ h o) (skipF N τ h o))) r) (guardT ops q)
def stepF(E:Env)(f:FuncId)(call:CallF)(N:Nat)(ops:Array Oper)(τ:Fr)(h:H)(o:Oper):R (Fr×H):= @Option.rec (Nat×Bool) (fun _=>R (Fr×H)) (goF E f call N τ h o) (fun q=>guardF E f call N ops τ h o q) o.guard
theorem goF_eq(E:Env)(f:FuncId)(call:CallF)(N:Nat)(τ:Fr)(h:H)(o:Oper):goF E f call N τ h o=match opA E f call τ h o with
  | .ok (v,h')=>(putA N τ o.dst v).bind fun τ'=> .ok (τ',h')
  | .no s=> .no (s++ " @ " ++o.pos):=by
 unfold goF;rw[opF_eq]
 cases opA E f call τ h o with
 |no s=>rfl
 |ok p=>obtain⟨v,h'⟩:=p;dsimp only;rw[bindF_eq,putF_eq]
theorem guard_eq{ops:Array Oper}{τ:Fr}{o:Oper}{q:Nat×Bool}(hg:o.guard=some q){α:Type}(x:α)(y z:α):(if gtop ops τ o=true then x else if wantA ops τ o=true then y else z)= @Option.rec (Nat×Bool) (fun _=>α) z (fun r=> @Prod.rec Nat Bool (fun _=>α) (fun d w=>iteF (isTop (τ d)) x (iteF (wantV (τ d) w) y z)) r) (guardT ops q):=by
 obtain⟨j,w⟩:=q
 cases hd:(ops[j]?).bind (·.dst)with
 |none=>
  have h1:gtop ops τ o=false:=by unfold gtop;rw[hg];dsimp only;rw[hd]
  have h2:wantA ops τ o=false:=by unfold wantA;rw[hg];dsimp only;rw[hd]
  have h3:guardT ops (j,w)=none:=by unfold guardT;dsimp only;rw[hd];rfl
  rw[h1,h2,h3];rfl
 |some d=>
  have h1:gtop ops τ o=isTop (τ d):=by
   unfold gtop;rw[hg];dsimp only;rw[hd];dsimp only;generalize τ d=v
   cases v<;>rfl
  have h2:wantA ops τ o=wantV (τ d) w:=by
   unfold wantA;rw[hg];dsimp only;rw[hd];dsimp only;generalize τ d=v
   cases v with
   |bool b=>cases b<;>cases w<;>rfl
   |_=>rfl
  have h3:guardT ops (j,w)=some (d,w):=by unfold guardT;dsimp only;rw[hd];rfl
  rw[h1,h2,h3];show _=iteF (isTop (τ d)) x (iteF (wantV (τ d) w) y z);rw[iteF_eq,iteF_eq]
theorem stepF_eq(E:Env)(f:FuncId)(call:CallF)(N:Nat)(ops:Array Oper)(τ:Fr)(h:H)(o:Oper):stepF E f call N ops τ h o=stepA E f call N ops τ h o:=by
 have hs:skipF N τ h o=(putA N τ o.dst undef).bind fun τ'=> .ok (τ',h):=by unfold skipF;rw[bindF_eq,putF_eq]
 unfold stepF stepA
 cases hg:o.guard with
 |none=>
  have h1:gtop ops τ o=false:=by unfold gtop;rw[hg]
  have h2:wantA ops τ o=true:=by unfold wantA;rw[hg]
  rw[h1,h2];exact goF_eq ..
 |some q=>
  refine Eq.trans ?_ (guard_eq hg _ _ _).symm
  show guardF E f call N ops τ h o q=_;unfold guardF;rw[goF_eq,hs];rfl
def opsF(E:Env)(f:FuncId)(call:CallF)(N:Nat)(ops:Array Oper)(l:List Oper)(τ:Fr)(h:H):R (Fr×H):= @List.rec Oper (fun _=>Fr→H→R (Fr×H)) (fun τ h=> .ok (τ,h)) (fun o _ ih τ h=>bindF (stepF E f call N ops τ h o) fun p=> @Prod.rec Fr H (fun _=>R (Fr×H)) (fun τ h=>ih τ h) p) l τ h
theorem opsF_eq(E:Env)(f:FuncId)(call:CallF)(N:Nat)(ops:Array Oper)(l:List Oper)(τ:Fr)(h:H):opsF E f call N ops l τ h=opsA E f call N ops l τ h:=by
 induction l generalizing τ h with
 |nil=>rfl
 |cons o l ih=>
  show(bindF (stepF E f call N ops τ h o) fun p=> @Prod.rec Fr H (fun _=>R (Fr×H)) (fun τ h=>opsF E f call N ops l τ h) p)=_;unfold opsA;rw[bindF_eq,stepF_eq]
  congr 1;funext p
  exact ih p.1 p.2
def alF(E:Env)(f:FuncId)(N:Nat)(id:Nat)(τ:Fr)(h:H)(o:Oper):R (Fr×H):= @Option.rec Blk (fun _=>R (Fr×H)) (.no "hole") (fun x=> @Blk.rec (fun _=>R (Fr×H)) (fun _=> .no "hole") (fun _ _=> .no "hole") (fun _=> .no "hole") (.no "hole") (.no "hole") (@R.rec (AV×Blk) (fun _=>R (Fr×H)) (fun p=> @Prod.rec AV Blk (fun _=>R (Fr×H)) (fun v b=>bindF (putF N τ o.dst v) fun τ'=> .ok (τ',setF h id b)) p) (fun s=> .no (s++ " @ " ++o.pos)) (allocF E f τ id o)) x) (nthF h id)
def stepDF(E:Env)(f:FuncId)(call:CallF)(N:Nat)(ops:Array Oper)(id:Nat)(τ:Fr)(h:H)(o:Oper):R (Fr×H):=iteF (isAl E o) (@Option.rec (Nat×Bool) (fun _=>R (Fr×H)) (alF E f N id τ h o) (fun q=>iteF (gtop ops τ o) (.no "guard") (iteF (wantA ops τ o) (alF E f N id τ h o) (skipF N τ h o))) o.guard) (stepF E f call N ops τ h o)
theorem alF_eq(E:Env)(f:FuncId)(N:Nat)(id:Nat)(τ:Fr)(h:H)(o:Oper):alF E f N id τ h o=match h[id]? with
   |some .hole=>match allocA E f τ id o with
    | .ok (v,b)=>(putA N τ o.dst v).bind fun τ'=> .ok (τ',h.set id b)
    | .no s=> .no (s++ " @ " ++o.pos)
   |_=> .no "hole" :=by
 unfold alF;simp only[bindF_eq,putF_eq,nthF_eq,allocF_eq,setF_eq]
 cases h[id]? with
 |none=>rfl
 |some x=>cases x with
  |hole=>cases allocA E f τ id o<;>rfl
  |_=>rfl
theorem stepDF_eq(E:Env)(f:FuncId)(call:CallF)(N:Nat)(ops:Array Oper)(id:Nat)(τ:Fr)(h:H)(o:Oper):stepDF E f call N ops id τ h o=stepD E f call N ops id τ h o:=by
 have hs:skipF N τ h o=(putA N τ o.dst undef).bind fun τ'=> .ok (τ',h):=by unfold skipF;rw[bindF_eq,putF_eq]
 unfold stepDF stepD;rw[iteF_eq];split
 ·cases hg:o.guard with
  |none=>
   have h1:gtop ops τ o=false:=by unfold gtop;rw[hg]
   have h2:wantA ops τ o=true:=by unfold wantA;rw[hg]
   rw[h1,h2];exact alF_eq ..
  |some q=>
   show iteF (gtop ops τ o) (.no "guard") (iteF (wantA ops τ o) (alF E f N id τ h o) (skipF N τ h o))=_;rw[iteF_eq,iteF_eq,alF_eq,hs];rfl
 ·exact stepF_eq ..
def traceF(E:Env)(f:FuncId)(call:CallF)(N:Nat)(ops:Array Oper)(l:List Oper)(id:Nat)(τ:Fr)(h:H):R (List (Fr×H)×(Fr×H)):= @List.rec Oper (fun _=>Nat→Fr→H→R (List (Fr×H)×(Fr×H))) (fun _ τ h=> .ok ([],(τ,h))) (fun o _ ih id τ h=>bindF (stepDF E f call N ops id τ h o) fun p=>bindF (@Prod.rec Fr H (fun _=>R (List (Fr×H)×(Fr×H))) (fun τ h=>ih (iteF (isAl E o) (Nat.succ id) id) τ h) p) fun q=> @Prod.rec (List (Fr×H)) (Fr×H) (fun _=>R (List (Fr×H)×(Fr×H))) (fun tr z=> .ok ((τ,h)::tr,z)) q) l id τ h
theorem traceF_eq(E:Env)(f:FuncId)(call:CallF)(N:Nat)(ops:Array Oper)(l:List Oper)(id:Nat)(τ:Fr)(h:H):traceF E f call N ops l id τ h=traceA E f call N ops l id τ h:=by
 induction l generalizing id τ h with
 |nil=>rfl
 |cons o l ih=>
  show(bindF (stepDF E f call N ops id τ h o) fun p=>bindF (@Prod.rec Fr H (fun _=>R (List (Fr×H)×(Fr×H))) (fun τ h=>traceF E f call N ops l (iteF (isAl E o) (Nat.succ id) id) τ h) p) fun q=> @Prod.rec (List (Fr×H)) (Fr×H) (fun _=>R (List (Fr×H)×(Fr×H))) (fun tr z=> .ok ((τ,h)::tr,z)) q)=_;unfold traceA;simp only[bindF_eq,stepDF_eq]
  congr 1;funext p
  obtain⟨τ',h'⟩:=p;show(traceF E f call N ops l (iteF (isAl E o) (Nat.succ id) id) τ' h').bind _=_;rw[ih,iteF_eq]
def plainR(E:Env)(ops:Array Oper):Bool:=andF (Nat.beq (alsOf E ops.toList) 0) (emptyP (pairsA E ops (masksA ops.toList [])))
where emptyP (l:List (Nat×Nat)):Bool:=match l with| []=>true|_=>false
theorem alsOf_zero{E:Env}{l:List Oper}(h:alsOf E l=0): ∀o,o∈l→isAl E o=false:=by
 intro o ho;unfold alsOf at h
 have h1:=List.eq_nil_of_length_eq_zero h
 cases hb:isAl E o with
 |false=>rfl
 |true=>
  have:o∈l.filter (isAl E):=List.mem_filter.2 ⟨ho,hb⟩;rw[h1]at this;cases this
theorem trace_plain{E:Env}{f:FuncId}{call:CallF}{N:Nat}{ops:Array Oper}: ∀{l:List Oper} (id:Nat) (τ:Fr) (h:H),(∀o,o∈l→isAl E o=false)→(opsA E f call N ops l τ h=match traceA E f call N ops l id τ h with| .ok (_,p)=> .ok p| .no s=> .no s):=by
 intro l
 induction l with
 |nil=>intro id τ h _;rfl
 |cons o l ih=>
  intro id τ h ha
  have ho:=ha o (List.mem_cons_self ..)
  have hd:stepD E f call N ops id τ h o=stepA E f call N ops τ h o:=by unfold stepD;rw[ho];rfl
  simp only[opsA,traceA,hd]
  cases stepA E f call N ops τ h o with
  |no s=>rfl
  |ok p=>
   obtain⟨τ',h'⟩:=p;simp only[R.bind];rw[ih (if isAl E o=true then id+1 else id) τ' h' fun x hx=>ha x (List.mem_cons_of_mem _ hx)]
   cases traceA E f call N ops l (if isAl E o=true then id+1 else id) τ' h' with
   |no s=>rfl
   |ok q=>rfl
def heapAtF(tr:List (Fr×H))(last:H)(i:Nat):H:= @Option.rec (Fr×H) (fun _=>H) last (fun p=> @Prod.rec Fr H (fun _=>H) (fun _ h=>h) p) (nthF tr i)
theorem heapAtF_eq(tr:List (Fr×H))(last:H)(i:Nat):heapAtF tr last i=heapAt tr last i:=by unfold heapAtF heapAt;rw[nthF_eq];cases tr[i]?<;>rfl
def drawDF(E:Env)(ops:Array Oper)(tr:List (Fr×H))(lt:Fr)(lh:H)(ps:List (Nat×Nat)):Bool:=
 ps.all fun(j,i)=>(match readDep E (frameAt tr lt j) (opAt ops j)with
  |some b=>sameBlk (nthF (heapAtF tr lh i) b) (nthF (heapAtF tr lh (i+1)) b)
  |none=>true)||sameR (readA E (frameAt tr lt j) (heapAtF tr lh i) (opAt ops j)) (readA E (frameAt tr lt j) (heapAtF tr lh (i+1)) (opAt ops j))
def drawHF(E:Env)(ops:Array Oper)(tr:List (Fr×H))(lh:H)(base:Nat):Bool:=
 (List.range ops.size).all fun i=>!isAl E (opAt ops i)||(List.range (i+1)).all fun m=>sameBlk (nthF (heapAtF tr lh m) (idAt E ops base i)) (some .hole)
theorem drawDF_eq(E:Env)(ops:Array Oper)(tr:List (Fr×H))(lt:Fr)(lh:H)(ps:List (Nat×Nat)):drawDF E ops tr lt lh ps=drawD E ops tr lt lh ps:=by unfold drawDF drawD;simp only[nthF_eq,heapAtF_eq];rfl
theorem drawHF_eq(E:Env)(ops:Array Oper)(tr:List (Fr×H))(lh:H)(base:Nat):drawHF E ops tr lh base=drawH E ops tr lh base:=by unfold drawHF drawH;simp only[nthF_eq,heapAtF_eq]
def drawnF(E:Env)(ops:Array Oper)(τ:Fr)(h:H)(tr:List (Fr×H))(τ':Fr)(h':H):R (Fr×H):=iteF (drawS E ops (masksA ops.toList [])) (iteF (drawDF E ops tr τ' h' (pairsA E ops (masksA ops.toList []))) (iteF (drawL E ops tr τ' (lenF h)) (iteF (drawHF E ops tr h' (lenF h)) (.ok (τ',h')) (.no "draw: kept")) (.no "draw: later")) (.no "draw: read")) (.no "draw: order")
def regF(E:Env)(f:FuncId)(call:CallF)(N:Nat)(ops:Array Oper)(draw:Bool)(τ:Fr)(h:H):R (Fr×H):=iteF draw (iteF (plainR E ops) (bindF (opsF E f call N ops ops.toList τ h) fun p=>iteF (drawS E ops (masksA ops.toList [])) (.ok p) (.no "draw: order")) (bindF (traceF E f call N ops ops.toList (lenF h) τ (appF h (List.replicate (alsOf E ops.toList) .hole))) fun q=> @Prod.rec (List (Fr×H)) (Fr×H) (fun _=>R (Fr×H)) (fun tr z=> @Prod.rec Fr H (fun _=>R (Fr×H)) (fun τ' h'=>drawnF E ops τ h tr τ' h') z) q)) (opsF E f call N ops ops.toList τ h)
theorem regF_eq(E:Env)(f:FuncId)(call:CallF)(N:Nat)(ops:Array Oper)(draw:Bool)(τ:Fr)(h:H):regF E f call N ops draw τ h=regionA E f call N ops draw τ h:=by
 unfold regF;rw[iteF_eq]
 cases draw with
 |false=>exact opsF_eq ..
 |true=>
  rw[if_pos rfl,iteF_eq];split
  ·rename_i hp
   unfold plainR at hp;rw[andF_eq,Bool.and_eq_true,Nat.beq_eq]at hp;obtain⟨h1,h2⟩:=hp
   have hps:pairsA E ops (masksA ops.toList [])= []:=by
    cases hq:pairsA E ops (masksA ops.toList [])with
    |nil=>rfl
    |cons a l=>rw [hq]at h2;cases h2
   have hal: ∀i,i<ops.size→isAl E (opAt ops i)=false:=fun i hi=>by
    refine alsOf_zero h1 _ ?_
    unfold opAt;rw[Array.getD_eq_getD_getElem?,Array.getElem?_eq_getElem hi];simp
   rw[bindF_eq,opsF_eq,trace_plain h.length τ h (alsOf_zero h1)];simp only[regionA,h1,List.replicate_zero,List.append_nil]
   cases traceA E f call N ops ops.toList h.length τ h with
   |no s=>rfl
   |ok q=>
    obtain⟨tr,τ',h'⟩:=q;simp only[R.bind,iteF_eq,hps];have hD:drawD E ops tr τ' h' []=true:=rfl
    have hL:drawL E ops tr τ' h.length=true:=by
     unfold drawL
     refine List.all_eq_true.2 fun j _=>?_
     split
     ·split
      ·refine List.all_eq_true.2 fun i hi=>?_
       rw[hal i (List.mem_range.1 hi)];simp
      ·rfl
     ·rfl
    have hH:drawH E ops tr h' h.length=true:=by
     unfold drawH
     refine List.all_eq_true.2 fun i hi=>?_
     rw[hal i (List.mem_range.1 hi)];rfl
    rw[hD,hL,hH];rfl
  ·rw[bindF_eq,traceF_eq,appF_eq,lenF_eq]
   simp only[regionA,drawnF,iteF_eq,lenF_eq,drawDF_eq,drawHF_eq]
def packFF(ops:Array Oper)(τ τ':Fr):Fr:=fun i=> @Bool.rec (fun _=>AV) (τ i) (@Bool.rec (fun _=>AV) (τ i) (τ' i) (Nat.ble i (hiOf ops))) (Nat.ble (loOf ops) i)
def regPF(E:Env)(f:FuncId)(call:CallF)(N:Nat)(ops:Array Oper)(draw:Bool)(τ:Fr)(h:H):R (X×Fr×H):=bindF (regF E f call N ops draw τ h) fun p=> @Prod.rec Fr H (fun _=>R (X×Fr×H)) (fun τ' h'=> .ok (.normal,packFF ops τ τ',h')) p
def iterF(g:Fr→H→R (X×Fr×H))(n:Nat)(τ:Fr)(h:H):R (X×Fr×H):= @Nat.rec (fun _=>Fr→H→R (X×Fr×H)) (fun _ _=> .no "rounds") (fun _ ih τ h=>bindF (g τ h) fun p=> @Prod.rec X (Fr×H) (fun _=>R (X×Fr×H)) (fun x z=> @Prod.rec Fr H (fun _=>R (X×Fr×H)) (fun τ h=> @X.rec (fun _=>R (X×Fr×H)) (ih τ h) (.ok (.ret,τ,h)) (fun i=> .ok (.exit i,τ,h)) x) z) p) n τ h
theorem iterF_eq(g g':Fr→H→R (X×Fr×H))(hg: ∀τ h,g τ h=g' τ h)(n:Nat)(τ:Fr)(h:H):iterF g n τ h=iter g' n τ h:=by
 induction n generalizing τ h with
 |zero=>rfl
 |succ n ih=>
  show(bindF (g τ h) fun p=> @Prod.rec X (Fr×H) (fun _=>R (X×Fr×H)) (fun x z=> @Prod.rec Fr H (fun _=>R (X×Fr×H)) (fun τ h=> @X.rec (fun _=>R (X×Fr×H)) (iterF g n τ h) (.ok (.ret,τ,h)) (fun i=> .ok (.exit i,τ,h)) x) z) p)=_;unfold iter;rw[bindF_eq,hg]
  cases g' τ h with
  |no s=>rfl
  |ok p=>
   obtain⟨x,τ',h'⟩:=p
   cases x with
   |normal=>exact ih τ' h'
   |_=>rfl
def execF(E:Env)(f:FuncId)(call:CallF)(N:Nat)(c:Code):Fr→H→R (X×Fr×H):= @Code.rec (fun _=>Fr→H→R (X×Fr×H))
 (fun τ h=> .ok (.normal,τ,h))
 (fun _ ops draw τ h=>regPF E f call N ops draw τ h)
 (fun _ _ ia ib τ h=>bindF (ia τ h) fun p=> @Prod.rec X (Fr×H) (fun _=>R (X×Fr×H)) (fun x z=> @Prod.rec Fr H (fun _=>R (X×Fr×H)) (fun τ h=> @X.rec (fun _=>R (X×Fr×H)) (ib τ h) (.ok (.ret,τ,h)) (fun i=> .ok (.exit i,τ,h)) x) z) p)
 (fun c _ _ ia ib τ h=> @R.rec AV (fun _=>R (X×Fr×H)) (fun v=>boolK v (ia τ h) (ib τ h) (.no "cond")) (fun _=> .no "cond") (evF E τ c))
 (fun id _ ib τ h=>bindF (ib τ h) fun p=> @Prod.rec X (Fr×H) (fun _=>R (X×Fr×H)) (fun x z=> @Prod.rec Fr H (fun _=>R (X×Fr×H)) (fun τ h=> @X.rec (fun _=>R (X×Fr×H)) (.ok (.normal,τ,h)) (.ok (.ret,τ,h)) (fun i=> .ok (iteF (Nat.beq i id) .normal (.exit i),τ,h)) x) z) p)
 (fun _ ib τ h=>iterF ib E.M τ h)
 (fun g ps a b _ _ τ h=>exec E f call N (.rangeFunc g ps a b) τ h)
 (fun i τ h=> .ok (.exit i,τ,h))
 (fun b _ τ h=>exec E f call N (.scope b) τ h)
 (fun _ τ h=> .ok (.normal,τ,h))
 (fun l τ h=>exec E f call N (.goto l) τ h)
 (fun τ h=> .ok (.ret,τ,h))
 (fun w τ h=>exec E f call N (.refuse w) τ h)
 c
theorem execF_eq(E:Env)(f:FuncId)(call:CallF)(N:Nat)(c:Code)(τ:Fr)(h:H):execF E f call N c τ h=exec E f call N c τ h:=by
 induction c generalizing τ h with
 |skip=>rfl
 |region id ops draw=>
  show regPF E f call N ops draw τ h=(regionP E f call N ops draw τ h).bind _;unfold regPF regionP;rw[bindF_eq,regF_eq]
  cases regionA E f call N ops draw τ h<;>rfl
 |seq a b iha ihb=>
  show(bindF (execF E f call N a τ h) fun p=> @Prod.rec X (Fr×H) (fun _=>R (X×Fr×H)) (fun x z=> @Prod.rec Fr H (fun _=>R (X×Fr×H)) (fun τ h=> @X.rec (fun _=>R (X×Fr×H)) (execF E f call N b τ h) (.ok (.ret,τ,h)) (fun i=> .ok (.exit i,τ,h)) x) z) p)=_;unfold exec;rw[bindF_eq,iha]
  cases exec E f call N a τ h with
  |no s=>rfl
  |ok p=>
   obtain⟨x,τ',h'⟩:=p
   cases x with
   |normal=>exact ihb τ' h'
   |_=>rfl
 |cond c a b iha ihb=>
  show @R.rec AV (fun _=>R (X×Fr×H)) (fun v=>boolK v (execF E f call N a τ h) (execF E f call N b τ h) (.no "cond")) (fun _=> .no "cond") (evF E τ c)=_;unfold exec;rw[evF_eq,iha,ihb]
  cases ev E τ c with
  |no s=>rfl
  |ok v=>cases v with
   |bool b=>cases b<;>rfl
   |_=>rfl
 |block id b ih=>
  show(bindF (execF E f call N b τ h) fun p=> @Prod.rec X (Fr×H) (fun _=>R (X×Fr×H)) (fun x z=> @Prod.rec Fr H (fun _=>R (X×Fr×H)) (fun τ h=> @X.rec (fun _=>R (X×Fr×H)) (.ok (.normal,τ,h)) (.ok (.ret,τ,h)) (fun i=> .ok (iteF (Nat.beq i id) .normal (.exit i),τ,h)) x) z) p)=_;unfold exec;rw[bindF_eq,ih]
  cases exec E f call N b τ h with
  |no s=>rfl
  |ok p=>
   obtain⟨x,τ',h'⟩:=p
   cases x with
   |exit i=>show R.ok (iteF (Nat.beq i id) X.normal (.exit i),τ',h')=_;rw[beqN]
   |_=>rfl
 |loop b ih=>exact iterF_eq _ _ ih ..
 |_=>rfl
def resLF(E:Env)(τ:Fr)(h:H)(l:List ResultVar):R (List AV):= @List.rec ResultVar (fun _=>R (List AV)) (.ok []) (fun r _ ih=>bindF (@ResultVar.rec (fun _=>R AV) (fun t=>topF (τ t)) (fun a t=>loadF E.P h t (τ a)) r) fun v=>bindF ih fun vs=> .ok (v::vs)) l
theorem resF_eq(E:Env)(τ:Fr)(h:H)(l:List ResultVar):resLF E τ h l=resA E τ h l:=by
 induction l with
 |nil=>rfl
 |cons r l ih=>
  show bindF (@ResultVar.rec (fun _=>R AV) (fun t=>topF (τ t)) (fun a t=>loadF E.P h t (τ a)) r) (fun v=>bindF (resLF E τ h l) fun vs=> .ok (v::vs))=_;rw[bindF_eq];simp only[bindF_eq,ih]
  cases r with
  |tmp t=>show(evF E τ (.tmp t)).bind _=_;rw[evF_eq];rfl
  |cell a t=>show(loadF E.P h t (τ a)).bind _=_;rw[loadF_eq];rfl
def initF(args:List AV):Fr:=fun i=> @Option.rec AV (fun _=>AV) undef (fun v=>v) (nthF args i)
theorem initF_eq(args:List AV):initF args=initFr args:=by
 funext i
 unfold initF initFr;rw[nthF_eq,List.getD_eq_getElem?_getD]
 cases args[i]?<;>rfl
def resV(vs:List AV):AV:= @List.rec AV (fun _=>AV) (.tup vs) (fun v t _=> @List.rec AV (fun _=>AV) v (fun _ _ _=> .tup vs) t) vs
theorem resV_eq(vs:List AV):resV vs=match vs with| [v]=>v|vs=> .tup vs:=by
 cases vs with
 |nil=>rfl
 |cons v vs=>cases vs<;>rfl
def isExit(x:X):Bool:= @X.rec (fun _=>Bool) false false (fun _=>true) x
def bodyF(E:Env)(call:CallF)(f:FuncId)(args:List AV)(h:H)(fn:Func)(c:Code):R (AV×H):=bindF (execF E f call (max fn.ntmps args.length) c (initF args) h) fun p=> @Prod.rec X (Fr×H) (fun _=>R (AV×H)) (fun x z=> @Prod.rec Fr H (fun _=>R (AV×H)) (fun τ h=>iteF (isExit x) (.no "exit") (bindF (resLF E τ h fn.results.toList) fun vs=> .ok (resV vs,h))) z) p
end
end Go.Proofs.YtcocmlmligjjcaaGreatDoor.AM
namespace Go.Proofs.YtcocmlmligjjcaaGreatDoor.AM
set_option linter.unusedSimpArgs false
set_option linter.unusedSectionVars false
set_option linter.unusedVariables false
def rho0:Rho:=fun _=>none
def area0:Area:=fun _ _=>False
abbrev F0:Area:=Forb area0 rho0 (view [])
theorem hr0{G:Nat→Option (List AV)}{w:World}(hg: ∀i cs,G i=some cs→CR F0 rho0 w (.pointer (some ⟨i,0,none⟩)) (.fp cs 0)):HR G area0 rho0 w (view []):=
 ⟨fun b h=>rfl,(fun b blk h=>by simp[view]at h),(fun b h=>by simp[view]at h),(fun b b' B k k' x x' h=>by cases h),(fun B off h=>False.elim h),hg⟩
theorem below_of{ρ':Rho}{h':H}{w w':World}(h:Ext (Own rho0 (view [])) rho0 w (Own ρ' (view h')) ρ' w'):RowKit.Below w.heap.size w w':=
 ⟨h.st.1,h.st.2.1,h.st.2.2,h.size,fun k hk=>h.keepo k hk (fun off=>by rintro⟨b,k,y,hb,_⟩;cases hb)⟩
theorem bok_none{E:Env}(h: ∀f,E.B f=false):BOK E:=fun f hf=>by rw[h f]at hf;cases hf
theorem cok_none{E:Env}(h: ∀f args,E.C f args=none):COK E:=fun f args hh r h' hc=>by simp[h]at hc
end Go.Proofs.YtcocmlmligjjcaaGreatDoor.AM
