-- SQUEEZED
/- Names of new memory may be changed; what is forgotten of a state. -/
import Derived.Test.YtcocmlmligjjcaaGreatDoorS6
import Derived.ChangeArms
import Derived.SizedLaws
import GoSem.ClaimJoined
import Derived.Test.YtcocmlmligjjcaaGreatDoorA20
namespace Go.Proofs.YtcocmlmligjjcaaGreatDoor.AM
set_option linter.unusedVariables false
set_option linter.unusedSimpArgs false
set_option linter.unusedSectionVars false
mutual
def ren(κ:Nat→Nat):AV→AV
 | .ptr b off=> .ptr (κ b) off
 | .eptr b i sz off=> .eptr (κ b) i sz off
 | .fp l off=> .fp (rens κ l) off
 | .sl b off len sz c=> .sl (κ b) off len sz c
 | .vsl b off len c=> .vsl (κ b) off len c
 | .lst sz l tl=> .lst sz (rens κ l) (match tl with| .own t=> .own (κ t)| .clip=> .clip| .open_=> .open_)
 | .map b=> .map (κ b)
 | .clo f l m=> .clo f (rens κ l) (rens κ m)
 | .agg l=> .agg (rens κ l)
 | .tup l=> .tup (rens κ l)
 |v=>v
def rens(κ:Nat→Nat):List AV→List AV
 | []=> []
 |x::xs=>ren κ x::rens κ xs
end
def renP(κ:Nat→Nat)(e:AV×AV):AV×AV:=(ren κ e.1,ren κ e.2)
def renB(κ:Nat→Nat):Blk→Blk
 | .var l=> .var (rens κ l)
 | .arr sz l=> .arr sz (rens κ l)
 | .map es=> .map (es.map (renP κ))
 |b=>b
theorem rens_map(κ:Nat→Nat): ∀l:List AV,rens κ l=l.map (ren κ)
 | []=>rfl
 |x::xs=>by rw[rens,rens_map κ xs];rfl
theorem rens_length(κ:Nat→Nat)(l:List AV):(rens κ l).length=l.length:=by rw[rens_map];simp
theorem rens_get{κ:Nat→Nat}{l:List AV}{j:Nat}{y:AV}(h:l[j]?=some y):(rens κ l)[j]?=some (ren κ y):=by rw[rens_map,List.getElem?_map,h];rfl
theorem rens_get_inv{κ:Nat→Nat}{l:List AV}{j:Nat}{y:AV}(h:(rens κ l)[j]?=some y): ∃z,l[j]?=some z∧y=ren κ z:=by
 rw[rens_map,List.getElem?_map]at h
 cases hz:l[j]? with
 |none=>rw [hz]at h;cases h
 |some z=>rw [hz]at h;exact⟨z,rfl,(Option.some.inj h).symm⟩
theorem ren_cells(κ:Nat→Nat)(x:AV):(ren κ x).cells=rens κ x.cells:=by
 cases x<;>simp [ren,AV.cells,rens]
theorem CR.down{F:Area}{ρ ρ':Rho}{w:World}{κ:Nat→Nat}(hρ: ∀b,ρ' b=ρ (κ b)){v:Value}{z:AV}(h:CR F ρ w v z): ∀y,z=ren κ y→CR F ρ' w v y:=by
 induction h with
 |bool b=>intro y hy;cases y<;>simp [ren]at hy;subst hy;exact .bool _
 |int k n=>intro y hy;cases y<;>simp [ren]at hy;obtain⟨rfl,rfl⟩:=hy;exact .int _ _
 |str s=>intro y hy;cases y<;>simp [ren]at hy;subst hy;exact .str _
 |nilp=>intro y hy;cases y<;>simp [ren]at hy;exact .nilp
 |ptr h=>intro y hy;cases y<;>simp [ren]at hy;obtain⟨rfl,rfl⟩:=hy;exact .ptr (by rw[hρ];exact h)
 |eptr h ho=>intro y hy;cases y<;>simp [ren]at hy;obtain⟨rfl,rfl,rfl,rfl⟩:=hy;exact .eptr (by rw[hρ];exact h) ho
 |fp hb hF vs h1 h2 ho ih=>
  intro y hy
  cases y<;>simp [ren]at hy
  obtain⟨rfl,rfl⟩:=hy;exact .fp hb (by rw[rens_length]at hF;exact hF) vs (fun j y hy=>h1 j _ (rens_get hy)) (fun j y hy=>ih j _ (rens_get hy) y rfl) ho
 |nils=>intro y hy;cases y<;>simp [ren]at hy;exact .nils
 | @lst0 base sz tl ht=>
   intro y hy
   cases y<;>simp [ren]at hy
   rename_i sz' l tl';obtain⟨rfl,hl,hy⟩:=hy
   obtain rfl:l= []:=by cases l with
    |nil=>rfl
    |cons a l=>simp [rens]at hl
   exact .lst0 (fun t e=>by subst e;exact ht (κ t) hy)
 |sl h hb hr hl hc ho=>intro y hy;cases y<;>simp [ren]at hy;obtain⟨rfl,rfl,rfl,rfl,rfl⟩:=hy;exact .sl (by rw[hρ];exact h) hb hr hl hc ho
 |vsl h hl hc ho=>intro y hy;cases y<;>simp [ren]at hy;obtain⟨rfl,rfl,rfl,rfl⟩:=hy;exact .vsl (by rw[hρ];exact h) hl hc ho
 |lst hb hn hsz hF vs h1 h2 hl hr hc ht ih=>
  intro y hy
  cases y<;>simp [ren]at hy
  rename_i sz' l tl';obtain⟨rfl,rfl,rfl⟩:=hy;rw[rens_length]at hn hF hl ht;refine .lst hb hn (fun x hx=>?_) hF vs (fun i x j y hx hy=>?_) (fun i x j y hx hy=>?_) hl hr (fun e=>?_) (fun t e hlt=>?_)
  ·have:=hsz (ren κ x) (by rw[rens_map];exact List.mem_map_of_mem hx)
   rw[ren_cells,rens_length]at this;exact this
  ·exact h1 i _ j _ (rens_get hx) (by rw[ren_cells];exact rens_get hy)
  ·exact ih i _ j _ (rens_get hx) (by rw[ren_cells];exact rens_get hy) y rfl
  ·subst e;have:=hc rfl;rw[rens_length]at this;exact this
  ·subst e;rw[hρ];exact ht (κ t) rfl hlt
 |nilm=>intro y hy;cases y<;>simp [ren]at hy;exact .nilm
 |map h=>intro y hy;cases y<;>simp [ren]at hy;subst hy;exact .map (by rw[hρ];exact h)
 |nilf=>intro y hy;cases y<;>simp [ren]at hy;exact .nilf
 |clo hf hc vs us h1 h2 h3 h4 ih1 ih2=>
  intro y hy
  cases y<;>simp [ren]at hy
  obtain⟨rfl,rfl,rfl⟩:=hy;rw[rens_length]at hf hc;exact .clo hf hc vs us (fun j y hy=>h1 j _ (rens_get hy)) (fun j y hy=>ih1 j _ (rens_get hy) y rfl) (fun j y hy=>h3 j _ (rens_get hy)) (fun j y hy=>ih2 j _ (rens_get hy) y rfl)
 |nili=>intro y hy;cases y<;>simp [ren]at hy;exact .nili
 |agg hn vs h1 h2 ih=>
  intro y hy
  cases y<;>simp [ren]at hy
  subst hy;rw[rens_length]at hn;exact .agg hn vs (fun j y hy=>h1 j _ (rens_get hy)) (fun j y hy=>ih j _ (rens_get hy) y rfl)
 |tup hn vs h1 h2 ih=>
  intro y hy
  cases y<;>simp [ren]at hy
  subst hy;rw[rens_length]at hn;exact .tup hn vs (fun j y hy=>h1 j _ (rens_get hy)) (fun j y hy=>ih j _ (rens_get hy) y rfl)
theorem CR.less{F F':Area}{ρ:Rho}{w:World}(hF: ∀B off,F' B off→F B off){v:Value}{y:AV}(h:CR F ρ w v y):CR F' ρ w v y:=by
 induction h with
 |bool b=>exact .bool b
 |int k n=>exact .int k n
 |str s=>exact .str s
 |nilp=>exact .nilp
 |ptr h=>exact .ptr h
 |eptr h ho=>exact .eptr h ho
 |fp hb h0 vs h1 h2 ho ih=>exact .fp hb (fun j hj hh=>h0 j hj (hF _ _ hh)) vs h1 ih ho
 |nils=>exact .nils
 |lst0 ht=>exact .lst0 ht
 |sl h hb hr hl hc ho=>exact .sl h hb hr hl hc ho
 |vsl h hl hc ho=>exact .vsl h hl hc ho
 |lst hb hn hsz h0 vs h1 h2 hl hr hc ht ih=>exact .lst hb hn hsz (fun j hj hh=>h0 j hj (hF _ _ hh)) vs h1 ih hl hr hc ht
 |nilm=>exact .nilm
 |map h=>exact .map h
 |nilf=>exact .nilf
 |clo hf hc vs us h1 h2 h3 h4 ih1 ih2=>exact .clo hf hc vs us h1 ih1 h3 ih2
 |nili=>exact .nili
 |agg hn vs h1 h2 ih=>exact .agg hn vs h1 ih
 |tup hn vs h1 h2 ih=>exact .tup hn vs h1 ih
def Le(y z:AV):Prop:= ∀(F:Area) (ρ:Rho) (w:World) (v:Value),CR F ρ w v y→CR F ρ w v z
theorem Le.refl(y:AV):Le y y:=fun _ _ _ _ h=>h
theorem Le.forget(y:AV):Le y (forget y):=fun _ _ _ _ h=>h.forget
theorem Le.nils{sz:Nat}{tl:Tl}(h: ∀t,tl≠ .own t):Le .nils (.lst sz [] tl):=fun _ _ _ _ hc=>by cases hc;exact .lst0 h
theorem Le.open_{sz:Nat}{l:List AV}{tl:Tl}:Le (.lst sz l tl) (.lst sz l .open_):=fun F ρ w v hc=>by
 cases hc with
 |lst0 ht=>exact .lst0 nofun
 |lst hb hn hsz hF vs h1 h2 hl hr hc ht=>exact .lst hb hn hsz hF vs h1 h2 hl hr nofun nofun
def Les(l m:List AV):Prop:=l.length=m.length∧ ∀(j:Nat) a b,l[j]?=some a→m[j]?=some b→Le a b
theorem Les.refl(l:List AV):Les l l:=⟨rfl,fun j a b h h'=>by rw[h]at h';cases h';exact Le.refl a⟩
theorem Les.nil:Les [] []:=Les.refl []
theorem Les.cons{x y:AV}{l m:List AV}(h:Le x y)(hs:Les l m):Les (x::l) (y::m):=by
 refine⟨by simp[hs.1],fun j a b ha hb=>?_⟩
 cases j with
 |zero=>simp at ha hb;subst ha;subst hb;exact h
 |succ j=>exact hs.2 j a b (by simpa using ha) (by simpa using hb)
theorem Les.crs{l m:List AV}(h:Les l m){F:Area}{ρ:Rho}{w:World}{vs:List Value}(hr:CRs F ρ w vs l):CRs F ρ w vs m:=
 ⟨hr.1.trans h.1,fun j v b hv hb=>by
  have hj:j<l.length:=by rw[h.1];exact lt_of_getl hb
  exact h.2 j _ b (List.getElem?_eq_getElem hj) hb F ρ w v (hr.2 j v _ hv (List.getElem?_eq_getElem hj))⟩
theorem Le.agg{l m:List AV}(h:Les l m):Le (.agg l) (.agg m):=fun F ρ w v hc=>by
 obtain⟨cs,rfl,hcs⟩:=hc.agg_inv;exact CR.agg_of (h.crs hcs)
theorem Le.tup{l m:List AV}(h:Les l m):Le (.tup l) (.tup m):=fun F ρ w v hc=>by
 obtain⟨cs,rfl,hcs⟩:=hc.tup_inv;exact CR.tup_of (h.crs hcs)
def LeB(x y:Blk):Prop:=x.alive=y.alive∧(y= .hole→x= .hole)∧(x= .hole→y= .hole)∧ ∀(F:Area) (ρ:Rho) (w:World) (B k:Nat),BR F ρ w B k x→BR F ρ w B k y
theorem LeB.refl(x:Blk):LeB x x:=⟨rfl,fun h=>h,fun h=>h,fun _ _ _ _ _ h=>h⟩
theorem BR.down{F:Area}{ρ ρ':Rho}{w:World}{κ:Nat→Nat}(hρ: ∀b,ρ' b=ρ (κ b)){B k:Nat}{x:Blk}(h:BR F ρ w B k (renB κ x)):BR F ρ' w B k x:=by
 have rows: ∀{vs:List Value} {l:List AV},CRs F ρ w vs (rens κ l)→CRs F ρ' w vs l:=fun{vs l} hr=>⟨by rw[hr.1,rens_length],fun j v y hv hy=>(hr.2 j v _ hv (rens_get hy)).down hρ y rfl⟩
 cases x with
 |var l=>obtain⟨h0,cs,e,fz,h1,h2,h3⟩:=h;exact⟨h0,cs,e,fz,h1,h2,rows h3⟩
 |arr sz l=>
  obtain⟨h0,cs,e,fz,h1,h2,h3,h4,h5⟩:=h;rw[rens_length]at h3
  have hfl:flat (rens κ l)=rens κ (flat l):=by
   clear h3 h4 h5
   induction l with
   |nil=>rfl
   |cons x l ih=>simp only[flat,rens,List.flatMap_cons]at ih ⊢;rw[ren_cells,ih,rens_map,rens_map,rens_map,List.map_append]
  refine⟨h0,cs,e,fz,h1,h2,h3,fun x hx=>?_,?_⟩
  ·have:=h4 (ren κ x) (by rw[rens_map];exact List.mem_map_of_mem hx)
   rw[ren_cells,rens_length]at this;exact this
  ·rw[rens_length,hfl]at h5;exact rows h5
 |map es=>
  obtain⟨h0,ents,clock,h1,h2,h3⟩:=h;simp only[List.length_map]at h2;refine⟨h0,ents,clock,h1,h2,fun i e x he hx=>?_⟩;have:=h3 i e (renP κ x) he (by rw[List.getElem?_map,hx];rfl);exact⟨this.1.down hρ _ rfl,this.2.down hρ _ rfl⟩
 |tail=>exact h
 |dead=>trivial
 |hole=>trivial
theorem BR.less{F F':Area}{ρ:Rho}{w:World}(hF: ∀B off,F' B off→F B off){B k:Nat}{x:Blk}(h:BR F ρ w B k x):BR F' ρ w B k x:=by
 have rows: ∀{vs:List Value} {l:List AV},CRs F ρ w vs l→CRs F' ρ w vs l:=fun{vs l} hr=>⟨hr.1,fun j v y hv hy=>(hr.2 j v _ hv hy).less hF⟩
 cases x with
 |var l=>obtain⟨h0,cs,e,fz,h1,h2,h3⟩:=h;exact⟨h0,cs,e,fz,h1,h2,rows h3⟩
 |arr sz l=>obtain⟨h0,cs,e,fz,h1,h2,h3,h4,h5⟩:=h;exact⟨h0,cs,e,fz,h1,h2,h3,h4,rows h5⟩
 |map es=>obtain⟨h0,ents,clock,h1,h2,h3⟩:=h;exact⟨h0,ents,clock,h1,h2,fun i e x he hx=>⟨(h3 i e x he hx).1.less hF,(h3 i e x he hx).2.less hF⟩⟩
 |tail=>exact h
 |dead=>trivial
 |hole=>trivial
theorem renB_alive(κ:Nat→Nat)(x:Blk):(renB κ x).alive=x.alive:=by cases x<;>rfl
structure Renamed (n0:Nat) (κ:Nat→Nat) (τ:Fr) (h:H) (τ':Fr) (h':H):Prop where
 old: ∀b,b<n0→κ b=b
 new: ∀b,n0≤b→n0≤κ b
 out: ∀b,h'.length≤b→h.length≤κ b
 blk: ∀i x,h'[i]?=some x→x≠ .hole∧ ∃y,h[κ i]?=some y∧LeB y (renB κ x)
 inj: ∀i j x y,h'[i]?=some x→h'[j]?=some y→x.alive=true→y.alive=true→κ i=κ j→i=j
 fr: ∀i,τ' i=top∨Le (τ i) (ren κ (τ' i))∧ ∀sz l,τ i≠ .fsl sz l
theorem Wk.ren{E:Env}{N:Nat}{h0:H}(hG: ∀i cs,E.G i=some cs→noRefs cs=true){κ:Nat→Nat}{τ τ':Fr}{h h':H}(hk:Renamed h0.length κ τ h τ' h'):Wk E N h0 τ h τ' h':=by
 rintro A s0 ρ0 w0 w a hn ⟨ρ,hx,hs⟩
 have hr:=hs.hr
 refine⟨fun b=>ρ (κ b),?_,?_⟩
 all_goals
  have hown: ∀B off,Own (fun b=>ρ (κ b)) (view h') B off→Own ρ (view h) B off:=by
   rintro B off ⟨b,k,x,h1,h2,h3,h4⟩;obtain⟨_,y,hy,hl⟩:=hk.blk b x h2;exact⟨κ b,k,y,h1,hy,by rw[hl.1,renB_alive];exact h3,h4⟩
 ·refine⟨fun b p hb=>?_,fun B off ho=>hx.new B off (hown B off ho),fun b B k hb=>?_,hx.st,hx.size,hx.keep,hx.keepo⟩
  ·have hb0:b<h0.length:=by
    rcases Nat.lt_or_ge b h0.length with h1|h1
    ·exact h1
    ·rw[hn b h1]at hb;cases hb
   rw[hk.old b hb0];exact hx.sub b p hb
  ·rcases Nat.lt_or_ge b h0.length with h1|h1
   ·rw[hk.old b h1]at hb;exact hx.newρ b B k hb
   ·rcases hx.newρ (κ b) B k hb with h2|h2
    ·rw[hn _ (hk.new b h1)]at h2;cases h2
    ·exact .inr h2
 ·have hF: ∀B off,Forb A (fun b=>ρ (κ b)) (view h') B off→Forb A ρ (view h) B off:=fun B off hf=>hf.imp (hown B off) (fun h=>h)
  refine⟨⟨fun b hb=>?_,fun b x hb hne=>?_,fun b hb=>?_,fun b b' B k k' x x' h1 h2 h3 h4 h5 h6=>?_,fun B off ha=>⟨(hr.avo B off ha).1,fun ho=>(hr.avo B off ha).2 (hown B off ho)⟩,fun i cs hi=>?_⟩,fun i=>?_,hs.sz,?_⟩
  ·refine hr.dom _ ?_
   have:h'.length≤b:=by simpa [view]using hb
   have:=hk.out b this
   simpa [view]using this
  ·obtain⟨_,y,hy,hl⟩:=hk.blk b x hb
   have hyne:y≠ .hole:=fun e=>by
    have:=hl.2.2.1 e
    cases x<;>simp [renB]at this hne
   obtain⟨B,k,h1,h2,h3⟩:=hr.blk (κ b) y hy hyne;exact⟨B,k,h1,h2,(BR.down (κ:=κ) (ρ:=ρ) (fun _=>rfl) (hl.2.2.2 _ _ _ _ _ h3)).less hF⟩
  ·exact absurd rfl (hk.blk b _ hb).1
  ·obtain⟨_,y,hy,hl⟩:=hk.blk b x h3
   obtain⟨_,y',hy',hl'⟩:=hk.blk b' x' h4;exact hk.inj b b' x x' h3 h4 h5 h6 (hr.sep (κ b) (κ b') B k k' y y' h1 h2 hy hy' (by rw[hl.1,renB_alive];exact h5) (by rw[hl'.1,renB_alive];exact h6))
  ·exact((hr.glob i cs hi).less hF).free _ (by simp only[noRef];exact hG i cs hi)
  ·rcases hk.fr i with h1|⟨h1,h2⟩
   ·exact .inl ⟨0,[],h1⟩
   ·have hc:=(hs.fr i).resolve_left fun⟨sz,l,e⟩=>h2 sz l e
    exact .inr ((CR.down (κ:=κ) (ρ:=ρ) (fun _=>rfl) (h1 _ _ _ _ hc) (τ' i) rfl).less hF)
  ·exact⟨hs.de.1,hs.de.2.1,fun d hd=>by
    obtain⟨D,e1,e2,e3,e4⟩:=hs.de.2.2 d hd
    exact⟨D,e1,e2,e3,fun off ho=>e4 off (hown _ _ ho)⟩⟩
end Go.Proofs.YtcocmlmligjjcaaGreatDoor.AM
namespace Go.Proofs.YtcocmlmligjjcaaGreatDoor.AM
set_option linter.unusedVariables false
set_option linter.unusedSimpArgs false
set_option linter.unusedSectionVars false
theorem CR.up{F:Area}{ρ ρ':Rho}{w:World}{κ:Nat→Nat}(hρ: ∀b p,ρ b=some p→ρ' (κ b)=some p){v:Value}{y:AV}(h:CR F ρ w v y):CR F ρ' w v (ren κ y):=by
 induction h with
 |bool b=>exact .bool b
 |int k n=>exact .int k n
 |str s=>exact .str s
 |nilp=>exact .nilp
 |ptr h=>exact .ptr (hρ _ _ h)
 |eptr h ho=>exact .eptr (hρ _ _ h) ho
 |fp hb hF vs h1 h2 ho ih=>
  simp only[ren];exact .fp hb (by rw[rens_length];exact hF) vs (fun j y hy=>by obtain⟨z,hz,rfl⟩:=rens_get_inv hy;exact h1 j z hz) (fun j y hy=>by obtain⟨z,hz,rfl⟩:=rens_get_inv hy;exact ih j z hz) ho
 |nils=>exact .nils
 | @lst0 base sz tl ht=>simp only[ren,rens];exact .lst0 (fun t=>by cases tl with
   |own t=>exact absurd rfl (ht t)
   |clip=>nofun
   |open_=>nofun)
 |sl h hb hr hl hc ho=>exact .sl (hρ _ _ h) hb hr hl hc ho
 |vsl h hl hc ho=>exact .vsl (hρ _ _ h) hl hc ho
 | @lst B o n c sz cs e fz l tl hb hn hsz hF vs h1 h2 hl hr hc ht ih=>
   simp only[ren];refine .lst hb (by rw[rens_length];exact hn) (fun x hx=>?_) (by rw[rens_length];exact hF) vs (fun i x j y hx hy=>?_) (fun i x j y hx hy=>?_) (by rw[rens_length];exact hl) hr (fun hcl=>?_) (fun t ht' hlt=>?_)
   ·rw[rens_map]at hx
    obtain⟨z,hz,rfl⟩:=List.mem_map.1 hx;rw[ren_cells,rens_length];exact hsz z hz
   ·obtain⟨z,hz,rfl⟩:=rens_get_inv hx
    rw[ren_cells]at hy;obtain⟨u,hu,rfl⟩:=rens_get_inv hy;exact h1 i z j u hz hu
   ·obtain⟨z,hz,rfl⟩:=rens_get_inv hx
    rw[ren_cells]at hy;obtain⟨u,hu,rfl⟩:=rens_get_inv hy;exact ih i z j u hz hu
   ·rw[rens_length]
    cases tl with
    |clip=>exact hc rfl
    |open_=>cases hcl
    |own t=>cases hcl
   ·rw[rens_length]at hlt ⊢
    cases tl with
    |clip=>cases ht'
    |open_=>cases ht'
    |own t'=>cases ht';exact hρ _ _ (ht t' rfl hlt)
 |nilm=>exact .nilm
 |map h=>exact .map (hρ _ _ h)
 |nilf=>exact .nilf
 |clo hf hc vs us h1 h2 h3 h4 ih1 ih2=>
  simp only[ren];refine .clo (by rw[rens_length];exact hf) (by rw[rens_length];exact hc) vs us (fun j y hy=>?_) (fun j y hy=>?_) (fun j y hy=>?_) (fun j y hy=>?_)
  ·obtain⟨z,hz,rfl⟩:=rens_get_inv hy;exact h1 j z hz
  ·obtain⟨z,hz,rfl⟩:=rens_get_inv hy;exact ih1 j z hz
  ·obtain⟨z,hz,rfl⟩:=rens_get_inv hy;exact h3 j z hz
  ·obtain⟨z,hz,rfl⟩:=rens_get_inv hy;exact ih2 j z hz
 |nili=>exact .nili
 |agg hn vs h1 h2 ih=>
  simp only[ren];exact .agg (by rw[rens_length];exact hn) vs (fun j y hy=>by obtain⟨z,hz,rfl⟩:=rens_get_inv hy;exact h1 j z hz) (fun j y hy=>by obtain⟨z,hz,rfl⟩:=rens_get_inv hy;exact ih j z hz)
 |tup hn vs h1 h2 ih=>
  simp only[ren];exact .tup (by rw[rens_length];exact hn) vs (fun j y hy=>by obtain⟨z,hz,rfl⟩:=rens_get_inv hy;exact h1 j z hz) (fun j y hy=>by obtain⟨z,hz,rfl⟩:=rens_get_inv hy;exact ih j z hz)
theorem BR.up{F:Area}{ρ ρ':Rho}{w:World}{κ:Nat→Nat}(hρ: ∀b p,ρ b=some p→ρ' (κ b)=some p){B k:Nat}{x:Blk}(h:BR F ρ w B k x):BR F ρ' w B k (renB κ x):=by
 have rows: ∀{vs:List Value} {l:List AV},CRs F ρ w vs l→CRs F ρ' w vs (rens κ l):=fun{vs l} hr=>⟨by rw[hr.1,rens_length],fun j v y hv hy=>by obtain⟨z,hz,rfl⟩:=rens_get_inv hy;exact(hr.2 j v _ hv hz).up hρ⟩
 cases x with
 |var l=>obtain⟨h0,cs,e,fz,h1,h2,h3⟩:=h;exact⟨h0,cs,e,fz,h1,h2,rows h3⟩
 |arr sz l=>
  obtain⟨h0,cs,e,fz,h1,h2,h3,h4,h5⟩:=h
  have hfl:flat (rens κ l)=rens κ (flat l):=by
   clear h3 h4 h5
   induction l with
   |nil=>rfl
   |cons x l ih=>simp only[flat,rens,List.flatMap_cons]at ih ⊢;rw[ren_cells,ih,rens_map,rens_map,rens_map,List.map_append]
  refine⟨h0,cs,e,fz,h1,h2,by rw[rens_length];exact h3,fun x hx=>?_,?_⟩
  ·rw[rens_map]at hx
   obtain⟨z,hz,rfl⟩:=List.mem_map.1 hx;rw[ren_cells,rens_length];exact h4 z hz
  ·rw[rens_length,hfl];exact rows h5
 |map es=>
  obtain⟨h0,ents,clock,h1,h2,h3⟩:=h;refine⟨h0,ents,clock,h1,by simpa using h2,fun i e x he hx=>?_⟩;rw[List.getElem?_map]at hx
  cases hz:es[i]? with
  |none=>rw [hz]at hx;cases hx
  |some z=>
   rw[hz]at hx;cases hx;have:=h3 i e z he hz;exact⟨this.1.up hρ,this.2.up hρ⟩
 |tail=>exact h
 |dead=>trivial
 |hole=>trivial
theorem Con.lift{E:Env}(hG: ∀i cs,E.G i=some cs→noRefs cs=true){f:FuncId}{args:List AV}{r:AV}{h':H}(hc:Con E f args [] r h')(hn:noRefs args=true)(hh: ∀x,x∈h'→x≠ .hole)(H0:H):
  Con E f args H0 (ren (· +H0.length) r) (H0++h'.map (renB (· +H0.length))):=by
 intro A ρ w vs hr hargs
 have hown: ∀(ρ1:Rho) B off,¬Own ρ1 (view []) B off:=fun ρ1 B off ⟨b,k,y,_,hy,_⟩=>by simp[view]at hy
 have hF:Forb (Forb A ρ (view H0)) rho0 (view [])=Forb A ρ (view H0):=funext fun B=>funext fun off=>propext ⟨fun hh=>hh.resolve_left (hown _ B off), .inr⟩
 have hr':HR E.G (Forb A ρ (view H0)) rho0 w (view []):=by
  refine⟨fun b _=>rfl,fun b x hb _=>(by simp[view]at hb),fun b hb=>(by simp[view]at hb),fun b b' B k k' x x' h=>(by cases h),fun B off ha=>⟨?_,hown _ B off⟩,fun i cs hi=>?_⟩
  ·rcases ha with⟨b,k,y,h1,_⟩|ha
   ·exact hr.lt h1
   ·exact(hr.avo B off ha).1
  ·rw[hF];exact(hr.glob i cs hi).free rho0 (by simp only[noRef];exact hG i cs hi)
 obtain⟨h1,h2⟩:=hc (Forb A ρ (view H0)) rho0 w vs hr' (by rw[hF];exact hargs.free rho0 hn);refine⟨h1,h2.mono ?_⟩;rintro e w' ⟨v,ρs,rfl,hx,hs,hcr⟩;obtain⟨n,hn0⟩: ∃n,n=H0.length:=⟨_,rfl⟩;rw[←hn0]
 have hge: ∀b,n≤b→ρ b=none:=fun b hb=>hr.dom b (by simp[view];omega)
 obtain⟨ρ',hρ'⟩: ∃ρ':Rho,ρ'=fun b=>if b<n then ρ b else ρs (b-n):=⟨_,rfl⟩
 have hold: ∀b,b<n→ρ' b=ρ b:=fun b hb=>by rw[hρ'];simp[hb]
 have hnew: ∀b,ρ' (b+n)=ρs b:=fun b=>by rw[hρ'];simp only;rw[if_neg (by omega),Nat.add_sub_cancel]
 have hsub: ∀b p,ρ b=some p→ρ' b=some p:=fun b p hb=>by
  rcases Nat.lt_or_ge b n with h|h
  ·rw[hold b h];exact hb
  ·rw[hge b h]at hb;cases hb
 obtain⟨g',hg'⟩: ∃g':View,g'=view (H0++h'.map (renB (· +n))):=⟨_,rfl⟩
 have gold: ∀b,b<n→g' b=view H0 b:=fun b hb=>by rw[hg'];exact List.getElem?_append_left (by omega)
 have gnew: ∀b,g' (b+n)=(h'[b]?).map (renB (· +n)):=fun b=>by
  rw[hg'];simp only[view];rw[List.getElem?_append_right (by omega),List.getElem?_map]
  congr 2;omega
 have split: ∀b,b<n∨ ∃c,b=c+n:=fun b=>by
  rcases Nat.lt_or_ge b n with h|h
  ·exact .inl h
  ·exact .inr ⟨b-n,by omega⟩
 have hO: ∀B off,Own ρ' g' B off↔(Own ρ (view H0) B off∨Own ρs (view h') B off):=by
  intro B off;constructor
  ·rintro⟨b,k,x,k1,k2,k3,k4⟩
   rcases split b with hb|⟨c,rfl⟩
   ·rw[hold b hb]at k1;rw[gold b hb]at k2;exact .inl ⟨b,k,x,k1,k2,k3,k4⟩
   ·rw[hnew]at k1;rw[gnew]at k2
    cases hz:h'[c]? with
    |none=>rw [hz]at k2;cases k2
    |some z=>
     rw[hz]at k2;cases k2;exact .inr ⟨c,k,z,k1,hz,by rw[←renB_alive];exact k3,k4⟩
  ·rintro(⟨b,k,x,k1,k2,k3,k4⟩|⟨b,k,x,k1,k2,k3,k4⟩)
   ·have hb:b<n:=by
     rcases Nat.lt_or_ge b n with h|h
     ·exact h
     ·rw[hge b h]at k1;cases k1
    exact⟨b,k,x,by rw[hold b hb];exact k1,by rw[gold b hb];exact k2,k3,k4⟩
   ·refine⟨b+n,k,renB (· +n) x,by rw[hnew];exact k1,?_,by rw[renB_alive];exact k3,k4⟩
    rw[gnew,show h'[b]?=some x from k2];rfl
 have hFe:Forb (Forb A ρ (view H0)) ρs (view h')=Forb A ρ' g':=by
  funext B off
  apply propext;unfold Forb;rw[hO];constructor
  ·rintro(h|h|h)
   ·exact .inl (.inr h)
   ·exact .inl (.inl h)
   ·exact .inr h
  ·rintro((h|h)|h)
   ·exact .inr (.inl h)
   ·exact .inl h
   ·exact .inr (.inr h)
 have hext:Ext (Own ρ (view H0)) ρ w (Own ρ' g') ρ' w':=by
  refine⟨hsub,fun B off ho=>?_,fun b B k hb=>?_,hx.st,hx.size,fun B cs e fz hb=>?_,fun B hB _=>hx.keepo B hB (fun off=>hown _ B off)⟩
  ·rcases(hO B off).1 ho with h|h
   ·exact .inl h
   ·rcases hx.new B off h with h|h
    ·exact absurd h (hown _ B off)
    ·exact .inr h
  ·rcases split b with h|⟨c,rfl⟩
   ·rw[hold b h]at hb;exact .inl hb
   ·rw[hnew]at hb
    rcases hx.newρ c B k hb with h|h|h
    ·cases h
    ·exact absurd h (hown _ B k)
    ·exact .inr (.inr h)
  ·obtain⟨cs',fz',k1,k2,k3⟩:=hx.keep B cs e fz hb
   exact⟨cs',fz',k1,k2,fun off ho _=>k3 off ho (hown _ B off)⟩
 have hup: ∀b p,ρs b=some p→ρ' (b+n)=some p:=fun b p h=>by rw[hnew];exact h
 rw[hFe]at hcr;refine⟨v,ρ',rfl,?_,?_,?_⟩
 ·rw[←hg'];exact hext
 ·rw[←hg']
  refine⟨fun b hb=>?_,fun b x hb hne=>?_,fun b hb B k hk=>?_,fun b b' B k k' x x' k1 k2 k3 k4 k5 k6=>?_,fun B off ha=>⟨Nat.lt_of_lt_of_le (hr.avo B off ha).1 hx.size,fun ho=>?_⟩,fun i cs hi=>(hr.glob i cs hi).ext hext⟩
  ·rcases split b with h|⟨c,rfl⟩
   ·rw[hold b h];rw[gold b h]at hb;exact hr.dom b hb
   ·rw[hnew];rw[gnew]at hb
    exact hs.dom c (by simpa [view]using hb)
  ·rcases split b with h|⟨c,rfl⟩
   ·rw[gold b h]at hb
    obtain⟨B,k,k1,k2,k3⟩:=hr.blk b x hb hne;exact⟨B,k,by rw[hold b h];exact k1,Nat.lt_of_lt_of_le k2 hx.size,k3.mono hsub hext.keeps (hx.keepo B k2 (fun off=>hown _ B off))⟩
   ·rw[gnew]at hb
    cases hz:h'[c]? with
    |none=>rw [hz]at hb;cases hb
    |some z=>
     rw[hz]at hb;cases hb;obtain⟨B,k,k1,k2,k3⟩:=hs.blk c z hz (hh z (List.mem_of_getElem? hz));rw[hFe]at k3;exact⟨B,k,by rw[hnew];exact k1,k2,k3.up hup⟩
  ·rcases split b with h|⟨c,rfl⟩
   ·rw[gold b h]at hb;rw[hold b h]at hk;exact hr.hole b hb B k hk
   ·rw[gnew]at hb
    cases hz:h'[c]? with
    |none=>rw [hz]at hb;cases hb
    |some z=>
     rw[hz]at hb
     have:renB (· +n) z= .hole:=by simpa using hb
     exact absurd (by cases z<;>simp [renB]at this ⊢) (hh z (List.mem_of_getElem? hz))
  ·have cross: ∀{b c:Nat} {x z:Blk} {k k':Nat},b<n→ρ b=some (B,k)→view H0 b=some x→x.alive=true→ρs c=some (B,k')→h'[c]?=some z→z.alive=true→False:=by
    intro b c x z k k' hb q1 q2 q3 q4 q5 q6;exact(hs.avo B (max k k') (.inl ⟨b,k,x,q1,q2,q3,Nat.le_max_left ..⟩)).2 ⟨c,k',z,q4,q5,q6,Nat.le_max_right ..⟩
   rcases split b with h|⟨c,rfl⟩
   ·rw[hold b h]at k1;rw[gold b h]at k3
    rcases split b' with h'|⟨c',rfl⟩
    ·rw[hold b' h']at k2;rw[gold b' h']at k4;exact hr.sep b b' B k k' x x' k1 k2 k3 k4 k5 k6
    ·rw[hnew]at k2;rw[gnew]at k4
     cases hz:h'[c']? with
     |none=>rw [hz]at k4;cases k4
     |some z=>rw [hz]at k4;cases k4;exact(cross h k1 k3 k5 k2 hz (by rw[←renB_alive];exact k6)).elim
   ·rw[hnew]at k1;rw[gnew]at k3
    cases hz:h'[c]? with
    |none=>rw [hz]at k3;cases k3
    |some z=>
     rw[hz]at k3;cases k3
     rcases split b' with h'|⟨c',rfl⟩
     ·rw[hold b' h']at k2;rw[gold b' h']at k4
      exact(cross h' k2 k4 k6 k1 hz (by rw[←renB_alive];exact k5)).elim
     ·rw[hnew]at k2;rw[gnew]at k4
      cases hz':h'[c']? with
      |none=>rw [hz']at k4;cases k4
      |some z'=>
       rw[hz']at k4;cases k4;rw[hs.sep c c' B k k' z z' k1 k2 hz hz' (by rw[←renB_alive];exact k5) (by rw[←renB_alive];exact k6)]
  ·rcases(hO B off).1 ho with h|h
   ·exact(hr.avo B off ha).2 h
   ·exact(hs.avo B off (.inr ha)).2 h
 ·rw[←hg'];exact hcr.up hup
def look:List (Nat×AV)→Nat→AV
 | [],_=>top
 |(j,v)::l,i=>match Nat.beq i j with
  |true=>v
  |false=>look l i
abbrev frm(l:List (Nat×AV)):Fr:=look l
theorem look_zip(τ:Fr): ∀(L:List Nat) (i:Nat),look (L.zip (L.map τ)) i=τ i∨look (L.zip (L.map τ)) i=top
 | [],i=> .inr rfl
 |j::L,i=>by
  simp only[List.map_cons,List.zip_cons_cons,look];split
  ·rename_i h;rw[Nat.eq_of_beq_eq_true h];exact .inl rfl
  ·exact look_zip τ L i
theorem Wk.frm{E:Env}{N:Nat}{h0:H}{τ τ':Fr}{h:H}(hf: ∀i,τ' i=τ i∨τ' i=top):Wk E N h0 τ h τ' h:=by
 rintro A s0 ρ0 w0 w a hn ⟨ρ,hx,hs⟩;refine⟨ρ,hx,hs.hr,fun i=>?_,hs.sz,hs.de⟩
 rcases hf i with h1|h1
 ·rw[h1];exact hs.fr i
 ·rw[h1];exact .inl ⟨0,[],rfl⟩
noncomputable def obsK(X:SX)(K:Known)(N:Nat)(c:Code)(p:List Nat)(τ:Fr)(h:H)(L:List Nat):T (AM.X×List AV×H):=(execK X K N c p τ h).bind fun r=> .leaf (r.1,L.map r.2.1,r.2.2)
theorem Tri.of_obs{X:SX}(g:Ground X.E)(hcall:CallOK X.E X.calls){K:Known}{N:Nat}{h0:H}{body:Code}(hK:KOK X.E N h0 body K){c:Code}{p:List Nat}(hp:sub body p=c){τ:Fr}{h:H}{L:List Nat}{x:AM.X}{vs:List AV}{h':H}
  (hr:(obsK X K N c p τ h L).run= .ok (x,vs,h')):Tri X.E N h0 c τ h x (frm (L.zip vs)) h':=by
 obtain⟨⟨x1,τ1,h1⟩,h2,hr⟩:=T.bind_ok hr;cases hr;exact .wk .refl (execK_ok g hcall hK hp h2) (.frm (look_zip τ1 L))
def one:List AV→AV
 | [v]=>v
 |vs=> .tup vs
theorem Con.of_tri{E:Env}{f:FuncId}{fn:Func}(hfn:E.P.funcs[f]?=some fn){c:Code}(hb:fn.body=some c)(hname:(fn.name== "runtime.NumGoroutine")=false){args:List AV}{h:H}{x:X}{τ:Fr}{h':H}{N:Nat}(hN:N=max fn.ntmps args.length)
  (hc:Tri E N h c (initFr args) h x τ h') (hx: ∀i,x≠ .exit i) {rs:List AV} (hres:resA E τ h' fn.results.toList= .ok rs):Con E f args h (one rs) h':=by
 subst hN;intro A ρ w vs hr hargs;refine⟨fun W=>?_,?_⟩
 ·unfold callFunc
  simp only[Sem.run_bind,run_program,Result.andThen_ok,hfn];rw[if_neg (by simp[hname])];simp[hb]
 ·have hl:vs.size=args.length:=by simpa using hargs.1
  have hst:St E A ρ w {tmps:=vs++Array.replicate (fn.ntmps-vs.size) Go.undef,defers:= []} (initFr args) (view h) (max fn.ntmps args.length) w.heap.size:=
   ⟨hr,init_frame hargs fn.ntmps,by simp;omega,DeOK.nil (Nat.le_refl _)⟩
  have hw:=hc A w.heap.size 0 none ρ w w _ (.inl rfl) (fun b hb=>hr.dom b (by simpa [view]using hb)) ⟨ρ,Ext.refl _ _ _,hst⟩
  refine callsIn_wide.1 (callsIn_of_wp_marks (F:=Fence.wide) (n:=0) hfn hb trivial (wpIn_mono hw ?_) rfl);rintro e a' w2 ⟨rfl,ρ',hx2,hst2⟩
  have fin: ∀(w':World),HR E.G A ρ' w' (view h')→FRel (Forb A ρ' (view h')) ρ' w' a'.tmps τ→Ext (Own ρ (view h)) ρ w (Own ρ' (view h')) ρ' w'→
    ∃v,(results fn a'.tmps).run E.P w'= .ok v w'∧ ∃v1 ρ',Ending.returned v= .returned v1∧Ext (Own ρ (view h)) ρ w (Own ρ' (view h')) ρ' w'∧HR E.G A ρ' w' (view h')∧CR (Forb A ρ' (view h')) ρ' w' v1 (one rs):=by
   intro w' hr' hf' hx';obtain⟨us,h2,h3⟩:=resA_run hr' hf' hres;refine⟨if h:us.length=1 then us[0]else .tuple us.toArray,?_,_,ρ',rfl,hx',hr',?_⟩
   ·rw[results_eq,Sem.run_bind,Array.mapM_eq_mapM_toList,Sem.run_map,h2]
    simp only[Result.andThen_ok,Sem.run_pure]
    congr 1
   ·cases rs with
    |nil=>
     obtain rfl:=List.eq_nil_of_length_eq_zero h3.1;exact .tup_of .nil
    |cons y ys=>
     cases us with
     |nil=>have:=h3.1;simp at this
     |cons u us=>
      cases ys with
      |nil=>
       obtain rfl:us= []:=by have:=h3.1;simpa using this
       simpa [one]using h3.head
      |cons y2 ys=>
       have hlen: ¬(u::us).length=1:=by have:=h3.1;simp at this ⊢;intro e;simp[e]at this
       rw[dif_neg hlen];exact .tup_of (by simpa using h3)
  cases x with
  |normal=>exact leaves_ok fin a'.defers w2 hst2.de hst2.hr hst2.fr hx2
  |ret=>exact leaves_ok fin a'.defers w2 hst2.de hst2.hr hst2.fr hx2
  |exit i=>exact absurd rfl (hx i)
theorem Con.le{E:Env}{f:FuncId}{args:List AV}{h h':H}{r r':AV}(hc:Con E f args h r h')(hl:Le r r'):Con E f args h r' h':=fun A ρ w vs hr hargs=>
 let⟨h1,h2⟩:=hc A ρ w vs hr hargs
 ⟨h1,h2.mono fun e w' ⟨v,ρ',k1,k2,k3,k4⟩=>⟨v,ρ',k1,k2,k3,hl _ _ _ _ k4⟩⟩
theorem Con.args{E:Env}{f:FuncId}{args args':List AV}{h h':H}{r:AV}(hc:Con E f args h r h')(hl:Les args' args):Con E f args' h r h':=fun A ρ w vs hr hargs=>hc A ρ w vs hr (hl.crs hargs)
end Go.Proofs.YtcocmlmligjjcaaGreatDoor.AM
namespace Go.Proofs.YtcocmlmligjjcaaGreatDoor.AM
open Go.RowKit
set_option linter.unusedVariables false
set_option linter.unusedSimpArgs false
set_option linter.unusedSectionVars false
def aggB'(P:Program)(t:TypeId):Bool:=match P.underlying t with
 |some (.struct _)|some (.array _ _)=>true
 |_=>false
section
variable {H:Type} {enc:TypeId×Value→H} {P:Program} {w:World} {base:Nat} {held:Bool} {F:Area} {ρ:Rho}
end
end Go.Proofs.YtcocmlmligjjcaaGreatDoor.AM
namespace Go.Proofs.YtcocmlmligjjcaaGreatDoor.AM
set_option linter.unusedVariables false
set_option linter.unusedSimpArgs false
set_option linter.unusedSectionVars false
theorem Con.base{E:Env}(hG: ∀i cs,E.G i=some cs→noRefs cs=true){f:FuncId}{args:List AV}{r:AV}{h':H}(hc:Con E f args [] r h')(hn:noRefs args=true)(hb:baseV r=true)(h:H):Con E f args h r h:=by
 intro A ρ w vs hr hargs
 have hown: ∀(ρ1:Rho) B off,¬Own ρ1 (view []) B off:=fun ρ1 B off ⟨b,k,y,_,hy,_⟩=>by simp[view]at hy
 have hF:Forb (Forb A ρ (view h)) rho0 (view [])=Forb A ρ (view h):=funext fun B=>funext fun off=>propext ⟨fun hh=>hh.resolve_left (hown _ B off), .inr⟩
 have hr':HR E.G (Forb A ρ (view h)) rho0 w (view []):=by
  refine⟨fun b _=>rfl,fun b x hb _=>(by simp[view]at hb),fun b hb=>(by simp[view]at hb),fun b b' B k k' x x' h=>(by cases h),fun B off ha=>⟨?_,hown _ B off⟩,fun i cs hi=>?_⟩
  ·rcases ha with⟨b,k,y,h1,_⟩|ha
   ·exact hr.lt h1
   ·exact(hr.avo B off ha).1
  ·rw[hF];exact(hr.glob i cs hi).free rho0 (by simp only[noRef];exact hG i cs hi)
 obtain⟨h1,h2⟩:=hc (Forb A ρ (view h)) rho0 w vs hr' (by rw[hF];exact hargs.free rho0 hn);refine⟨h1,h2.mono fun e w' ⟨v,ρ',he,hx,_,hcr⟩=>⟨v,ρ,he,?_,?_,hcr.base _ _ _ hb⟩⟩
 ·exact⟨fun _ _ h=>h,fun _ _ h=> .inl h,fun _ _ _ h=> .inl h,hx.st,hx.size,fun B cs e fz hb=>by
   obtain⟨cs',fz',k1,k2,k3⟩:=hx.keep B cs e fz hb
   exact⟨cs',fz',k1,k2,fun off ho _=>k3 off ho (hown _ B off)⟩,fun B hB _=>hx.keepo B hB (fun off=>hown _ B off)⟩
 ·have hk:Keeps (Forb A ρ (view h)) w (Forb A ρ (view h)) w':=fun B cs e fz hb=>by
   obtain⟨cs',fz',k1,k2,k3⟩:=hx.keep B cs e fz hb;exact⟨cs',fz',k1,k2,fun off ho hf=>⟨k3 off ho (hown _ B off),hf⟩⟩
  refine⟨hr.dom,fun b x hb hxh=>?_,hr.hole,hr.sep,fun B off ha=>⟨Nat.lt_of_lt_of_le (hr.avo B off ha).1 hx.size,(hr.avo B off ha).2⟩,fun i cs hi=>(hr.glob i cs hi).mono (fun _ _ h=>h) hk⟩;obtain⟨B,k,k1,k2,k3⟩:=hr.blk b x hb hxh;exact⟨B,k,k1,Nat.lt_of_lt_of_le k2 hx.size,k3.mono (fun _ _ h=>h) hk (hx.keepo B k2 (fun off=>hown _ B off))⟩
theorem Con.bool{E:Env}{f:FuncId}{args:List AV}{b:Bool}{h':H}(hc:Con E f args [] (.bool b) h'){w:World}{vs:Array Value}(hargs:CRs F0 rho0 w vs.toList args)(hg: ∀i cs,E.G i=some cs→CR F0 rho0 w (.pointer (some ⟨i,0,none⟩)) (.fp cs 0)):
  Calls E.P f vs w fun e w'=>e= .returned (.bool b)∧RowKit.Below w.heap.size w w':=
 (hc area0 rho0 w vs (hr0 hg) hargs).2.mono fun e w' ⟨v,ρ',h1,h2,h3,h4⟩=>⟨by rw[h1,toV_eq (x:= .bool b) rfl h4],below_of h2⟩
theorem Con.env{E E':Env}{f:FuncId}{args:List AV}{h:H}{r:AV}{h':H}(hP:E.P=E'.P)(hG:E.G=E'.G)(hc:Con E f args h r h'):Con E' f args h r h':=by
 unfold Con at hc ⊢
 rw[←hP,←hG];exact hc
noncomputable def runF(X:SX)(K:Known)(fn:Func)(c:Code)(args:List AV)(h:H):T (AV×H):=(execK X K (max fn.ntmps args.length) c [] (initFr args) h).bind fun r=>match r.1 with
 | .exit _=> .fail
 |_=>(resA X.E r.2.1 r.2.2 fn.results.toList).t.bind fun vs=> .leaf (one vs,r.2.2)
theorem Con.of_run{X:SX}(g:Ground X.E)(hcall:CallOK X.E X.calls){f:FuncId}{fn:Func}(hfn:X.E.P.funcs[f]?=some fn){c:Code}(hb:fn.body=some c)(hname:(fn.name== "runtime.NumGoroutine")=false){args:List AV}{h:H}{K:Known}
  (hK:KOK X.E (max fn.ntmps args.length) h c K) {r:AV} {h':H} (hr:(runF X K fn c args h).run= .ok (r,h')):Con X.E f args h r h':=by
 obtain⟨⟨x,τ,h1⟩,h2,hr⟩:=T.bind_ok hr
 have ht:=execK_ok g hcall hK (sub_nil c) h2
 have key: ∀(hx: ∀i,x≠ .exit i),((resA X.E τ h1 fn.results.toList).t.bind fun vs=>T.leaf (one vs,h1)).run= .ok (r,h')→Con X.E f args h r h':=by
  intro hx hr;obtain⟨rs,h3,hr⟩:=R.tbind_ok hr;cases hr;exact Con.of_tri hfn hb hname rfl ht hx h3
 cases x with
 |normal=>exact key nofun hr
 |ret=>exact key nofun hr
 |exit i=>cases hr
theorem look_all: ∀(l:List (Nat×AV)) (i:Nat),look l i=top∨ ∃p,p∈l∧look l i=p.2
 | [],i=> .inl rfl
 |(j,v)::l,i=>by
  simp only[look];split
  ·exact .inr ⟨(j,v),List.mem_cons_self ..,rfl⟩
  ·rcases look_all l i with h|⟨p,h1,h2⟩
   ·exact .inl h
   ·exact .inr ⟨p,List.mem_cons_of_mem _ h1,h2⟩
theorem Wk.fewer{E:Env}{N:Nat}{h0:H}{τ:Fr}{sl:List (Nat×AV)}{h:H}(hs: ∀p,p∈sl→τ p.1=p.2):Wk E N h0 τ h (AM.frm sl) h:=by
 refine Wk.frm (E:=E) fun i=>?_
 have key: ∀(l:List (Nat×AV)),(∀p,p∈l→τ p.1=p.2)→look l i=τ i∨look l i=top:=by
  intro l
  induction l with
  |nil=>intro _;exact .inr rfl
  |cons p l ih=>
   intro hl;obtain⟨j,v⟩:=p;simp only[look];split
   ·rename_i he
    rw[Nat.eq_of_beq_eq_true he];exact .inl (hl (j,v) (List.mem_cons_self ..)).symm
   ·exact ih fun p hp=>hl p (List.mem_cons_of_mem _ hp)
 exact key sl hs
end Go.Proofs.YtcocmlmligjjcaaGreatDoor.AM
namespace Go.Proofs.YtcocmlmligjjcaaGreatDoor.AM
set_option linter.unusedVariables false
set_option linter.unusedSimpArgs false
set_option linter.unusedSectionVars false
end Go.Proofs.YtcocmlmligjjcaaGreatDoor.AM
namespace Go.Proofs.YtcocmlmligjjcaaGreatDoor.AM
set_option linter.unusedVariables false
set_option linter.unusedSimpArgs false
set_option linter.unusedSectionVars false
end Go.Proofs.YtcocmlmligjjcaaGreatDoor.AM
namespace Go.Proofs.YtcocmlmligjjcaaGreatDoor.AM
set_option linter.unusedVariables false
set_option linter.unusedSimpArgs false
set_option linter.unusedSectionVars false
theorem Les.forgets(l:List AV):Les l (forgets l):=by
 refine⟨(forgets_length l).symm,fun j a b ha hb=>?_⟩;obtain⟨z,hz,rfl⟩:=forgets_get hb;rw[ha]at hz;cases hz;exact Le.forget a
inductive Ty where
 |int (k:IntKind)
 |bool
 |str
 |slice (t:Ty)
 |pair (a b:Ty)
 |one (a:Ty)
def Ty.I:Ty→Type
 | .int _=>Int
 | .bool=>Bool
 | .str=>ByteArray
 | .slice t=>List t.I
 | .pair a b=>a.I×b.I
 | .one a=>a.I
def Ty.cells:Ty→Nat
 | .pair a b=>a.cells+b.cells
 | .one a=>a.cells
 |_=>1
def Ty.isAgg:Ty→Bool
 | .pair .. | .one _=>true
 |_=>false
def Ty.wrap(t:Ty)(r:List AV):AV:=match t with
 | .pair .. | .one _=> .agg r
 |_=>r.headD undef
def Ty.row:(t:Ty)→t.I→List AV
 | .int k,(n:Int)=> [.int k n]
 | .bool,(b:Bool)=> [.bool b]
 | .str,(s:ByteArray)=> [.str s]
 | .slice t,(xs:List t.I)=> [.lst t.cells (xs.map fun x=>t.wrap (t.row x)) .open_]
 | .pair a b,(x,y)=>a.row x++b.row y
 | .one a,x=>a.row x
def Ty.elem(t:Ty)(x:t.I):AV:=t.wrap (t.row x)
theorem Ty.row_length: ∀(t:Ty) (x:t.I),(t.row x).length=t.cells
 | .int _,_=>rfl
 | .bool,_=>rfl
 | .str,_=>rfl
 | .slice _,_=>rfl
 | .pair a b,(x,y)=>by simp only[Ty.row,Ty.cells,List.length_append,Ty.row_length a x,Ty.row_length b y]
 | .one a,x=>by simp only[Ty.row,Ty.cells,Ty.row_length a x]
mutual
def Ty.of(P:Program):Nat→TypeId→Option Ty
 |0,_=>none
 |n+1,t=>match P.underlying t with
  |some .bool=>some .bool
  |some (.int k)=>some (.int k)
  |some .string=>some .str
  |some (.slice e)=>match Ty.of P n e with
   |some u=>if(P.cellsOf e=u.cells∧aggB' P e=u.isAgg)∧1≤P.bytesOf e then some (.slice u)else none
   |none=>none
  |some (.struct fs)=>match fs.toList with
   | [f]=>match Ty.of P n f.type with
     |some u=>if f.offset=0∧P.cellsOf f.type=u.cells∧P.cellsOf t=u.cells then some (.one u)else none
     |none=>none
   |fs=>match Ty.ofs P n fs 0 with
    |some u=>if P.cellsOf t=u.cells then some u else none
    |none=>none
  |_=>none
 termination_by structural n=>n
def Ty.ofs(P:Program):Nat→List Field→Nat→Option Ty
 |0,_,_=>none
 |n+1,fs,off=>match fs with
  | []=>none
  |f::fs=>match Ty.of P n f.type with
   |some u=>if f.offset=off∧P.cellsOf f.type=u.cells then(match fs with
     | []=>some u
     |fs=>match Ty.ofs P n fs (off+u.cells)with
      |some w=>some (.pair u w)
      |none=>none)else none
   |none=>none
 termination_by structural n=>n
end
theorem noRefs_append: ∀(l m:List AV),noRefs l=true→noRefs m=true→noRefs (l++m)=true
 | [],m,_,h=>h
 |x::l,m,h,h'=>by
  simp only[noRefs,Bool.and_eq_true]at h;simp only[List.cons_append,noRefs,h.1,noRefs_append l m h.2 h',Bool.and_self]
theorem noRefs_mem: ∀(l:List AV),(∀x,x∈l→noRef x=true)→noRefs l=true
 | [],_=>rfl
 |x::l,h=>by simp only[noRefs,h x (List.mem_cons_self ..),noRefs_mem l (fun y hy=>h y (List.mem_cons_of_mem _ hy)),Bool.and_self]
theorem Ty.wrap_noRef{t:Ty}{l:List AV}(h:noRefs l=true):noRef (t.wrap l)=true:=by
 unfold Ty.wrap;split
 ·simpa only [noRef]using h
 ·simpa only [noRef]using h
 ·cases l with
  |nil=>rfl
  |cons x l=>simp only[noRefs,Bool.and_eq_true]at h;exact h.1
theorem Ty.row_noRef: ∀(t:Ty) (x:t.I),noRefs (t.row x)=true
 | .int _,_=>rfl
 | .bool,_=>rfl
 | .str,_=>rfl
 | .slice t,xs=>by
   have:noRefs ((show List t.I from xs).map fun x=>t.wrap (t.row x))=true:=noRefs_mem _ fun y hy=>by
    obtain⟨x,_,rfl⟩:=List.mem_map.1 hy;exact Ty.wrap_noRef (Ty.row_noRef t x)
   simp only[Ty.row,noRefs,noRef,this,Bool.and_self]
 | .pair a b,(x,y)=>by simp only[Ty.row];exact noRefs_append _ _ (Ty.row_noRef a x) (Ty.row_noRef b y)
 | .one a,x=>by simp only[Ty.row];exact Ty.row_noRef a x
theorem Ty.elem_noRef(t:Ty)(x:t.I):noRef (t.elem x)=true:=Ty.wrap_noRef (Ty.row_noRef t x)
mutual
theorem ren_noRef(κ:Nat→Nat): ∀v:AV,noRef v=true→ren κ v=v:=by
 intro v h
 cases v with
 |fp l off=>simp only[noRef]at h;simp only[ren,rens_noRef κ l h]
 |lst sz l tl=>
  simp only[noRef,Bool.and_eq_true]at h;simp only[ren,rens_noRef κ l h.1]
  cases tl with
  |own t=>exact absurd h.2 (by simp)
  |clip=>rfl
  |open_=>rfl
 |clo f l m=>simp only[noRef,Bool.and_eq_true]at h;simp only[ren,rens_noRef κ l h.1,rens_noRef κ m h.2]
 |agg l=>simp only[noRef]at h;simp only[ren,rens_noRef κ l h]
 |tup l=>simp only[noRef]at h;simp only[ren,rens_noRef κ l h]
 |ptr|eptr|sl|vsl|map|fsl=>simp only[noRef]at h;cases h
 |_=>rfl
theorem rens_noRef(κ:Nat→Nat): ∀l:List AV,noRefs l=true→rens κ l=l:=by
 intro l h
 match l with
 | []=>rfl
 |x::xs=>
  simp only[noRefs,Bool.and_eq_true]at h;simp only[rens,ren_noRef κ x h.1,rens_noRef κ xs h.2]
end
def Ty.zero:(t:Ty)→t.I
 | .int _=>(0:Int)
 | .bool=>false
 | .str=>ByteArray.empty
 | .slice t=>([]:List t.I)
 | .pair a b=>(a.zero,b.zero)
 | .one a=>a.zero
theorem getD_app_l{α:Type}(l m:List α)(j:Nat)(d:α)(h:j<l.length):(l++m).getD j d=l.getD j d:=by
 rw[List.getD_eq_getElem?_getD,List.getD_eq_getElem?_getD,List.getElem?_append_left h]
theorem getD_app_r{α:Type}(l m:List α)(j:Nat)(d:α)(h:l.length≤j):(l++m).getD j d=m.getD (j-l.length) d:=by
 rw[List.getD_eq_getElem?_getD,List.getD_eq_getElem?_getD,List.getElem?_append_right h]
def Likes(a b:AV):Prop:= ∀P t,fits1 P t a=fits1 P t b
theorem Ty.row_likes: ∀(t:Ty) (x y:t.I) (j:Nat),Likes ((t.row x).getD j undef) ((t.row y).getD j undef)
 | .int k,x,y,0=>fun P t=>by simp only[Ty.row,List.getD_cons_zero,fits1]
 | .bool,x,y,0=>fun P t=>by simp only[Ty.row,List.getD_cons_zero,fits1]
 | .str,x,y,0=>fun P t=>by simp only[Ty.row,List.getD_cons_zero,fits1]
 | .slice _,x,y,0=>fun P t=>by simp only[Ty.row,List.getD_cons_zero,fits1]
 | .int k,x,y,j+1=>fun P t=>by simp only[Ty.row,List.getD_cons_succ,List.getD_nil]
 | .bool,x,y,j+1=>fun P t=>by simp only[Ty.row,List.getD_cons_succ,List.getD_nil]
 | .str,x,y,j+1=>fun P t=>by simp only[Ty.row,List.getD_cons_succ,List.getD_nil]
 | .slice _,x,y,j+1=>fun P t=>by simp only[Ty.row,List.getD_cons_succ,List.getD_nil]
 | .pair a b,(x1,x2),(y1,y2),j=>by
   simp only[Ty.row]
   by_cases hj:j<a.cells
   ·rw[getD_app_l _ _ _ _ (by rw[Ty.row_length];exact hj),getD_app_l _ _ _ _ (by rw[Ty.row_length];exact hj)]
    exact Ty.row_likes a x1 y1 j
   ·rw[getD_app_r _ _ _ _ (by rw[Ty.row_length];omega),getD_app_r _ _ _ _ (by rw[Ty.row_length];omega),Ty.row_length,Ty.row_length]
    exact Ty.row_likes b x2 y2 _
 | .one a,x,y,j=>by simp only[Ty.row];exact Ty.row_likes a x y j
theorem fitss_likes{P:Program}{cs ds:List AV}(h: ∀j,Likes (cs.getD j undef) (ds.getD j undef)): ∀(ts:List TypeId) (k:Nat),fitss P cs k ts=fitss P ds k ts
 | [],_=>rfl
 |t::ts,k=>by simp only[fitss,h k P t,fitss_likes h ts (k+1)]
theorem Ty.elem_cells: ∀(t:Ty) (x:t.I),(t.elem x).cells=t.row x
 | .int _,_=>rfl
 | .bool,_=>rfl
 | .str,_=>rfl
 | .slice _,_=>rfl
 | .pair _ _,_=>rfl
 | .one _,_=>rfl
theorem Ty.fits_any{P:Program}{e:TypeId}(t:Ty)(x:t.I)(h:fitsC P e (t.elem t.zero)=true):fitsC P e (t.elem x)=true:=by
 simp only[fitsC,Ty.elem_cells,Ty.row_length]at h ⊢
 rw[fitss_likes (Ty.row_likes t x t.zero)];exact h
end Go.Proofs.YtcocmlmligjjcaaGreatDoor.AM
namespace Go.Proofs.YtcocmlmligjjcaaGreatDoor.AM
set_option linter.unusedVariables false
set_option linter.unusedSimpArgs false
set_option linter.unusedSectionVars false
def Pin(x:Value)(y:AV):Prop:= ∀(F:Area) (ρ:Rho) (w:World) (v:Value),CR F ρ w v y→v=x
theorem Pin.of{x:Value}{y:AV}(h:y.toV=some x):Pin x y:=fun F ρ w v hc=>toV_eq h hc
theorem Pin.str(s:ByteArray):Pin (.string s) (.str s):= .of rfl
inductive Pins:List Value→List AV→Prop
 |nil:Pins [] []
 |cons {x:Value} {y:AV} {xs:List Value} {ys:List AV} (h:Pin x y) (t:Pins xs ys):Pins (x::xs) (y::ys)
theorem Pins.eq{F:Area}{ρ:Rho}{w:World}{xs:List Value}{ys:List AV}(h:Pins xs ys): ∀{vs:List Value},vs.length=ys.length→(∀(j:Nat) (v:Value) (y:AV),vs[j]?=some v→ys[j]?=some y→CR F ρ w v y)→vs=xs:=by
 induction h with
 |nil=>intro vs hl _;exact List.eq_nil_of_length_eq_zero hl
 |cons h t ih=>
  intro vs hl hc
  match vs,hl with
  |v::vs,hl=>
   rw[h _ _ _ _ (hc 0 v _ rfl rfl),ih (by simpa using hl) (fun j v y hv hy=>hc (j+1) v y hv hy)]
end Go.Proofs.YtcocmlmligjjcaaGreatDoor.AM
namespace Go.Proofs.YtcocmlmligjjcaaGreatDoor.AM
set_option linter.unusedVariables false
set_option linter.unusedSimpArgs false
set_option linter.unusedSectionVars false
open Classical in
noncomputable def askS(vs ws:List AV)(h h0:H):Bool:=decide (vs=ws∧h=h0)
theorem askS_self(vs:List AV)(h:H):askS vs vs h h=true:=by simp[askS]
theorem askS_eq{vs ws:List AV}{h h0:H}(e:askS vs ws h h0=true):vs=ws∧h=h0:=by simpa [askS]using e
noncomputable def kAt(p:List Nat)(sl:List (Nat×AV))(h0:H)(x:X)(sl':List (Nat×AV))(h':H):Known:=fun q=>
 if q=p then some (fun τ h=> .br (askS (sl.map fun s=>τ s.1) (sl.map (·.2)) h h0) (.leaf (x,frm sl',h')) .fail)else none
theorem map_eq_mem{α β:Type}{f g:α→β}: ∀{l:List α},l.map f=l.map g→ ∀x,x∈l→f x=g x
 | [],_,x,h=>by cases h
 |a::l,h,x,hx=>by
  simp only[List.map_cons,List.cons.injEq]at h
  rcases List.mem_cons.1 hx with rfl|hx
  ·exact h.1
  ·exact map_eq_mem h.2 x hx
theorem kAt_ok{E:Env}{N:Nat}{hb:H}{b:Code}{p:List Nat}{sl:List (Nat×AV)}{h0:H}{x:X}{sl':List (Nat×AV)}{h':H}(ht:Tri E N hb (sub b p) (frm sl) h0 x (frm sl') h'):KOK E N hb b (kAt p sl h0 x sl' h'):=by
 intro q k hk τ h y τ' h1 hr;simp only[kAt]at hk;split at hk
 ·rename_i hq
  subst hq;cases hk
  dsimp only at hr
  obtain⟨hc,hr⟩:=brf_ok hr;cases hr;obtain⟨h1,rfl⟩:=askS_eq hc;exact .wk (Wk.fewer fun s hs=>map_eq_mem h1 s hs) ht .refl
 ·cases hk
end Go.Proofs.YtcocmlmligjjcaaGreatDoor.AM
namespace Go.Proofs.YtcocmlmligjjcaaGreatDoor.AM
set_option linter.unusedVariables false
set_option linter.unusedSimpArgs false
set_option linter.unusedSectionVars false
def drop1:AV→AV
 | .lst sz l _=> .lst sz l .open_
 |v=>v
theorem Les.drop1: ∀l:List AV,Les l (l.map AM.drop1)
 | []=> .nil
 |x::l=>by
  refine .cons ?_ (Les.drop1 l)
  cases x with
  |lst sz l tl=>exact Le.open_
  |_=>exact Le.refl _
end Go.Proofs.YtcocmlmligjjcaaGreatDoor.AM
namespace Go.Proofs.YtcocmlmligjjcaaGreatDoor.AM
set_option linter.unusedVariables false
set_option linter.unusedSimpArgs false
set_option linter.unusedSectionVars false
theorem Con.based{E:Env}(hG: ∀i cs,E.G i=some cs→noRefs cs=true){f:FuncId}{args:List AV}{r:AV}{h':H}(hc:Con E f args [] r h')(hn:noRefs args=true){r':AV}(hl:Le r r')(hb:noRef r'=true)(h:H):Con E f args h r' h:=by
 intro A ρ w vs hr hargs
 have hown: ∀(ρ1:Rho) B off,¬Own ρ1 (view []) B off:=fun ρ1 B off ⟨b,k,y,_,hy,_⟩=>by simp[view]at hy
 have hF:Forb (Forb A ρ (view h)) rho0 (view [])=Forb A ρ (view h):=funext fun B=>funext fun off=>propext ⟨fun hh=>hh.resolve_left (hown _ B off), .inr⟩
 have hr':HR E.G (Forb A ρ (view h)) rho0 w (view []):=by
  refine⟨fun b _=>rfl,fun b x hb _=>(by simp[view]at hb),fun b hb=>(by simp[view]at hb),fun b b' B k k' x x' h=>(by cases h),fun B off ha=>⟨?_,hown _ B off⟩,fun i cs hi=>?_⟩
  ·rcases ha with⟨b,k,y,h1,_⟩|ha
   ·exact hr.lt h1
   ·exact(hr.avo B off ha).1
  ·rw[hF];exact(hr.glob i cs hi).free rho0 (by simp only[noRef];exact hG i cs hi)
 obtain⟨h1,h2⟩:=hc (Forb A ρ (view h)) rho0 w vs hr' (by rw[hF];exact hargs.free rho0 hn);refine⟨h1,h2.mono fun e w' ⟨v,ρ',he,hx,_,hcr⟩=>⟨v,ρ,he,?_,?_,?_⟩⟩
 ·exact⟨fun _ _ h=>h,fun _ _ h=> .inl h,fun _ _ _ h=> .inl h,hx.st,hx.size,fun B cs e fz hb=>by
   obtain⟨cs',fz',k1,k2,k3⟩:=hx.keep B cs e fz hb
   exact⟨cs',fz',k1,k2,fun off ho _=>k3 off ho (hown _ B off)⟩,fun B hB _=>hx.keepo B hB (fun off=>hown _ B off)⟩
 ·have hk:Keeps (Forb A ρ (view h)) w (Forb A ρ (view h)) w':=fun B cs e fz hb=>by
   obtain⟨cs',fz',k1,k2,k3⟩:=hx.keep B cs e fz hb;exact⟨cs',fz',k1,k2,fun off ho hf=>⟨k3 off ho (hown _ B off),hf⟩⟩
  refine⟨hr.dom,fun b x hb hxh=>?_,hr.hole,hr.sep,fun B off ha=>⟨Nat.lt_of_lt_of_le (hr.avo B off ha).1 hx.size,(hr.avo B off ha).2⟩,fun i cs hi=>(hr.glob i cs hi).mono (fun _ _ h=>h) hk⟩;obtain⟨B,k,k1,k2,k3⟩:=hr.blk b x hb hxh;exact⟨B,k,k1,Nat.lt_of_lt_of_le k2 hx.size,k3.mono (fun _ _ h=>h) hk (hx.keepo B k2 (fun off=>hown _ B off))⟩
 ·have hk:Keeps (Forb (Forb A ρ (view h)) ρ' (view h')) w' (Forb A ρ (view h)) w':=fun B cs e fz hb=>⟨cs,fz,hb,rfl,fun off _ hf=>⟨rfl,fun hq=>hf (.inr hq)⟩⟩
  exact((hl _ _ _ _ hcr).free ρ hb).mono (fun _ _ h=>h) hk
end Go.Proofs.YtcocmlmligjjcaaGreatDoor.AM
namespace Go.Proofs.YtcocmlmligjjcaaGreatDoor.AM
set_option linter.unusedVariables false
set_option linter.unusedSimpArgs false
set_option linter.unusedSectionVars false
theorem bT{α:Type}{b:Bool}{t f:T α}{x:R α}(hb:b=true)(ht:t.run=x):(T.br b t f).run=x:=by subst hb;exact ht
theorem bF{α:Type}{b:Bool}{t f:T α}{x:R α}(hb:b=false)(ht:f.run=x):(T.br b t f).run=x:=by subst hb;exact ht
theorem bS{α:Type}{vs ws:List AV}{h:H}{t f:T α}{x:R α}(ht:t.run=x)(hv:vs=ws:=by rfl):(T.br (askS vs ws h h) t f).run=x:=by
 subst hv;rw[askS_self];exact ht
noncomputable def ask(p:Prop):Bool:=by
 classical exact decide p
theorem ask_true{p:Prop}(h:p):ask p=true:=by simp[ask,h]
theorem ask_of{p:Prop}(h:ask p=true):p:=by simpa [ask]using h
noncomputable def askQ(p:List AV→Prop)(args:List AV):Bool:=ask (p args)
theorem bA{α:Type}{p:List AV→Prop}{args:List AV}{t f:T α}{x:R α}(ht:t.run=x)(hp:p args):(T.br (askQ p args) t f).run=x:=bT (ask_true hp) ht
structure Cl where
 f:FuncId
 ok:List AV→Prop
 res:List AV→AV
noncomputable def callsBy(cs:List Cl):FuncId→List AV→H→T (AV×H):=fun f args h=>match cs.find? (fun c=>c.f==f)with
 |some c=> .br (askQ c.ok (args.map drop1)) (.leaf (c.res (args.map drop1),h)) .fail
 |none=> .fail
theorem callsBy_ok{X:SX}{cs:List Cl}(hx:X.call=callsBy cs)(hcs: ∀c,c∈cs→ ∀args,c.ok args→ ∀h,Con X.E c.f args h (c.res args) h):CallOK X.E X.calls:=by
 intro f args h r h' hc
 have hc':(callsBy cs f args h).run= .ok (r,h'):=by rw[←hx];exact hc
 show Con X.E f args h r h';unfold callsBy at hc';split at hc'
 ·rename_i c hf
  obtain⟨hq,hr⟩:=brf_ok hc';cases hr
  have hid:c.f=f:=by simpa using List.find?_some hf
  have:=hcs c (List.mem_of_find?_eq_some hf) _ (ask_of hq) h;rw[hid]at this;exact this.args (Les.drop1 args)
 ·cases hc'
theorem noCalls{X:SX}(h: ∀f args m,X.call f args m= .fail):CallOK X.E X.calls:=fun f args m r m' hc=>by
 have:X.calls f args m=(X.call f args m).run:=rfl;rw[this,h]at hc;cases hc
theorem Con.pureF{X:SX}(g:Ground X.E)(hG: ∀i cs,X.E.G i=some cs→noRefs cs=true)(hcall:CallOK X.E X.calls){f:FuncId}{fn:Func}(hfn:X.E.P.funcs[f]?=some fn){c:Code}(hb:fn.body=some c)(hname:(fn.name== "runtime.NumGoroutine")=false){args:List AV}{K:Known}
  (hK:KOK X.E (max fn.ntmps args.length) [] c K) (hn:noRefs args=true) {v r:AV} {h':H} (hr:(runF X K fn c args []).run= .ok (v,h')) (hl:Le v r) (hr':noRef r=true) (h:H):Con X.E f args h r h:=
 Con.based hG (Con.of_run g hcall hfn hb hname hK hr) hn hl hr' h
noncomputable def runV(X:SX)(K:Known)(fn:Func)(c:Code)(args:List AV):T AV:=(runF X K fn c args []).bind fun r=> .leaf r.1
theorem Con.pureV{X:SX}(g:Ground X.E)(hG: ∀i cs,X.E.G i=some cs→noRefs cs=true)(hcall:CallOK X.E X.calls){f:FuncId}{fn:Func}(hfn:X.E.P.funcs[f]?=some fn){c:Code}(hb:fn.body=some c)(hname:(fn.name== "runtime.NumGoroutine")=false){args:List AV}{K:Known}
  (hK:KOK X.E (max fn.ntmps args.length) [] c K) (hn:noRefs args=true) {v r:AV} (hr:(runV X K fn c args).run= .ok v) (hl:Le v r) (hr':noRef r=true) (h:H):Con X.E f args h r h:=by
 obtain⟨⟨v',h'⟩,h2,h3⟩:=T.bind_ok hr;cases h3;exact Con.pureF g hG hcall hfn hb hname hK hn h2 hl hr' h
theorem Tri.seen{X:SX}(g:Ground X.E)(hcall:CallOK X.E X.calls){K:Known}{N:Nat}{h0:H}{body:Code}(hK:KOK X.E N h0 body K){c:Code}{p:List Nat}(hp:sub body p=c){τ:Fr}{h:H}{L:List Nat}{x:AM.X}{vs:List AV}{h':H}
  (hr:(obsK X K N c p τ h L).run= .ok (x,vs,h')) {sl:List (Nat×AV)} (hs: ∀q,q∈sl→AM.frm (L.zip vs) q.1=q.2):Tri X.E N h0 c τ h x (AM.frm sl) h':=
 .wk .refl (Tri.of_obs g hcall hK hp hr) (Wk.fewer hs)
theorem eq_rounds{E:Env}{N:Nat}{h0:H}{c:Code}{α:Type}{L M:List α}{z:α}{st:Nat→List (Nat×AV)}{hm:H}{rt:List (Nat×AV)}{id:Nat}(hlen:M.length=L.length)
  (hgo: ∀j,j<L.length→L.getD j z=M.getD j z→Tri E N h0 c (frm (st j)) hm .normal (frm (st (j+1))) hm)
  (hhit: ∀j,j<L.length→L.getD j z≠M.getD j z→Tri E N h0 c (frm (st j)) hm .ret (frm rt) hm)
  (hout:Tri E N h0 c (frm (st L.length)) hm (.exit id) (frm (st L.length)) hm):
  (L=M→TRounds E N h0 c (frm (st 0)) hm (.exit id) (frm (st L.length)) hm)∧(L≠M→TRounds E N h0 c (frm (st 0)) hm .ret (frm rt) hm):=by
 have key: ∀(d j:Nat),j+d=L.length→(L.drop j=M.drop j→TRounds E N h0 c (frm (st j)) hm (.exit id) (frm (st L.length)) hm)∧(L.drop j≠M.drop j→TRounds E N h0 c (frm (st j)) hm .ret (frm rt) hm):=by
  intro d
  induction d with
  |zero=>
   intro j hj
   obtain rfl:j=L.length:=by omega
   refine⟨fun _=> .done hout nofun,fun h=>?_⟩;rw[List.drop_length,←hlen,List.drop_length]at h;exact absurd rfl h
  |succ d ih=>
   intro j hj
   have hjl:j<L.length:=by omega
   have hjm:j<M.length:=by omega
   have e1:L.drop j=L.getD j z::L.drop (j+1):=by rw[List.drop_eq_getElem_cons hjl,List.getD_eq_getElem?_getD,List.getElem?_eq_getElem hjl];rfl
   have e2:M.drop j=M.getD j z::M.drop (j+1):=by rw[List.drop_eq_getElem_cons hjm,List.getD_eq_getElem?_getD,List.getElem?_eq_getElem hjm];rfl
   obtain⟨i1,i2⟩:=ih (j+1) (by omega);rw[e1,e2]
   by_cases he:L.getD j z=M.getD j z
   ·have h1:=hgo j hjl he
    refine⟨fun h=> .more h1 (i1 (List.cons.inj h).2),fun h=> .more h1 (i2 fun h'=>h (by rw[he,h']))⟩
   ·have h1:=hhit j hjl he
    exact⟨fun h=>absurd (List.cons.inj h).1 he,fun _=> .done h1 nofun⟩
 exact key L.length 0 (by omega)
theorem ask_iff{b:Bool}{p:Prop}(h:b=true↔p):b=ask p:=by
 by_cases hp:p
 ·rw[ask_true hp,h.2 hp]
 ·have:ask p=false:=by simp[ask,hp]
  rw[this];cases b with
  |false=>rfl
  |true=>exact absurd (h.1 rfl) hp
theorem ask_false{p:Prop}(h: ¬p):ask p=false:=by simp[ask,h]
def encL(t:Ty)(L:List t.I):AV:= .lst t.cells (L.map t.elem) .open_
theorem encL_noRef(t:Ty)(L:List t.I):noRef (encL t L)=true:=(Ty.slice t).elem_noRef L
theorem getD_elem{t:Ty}{L:List t.I}{j:Nat}(h:j<L.length)(d:AV):(L.map t.elem).getD j d=t.elem (L.getD j t.zero):=by
 simp[List.getD_eq_getElem?_getD,List.getElem?_eq_getElem h]
theorem wrap64{n:Int}(h0:0≤n)(h1:n<9223372036854775808):IntKind.i64.wrap n=n:=by
 have e1:IntKind.i64.bits=64:=rfl;have e2:IntKind.i64.signed=true:=rfl;simp only[IntKind.wrap,e1,e2];have:n%(2 ^ 64:Int)=n:=Int.emod_eq_of_lt h0 (by omega);rw[this];simp;intro h;omega
theorem wrap_next{j:Nat}(h:j<1000000000000000):IntKind.i64.wrap ((j:Int)+1)=((j+1:Nat):Int):=by rw[wrap64 (by omega) (by omega)];simp
theorem idx_ok{P:Program}{e:TypeId}{t:Ty}{L:List t.I}{j:Nat}(h:j<L.length)(hf:fitsC P e (t.elem t.zero)=true):
  (decide ((0:Int)≤(j:Int))&&decide ((j:Int)<(((L.map t.elem).length:Nat):Int))&&fitsC P e ((L.map t.elem).getD (j:Int).toNat undef))=true:=by
 rw[Int.toNat_natCast,getD_elem h,t.fits_any _ hf];simp;omega
theorem lt_ok{t:Ty}{L:List t.I}{j:Nat}(h:j<L.length):decide ((j:Int)<(((L.map t.elem).length:Nat):Int))=true:=by simp;omega
theorem lt_no{t:Ty}{L:List t.I}:decide (((L.length:Nat):Int)<(((L.map t.elem).length:Nat):Int))=false:=by simp
theorem Ty.elem_row{t:Ty}{x y:t.I}(h:t.elem x=t.elem y):t.row x=t.row y:=by
 have e:=congrArg AV.cells h
 rw[t.elem_cells,t.elem_cells]at e;exact e
theorem map_inj{α β:Type}{f:α→β}(hf: ∀x y,f x=f y→x=y): ∀{l m:List α},l.map f=m.map f→l=m
 | [],[],_=>rfl
 | [],y::m,h=>by simp at h
 |x::l,[],h=>by simp at h
 |x::l,y::m,h=>by
  simp only[List.map_cons,List.cons.injEq]at h;rw[hf _ _ h.1,map_inj hf h.2]
theorem Ty.row_inj: ∀(t:Ty) (x y:t.I),t.row x=t.row y→x=y
 | .int k,x,y,h=>by cases h;rfl
 | .bool,x,y,h=>by cases h;rfl
 | .str,x,y,h=>by cases h;rfl
 | .slice t,x,y,h=>by
   simp only[Ty.row,List.cons.injEq,AV.lst.injEq,true_and,and_true]at h;exact map_inj (fun a b hab=>Ty.row_inj t a b (Ty.elem_row hab)) h
 | .pair a b,(x1,x2),(y1,y2),h=>by
   simp only[Ty.row]at h;obtain⟨h1,h2⟩:=List.append_inj h (by rw[a.row_length,a.row_length]);rw[Ty.row_inj a _ _ h1,Ty.row_inj b _ _ h2]
 | .one a,x,y,h=>Ty.row_inj a x y h
theorem Ty.elem_inj{t:Ty}{x y:t.I}(h:t.elem x=t.elem y):x=y:=Ty.row_inj t x y (Ty.elem_row h)
theorem encL_inj{t:Ty}{L M:List t.I}(h:encL t L=encL t M):L=M:=by
 simp only[encL,AV.lst.injEq,true_and,and_true]at h;exact map_inj (fun _ _ h=>Ty.elem_inj h) h
noncomputable def eqRes(args:List AV):AV:= .bool (ask (args.getD 0 undef=args.getD 1 undef))
def okLL(t:Ty)(args:List AV):Prop:= ∃L M:List t.I,args= [encL t L,encL t M]∧L.length<1000000000000000
noncomputable def clLL(f:FuncId)(t:Ty):Cl:=⟨f,okLL t,eqRes⟩
theorem eqRes_LL{t:Ty}{L M:List t.I}:eqRes [encL t L,encL t M]= .bool (ask (L=M)):=by
 simp only[eqRes,List.getD_cons_zero,List.getD_cons_succ]
 congr 1
 exact(ask_iff ⟨fun h=>by have:=ask_of h;rw[this],fun h=>ask_true (encL_inj h)⟩).symm
theorem clLL_con{E:Env}{f:FuncId}{t:Ty}(hc: ∀(L M:List t.I),L.length<1000000000000000→ ∀h,Con E f [encL t L,encL t M] h (.bool (ask (L=M))) h): ∀args,(clLL f t).ok args→ ∀h,Con E (clLL f t).f args h ((clLL f t).res args) h:=by
 rintro args ⟨L,M,rfl,hl⟩ h;show Con E f _ h (eqRes _) h;rw[eqRes_LL];exact hc L M hl h
def clK(f:FuncId):Cl:=⟨f,fun args=>args= [],fun _=> .bool true⟩
theorem clK_con{E:Env}{f:FuncId}(hc: ∀h,Con E f [] h (.bool true) h): ∀args,(clK f).ok args→ ∀h,Con E (clK f).f args h ((clK f).res args) h:=by
 rintro args rfl h;exact hc h
theorem ask_dec{α:Type} [DecidableEq α](a b:α):ask (a=b)=decide (a=b):=by
 by_cases h:a=b
 ·rw[ask_true h,decide_eq_true h]
 ·rw[ask_false h,decide_eq_false h]
noncomputable def lightC(cs:List Cl):FuncId→List AV→Option AV:=fun f args=>match cs.find? (fun c=>c.f==f)with
 |some c=>(match ask (c.ok (args.map drop1))with
  |true=>some (c.res (args.map drop1))
  |false=>none)
 |none=>none
theorem lightC_ok{E:Env}{cs:List Cl}(hC:E.C=lightC cs)(hcs: ∀c,c∈cs→ ∀args,c.ok args→ ∀h,Con E c.f args h (c.res args) h)(hf: ∀c,c∈cs→ ∀args,noF (c.res args)=true):COK E:=by
 intro f args h r h' hc
 have hc':(match lightC cs f args with
  |some r=>R.ok (thaw h r)
  |none=> .no "")= .ok (r,h'):=by rw[←hC];exact hc
 show Con E f args h r h';unfold lightC at hc'
 cases hfi:cs.find? (fun c=>c.f==f)with
 |none=>rw [hfi]at hc';cases hc'
 |some c=>
  rw[hfi]at hc';simp only at hc'
  cases hq:ask (c.ok (args.map drop1))with
  |false=>rw [hq]at hc';cases hc'
  |true=>
   rw[hq]at hc';simp only at hc';rw[noF_thaw _ (hf c (List.mem_of_find?_eq_some hfi) _)]at hc';cases hc'
   have hid:c.f=f:=by simpa using List.find?_some hfi
   have:=hcs c (List.mem_of_find?_eq_some hfi) _ (ask_of hq) h;rw[hid]at this;exact this.args (Les.drop1 args)
theorem bL{α:Type}{E:Env}{cs:List Cl}{g:FuncId}{vs:List AV}{v:AV}{t f:T α}{x:R α}{c:Cl}(hC:E.C=lightC cs)(hf:cs.find? (fun c=>c.f==g)=some c)(hok:c.ok (vs.map drop1))(hv:c.res (vs.map drop1)=v)(hn:noF v=true)(ht:t.run=x):(T.br (askL E g vs v) t f).run=x:=by
 refine bT ?_ ht
 simp only[askL,decide_eq_true_eq];refine⟨?_,hn⟩;rw[hC];unfold lightC;rw[hf];simp only[ask_true hok,hv]
end Go.Proofs.YtcocmlmligjjcaaGreatDoor.AM
namespace Go.Proofs.YtcocmlmligjjcaaGreatDoor.AM
set_option linter.unusedVariables false
set_option linter.unusedSimpArgs false
set_option linter.unusedSectionVars false
noncomputable def callsRun(rs:List (FuncId×SX×Func×Code)):FuncId→List AV→H→T (AV×H):=fun f args h=>match rs.find? (fun r=>r.1==f)with
 |some r=>runF r.2.1 (fun _=>none) r.2.2.1 r.2.2.2 args h
 |none=> .fail
theorem callsRun_ok{X:SX}{rs:List (FuncId×SX×Func×Code)}(hx:X.call=callsRun rs)
  (hrs: ∀r,r∈rs→Ground r.2.1.E∧CallOK r.2.1.E r.2.1.calls∧r.2.1.E=X.E∧X.E.P.funcs[r.1]?=some r.2.2.1∧r.2.2.1.body=some r.2.2.2∧(r.2.2.1.name== "runtime.NumGoroutine")=false):CallOK X.E X.calls:=by
 intro f args h r h' hc
 have hc':(callsRun rs f args h).run= .ok (r,h'):=by rw[←hx];exact hc
 show Con X.E f args h r h';unfold callsRun at hc';split at hc'
 ·rename_i q hf
  obtain⟨k1,k2,k3,k4,k5,k6⟩:=hrs q (List.mem_of_find?_eq_some hf)
  have hid:q.1=f:=by simpa using List.find?_some hf
  subst hid
  rw[←k3]at k4 ⊢
  exact Con.of_run k1 k2 k4 k5 k6 KOK.none hc'
 ·cases hc'
structure CH where
 f:FuncId
 args:List AV
 h:H
 r:AV
 h':H
end Go.Proofs.YtcocmlmligjjcaaGreatDoor.AM
namespace Go.Proofs.YtcocmlmligjjcaaGreatDoor.AM
set_option linter.unusedVariables false
set_option linter.unusedSimpArgs false
set_option linter.unusedSectionVars false
theorem Con.of_made{E:Env}{f:FuncId}{args:List AV}{us:List Value}(hp:Pins us args){r:AV}
  (hen: ∀W,(callFunc f us.toArray).run E.P W= .ok (.enter f us.toArray) W)
  (hc: ∀w,Calls E.P f us.toArray w fun e w'=> ∃v,e= .returned v∧RowKit.Below w.heap.size w w'∧ ∀(F:Area) (ρ:Rho),(∀B off,w.heap.size≤B→ ¬F B off)→CR F ρ w' v r) (h:H):Con E f args h r h:=by
 intro A ρ w vs hw hargs
 have hvs:vs=us.toArray:=by
  have:=hp.eq hargs.1 hargs.2;rw[←this]
 subst hvs;refine⟨hen,(hc w).mono fun e w' ⟨v,he,hb,hr⟩=>⟨v,ρ,he,?_,?_,hr _ _ fun B off hB hF=>?_⟩⟩
 ·exact⟨fun _ _ h=>h,fun _ _ h=> .inl h,fun _ _ _ h=> .inl h,⟨hb.os,hb.tape,hb.output⟩,hb.size,fun B cs e fz hB=>by
   have hlt:B<w.heap.size:=by
    rcases Nat.lt_or_ge B w.heap.size with h|h
    ·exact h
    ·rw[Array.getElem?_eq_none h]at hB;cases hB
   exact⟨cs,fz,by rw[hb.block B hlt];exact hB,rfl,fun off _ _=>rfl⟩,fun B hB _=>hb.block B hB⟩
 ·have hk:Keeps (Forb A ρ (view h)) w (Forb A ρ (view h)) w':=fun B cs e fz hB=>by
   have hlt:B<w.heap.size:=by
    rcases Nat.lt_or_ge B w.heap.size with h|h
    ·exact h
    ·rw[Array.getElem?_eq_none h]at hB;cases hB
   exact⟨cs,fz,by rw[hb.block B hlt];exact hB,rfl,fun off _ hf=>⟨rfl,hf⟩⟩
  refine⟨hw.dom,fun b x hbx hxh=>?_,hw.hole,hw.sep,fun B off ha=>⟨Nat.lt_of_lt_of_le (hw.avo B off ha).1 hb.size,(hw.avo B off ha).2⟩,fun i cs hi=>(hw.glob i cs hi).mono (fun _ _ h=>h) hk⟩;obtain⟨B,k,k1,k2,k3⟩:=hw.blk b x hbx hxh;exact⟨B,k,k1,Nat.lt_of_lt_of_le k2 hb.size,k3.mono (fun _ _ h=>h) hk (hb.block B k2)⟩
 ·rcases hF with⟨b,k,blk,r1,r2,r3,r4⟩|hA
  ·obtain⟨B',k',h1,h2,_⟩:=hw.blk b blk r2 (fun e=>by rw[e]at r3;cases r3)
   rw[r1]at h1;cases h1;omega
  ·have:=(hw.avo B off hA).1
   omega
theorem CR.texts{F:Area}{ρ:Rho}{w:World}{base:Nat}(hF: ∀B off,base≤B→ ¬F B off){v:Value}{l:List ByteArray}
  (hv:(v= .slice none 0 0∧l= [])∨ ∃(g cap:Nat) (cur:Array Value) (e:TypeId) (fz:Nat×Nat),v= .slice (some ⟨g,0,none⟩) l.length cap∧base≤g∧w.heap[g]?=some (.cells cur e fz)∧l.length≤cap∧cap≤cur.size∧ ∀(j:Nat) (s:ByteArray),l[j]?=some s→cur[j]?=some (.string s)):
  CR F ρ w v (.lst 1 (l.map AV.str) .open_):=by
 rcases hv with⟨rfl,rfl⟩|⟨g,cap,cur,e,fz,rfl,hg,hb,hn,hc,hj⟩
 ·exact .lst0 nofun
 ·have hl:(l.map AV.str).length=l.length:=by simp
  refine .lst hb (by simp) (fun x hx=>?_) (fun j _=>hF g _ hg) (fun i j=> .string (l.getD i .empty)) (fun i x j y hx hy=>?_) (fun i x j y hx hy=>?_) (by omega) (by omega) (fun h=>by cases h) (fun t h=>by cases h)
  ·obtain⟨s,_,rfl⟩:=List.mem_map.1 hx;rfl
  ·rw[List.getElem?_map]at hx
   obtain⟨s,hs,rfl⟩:=Option.map_eq_some_iff.1 hx
   have hj0:j=0:=by have:=lt_of_getl hy;simp[AV.cells]at this;omega
   subst hj0
   have:l.getD i .empty=s:=by rw[List.getD_eq_getElem?_getD,hs];rfl
   rw[this]
   simpa using hj i s hs
  ·rw[List.getElem?_map]at hx
   obtain⟨s,hs,rfl⟩:=Option.map_eq_some_iff.1 hx
   have hj0:j=0:=by have:=lt_of_getl hy;simp[AV.cells]at this;omega
   subst hj0
   have:l.getD i .empty=s:=by rw[List.getD_eq_getElem?_getD,hs];rfl
   rw[this]
   have hy':y= .str s:=by simpa [AV.cells]using hy.symm
   rw[hy'];exact .str s
end Go.Proofs.YtcocmlmligjjcaaGreatDoor.AM
namespace Go.Proofs.YtcocmlmligjjcaaGreatDoor.AM
set_option linter.unusedVariables false
set_option linter.unusedSimpArgs false
set_option linter.unusedSectionVars false
section
variable {P:Program} {S:TypeId→Bool} {kt:TypeId} {s:ByteArray} {l:List ByteArray}
end
def upto{α:Type}(f:α→ByteArray)(L:List α)(j:Nat):List ByteArray:=(L.take j).map f
end Go.Proofs.YtcocmlmligjjcaaGreatDoor.AM
namespace Go.Proofs.YtcocmlmligjjcaaGreatDoor.AM
set_option linter.unusedVariables false
set_option linter.unusedSimpArgs false
set_option linter.unusedSectionVars false
def vb:Nat→Int→List AV
 |0,_=> []
 |m+1,u=>if 128≤u then .int .u8 (u%128+128)::vb m (u / 128)else [.int .u8 u]
abbrev room(n m:Nat)(new:List AV):Bool:=decide ((n+m)*1≤140000000000000)&&decide (n+m≤140000000000000)&&new.all fun y=>y.cells.all AV.leaf
section
variable {α:Type} [DecidableEq α]
end
section
variable {P:Program} {S:TypeId→Bool} {kt:TypeId} {α:Type} [DecidableEq α] {K:α→AV}
end
end Go.Proofs.YtcocmlmligjjcaaGreatDoor.AM
namespace Go.Proofs.YtcocmlmligjjcaaGreatDoor.AM
set_option linter.unusedVariables false
set_option linter.unusedSimpArgs false
set_option linter.unusedSectionVars false
end Go.Proofs.YtcocmlmligjjcaaGreatDoor.AM
namespace Go.Proofs.YtcocmlmligjjcaaGreatDoor.AM
set_option linter.unusedVariables false
set_option linter.unusedSimpArgs false
set_option linter.unusedSectionVars false
def X.same:AM.X→AM.X→Bool
 | .normal, .normal=>true
 | .ret, .ret=>true
 | .exit i, .exit j=>i==j
 |_,_=>false
end Go.Proofs.YtcocmlmligjjcaaGreatDoor.AM
namespace Go.Proofs.YtcocmlmligjjcaaGreatDoor.AM
set_option linter.unusedVariables false
set_option linter.unusedSimpArgs false
set_option linter.unusedSectionVars false
noncomputable def bodyE(E:Env)(call:CallF)(f:FuncId)(args:List AV)(h:H):R (AV×H):= @Option.rec Func (fun _=>R (AV×H)) (.no "func") (fun fn=> @Option.rec Code (fun _=>R (AV×H)) (.no ("body " ++fn.name)) (fun c=>iteF (fn.name== "runtime.NumGoroutine") (.no "name") (bodyF E call f args h fn c)) fn.body) (E.P.funcs[f]?)
theorem Con.of_bodyE{E:Env}(g:Ground E){call:CallF}(hcall:CallOK E call){f:FuncId}{args:List AV}{h:H}{r:AV}{h':H}(hc:bodyE E call f args h= .ok (r,h')):Con E f args h r h':=by
 unfold bodyE at hc
 cases hfn:E.P.funcs[f]? with
 |none=>rw [hfn]at hc;cases hc
 |some fn=>
  rw[hfn]at hc
  dsimp only at hc
  cases hb:fn.body with
  |none=>rw [hb]at hc;cases hc
  |some c=>
   rw[hb]at hc
   dsimp only at hc
   rw[iteF_eq]at hc;split at hc
   ·cases hc
   ·rename_i hname
    unfold bodyF at hc;rw[bindF_eq,execF_eq,initF_eq]at hc;obtain⟨⟨x,τ,h1⟩,h2,hc⟩:=R.bind_ok hc
    dsimp only at hc
    rw[iteF_eq]at hc;split at hc
    ·cases hc
    ·rename_i hx
     rw[bindF_eq,resF_eq]at hc;obtain⟨ys,h3,hc⟩:=R.bind_ok hc;have ht:Tri E (max fn.ntmps args.length) h c (initFr args) h x τ h1:= .of_code (fun A s0 nn rd ρ w a hrd hs=>exec_wp g.hS g.hC g.hB hcall g.hmix c rd nn (initFr args) h x τ h1 ρ w a hrd h2 hs)
     have hr:r=one ys∧h'=h1:=by
      rw[resV_eq]at hc;cases hc;refine⟨?_,rfl⟩
      rcases ys with _|⟨v,_|⟨u,l⟩⟩<;>rfl
     obtain⟨rfl,rfl⟩:=hr;exact Con.of_tri hfn hb (by simpa using hname) rfl ht (fun i hi=>hx (by rw[hi];rfl)) h3
noncomputable def acallT(E:Env)(tab:FuncId→List AV→H→Option (AV×H))(n:Nat):CallF:= @Nat.rec (fun _=>CallF) (fun _ _ _=> .no "deep") (fun _ ih f args h=> @Option.rec (AV×H) (fun _=>R (AV×H)) (bodyE E ih f args h) (fun r=> .ok r) (tab f args h)) n
theorem acallT_ok{E:Env}(g:Ground E){tab:FuncId→List AV→H→Option (AV×H)}(ht: ∀f args h r h',tab f args h=some (r,h')→Con E f args h r h')(n:Nat):CallOK E (acallT E tab n):=by
 induction n with
 |zero=>intro f args h r h' hc;cases hc
 |succ n ih=>
  refine callOK_con.2 fun f args h r h' hc=>?_
  have hc': @Option.rec (AV×H) (fun _=>R (AV×H)) (bodyE E (acallT E tab n) f args h) (fun r=> .ok r) (tab f args h)= .ok (r,h'):=hc
  cases htab:tab f args h with
  |none=>rw [htab]at hc';exact Con.of_bodyE g ih hc'
  |some p=>
   rw[htab]at hc';cases hc';exact ht f args h r h' htab
structure CB where
 f:FuncId
 args:List AV
 r:AV
 h:H
def noHoleB(x:Blk):Bool:=match x with| .hole=>false|_=>true
theorem noHole{h:H}(hb:h.all noHoleB=true): ∀x,x∈h→x≠ .hole:=by
 intro x hx e;subst e;have:=List.all_eq_true.1 hb _ hx;cases this
def CB.Ok(E:Env)(c:CB):Prop:=Con E c.f c.args [] c.r c.h∧noRefs c.args=true∧c.h.all noHoleB=true
noncomputable def tabB(cs:List CB):FuncId→List AV→H→Option (AV×H):=fun f args h=>
 @List.rec CB (fun _=>Option (AV×H)) none (fun c _ ih=>iteF (andF (Nat.beq c.f f) (sames (forgets args) c.args)) (some (ren (· +h.length) c.r,appF h (c.h.map (renB (· +h.length))))) ih) cs
theorem tabB_ok{E:Env}(hG: ∀i cs,E.G i=some cs→noRefs cs=true): ∀{cs:List CB},(∀c,c∈cs→c.Ok E)→ ∀f args h r h',tabB cs f args h=some (r,h')→Con E f args h r h':=by
 intro cs
 induction cs with
 |nil=>intro _ f args h r h' hc;cases hc
 |cons c cs ih=>
  intro hcs f args h r h' hc;have hc':iteF (andF (Nat.beq c.f f) (sames (forgets args) c.args)) (some (ren (· +h.length) c.r,appF h (c.h.map (renB (· +h.length))))) (tabB cs f args h)=some (r,h'):=hc;rw[iteF_eq,andF_eq,appF_eq]at hc';split at hc'
  ·rename_i hp
   simp only[Bool.and_eq_true,Nat.beq_eq]at hp;obtain⟨k1,k2,k3⟩:=hcs c (List.mem_cons_self ..);cases hc';have:=Con.lift hG k1 k2 (noHole k3) h;rw[←sames_eq' hp.2,hp.1]at this;exact this.args (Les.forgets args)
  ·exact ih (fun c hc=>hcs c (List.mem_cons_of_mem _ hc)) f args h r h' hc'
def isTrueR:R (AV×H)→Bool
 | .ok (.bool true,_)=>true
 |_=>false
theorem isTrueR_ok{x:R (AV×H)}(h:isTrueR x=true): ∃h',x= .ok (.bool true,h'):=by
 cases x with
 |no s=>cases h
 |ok p=>
  obtain⟨v,h1⟩:=p
  cases v with
  |bool b=>cases b with
   |true=>exact⟨h1,rfl⟩
   |false=>cases h
  |_=>cases h
theorem Con.known{E:Env}(g:Ground E)(hG: ∀i cs,E.G i=some cs→noRefs cs=true){cs:List CB}(hcs: ∀c,c∈cs→c.Ok E){n:Nat}{f:FuncId}(hr:isTrueR (acallT E (tabB cs) n f [] [])=true)(h:H):Con E f [] h (.bool true) h:=by
 obtain⟨h1,hr⟩:=isTrueR_ok hr;exact Con.base hG (acallT_ok g (tabB_ok hG hcs) n f [] [] _ _ hr) rfl rfl h
end Go.Proofs.YtcocmlmligjjcaaGreatDoor.AM
namespace Go.Proofs.YtcocmlmligjjcaaGreatDoor.AM
set_option linter.unusedVariables false
set_option linter.unusedSimpArgs false
set_option linter.unusedSectionVars false
mutual
def frz(b sz:Nat)(l:List AV):AV→AV
 | .sl b' off len sz' c=>if b'=b∧sz'=sz∧off+len≤l.length then .lst sz ((l.drop off).take len) .open_ else .sl b' off len sz' c
 | .agg cs=> .agg (frzs b sz l cs)
 | .tup cs=> .tup (frzs b sz l cs)
 |v=>v
def frzs(b sz:Nat)(l:List AV):List AV→List AV
 | []=> []
 |v::vs=>frz b sz l v::frzs b sz l vs
end
theorem frzs_eq(b sz:Nat)(l:List AV)(xs:List AV):frzs b sz l xs=xs.map (frz b sz l):=by
 induction xs with
 |nil=>rfl
 |cons x xs ih=>simp only[frzs,ih,List.map_cons]
theorem frzs_get{b sz:Nat}{l xs:List AV}{j:Nat}{y:AV}(h:(frzs b sz l xs)[j]?=some y): ∃z,xs[j]?=some z∧frz b sz l z=y:=by
 rw[frzs_eq,List.getElem?_map]at h
 cases hx:xs[j]? with
 |none=>rw [hx]at h;cases h
 |some z=>rw [hx]at h;exact⟨z,rfl,by simpa using h⟩
theorem CR.frz{G:Nat→Option (List AV)}{A:Area}{ρ:Rho}{w:World}{g:View}(hr:HR G A ρ w g){b sz:Nat}{l:List AV}(hg:g b=some (.arr sz l)){v:Value}{y:AV}(h:CR (Forb A ρ g) ρ w v y):CR (Forb A ρ (setG g b .dead)) ρ w v (AM.frz b sz l y):=by
 obtain⟨x1,_⟩:=hr.kill hg
 induction h with
 | @sl b' B o off len sz' c clip cs e fz h0 hb hr' hl hc ho=>
   simp only[AM.frz];split
   ·rename_i hcond
    obtain⟨rfl,rfl,hle⟩:=hcond;obtain⟨B1,k1,hρ1,_,hk1,cs1,e1,fz1,hb1,hth1,hsz1,hel⟩:=hr.blk b' _ hg nofun;rw[h0]at hρ1;cases hρ1;rw[hb]at hb1;cases hb1
    have hlen:((l.drop off).take len).length=len:=by rw[List.length_take,List.length_drop];omega
    rcases Nat.eq_zero_or_pos c with hc0|hc0
    ·subst hc0
     obtain rfl:len=0:=by omega
     rw[List.take_zero];exact .lst0 nofun
    ·have hoo:o=off*sz':=ho.resolve_left (by omega)
     have hcut:=hel.cut off len
     rw[Nat.zero_add,←hoo]at hcut
     have hF: ∀j,j<((l.drop off).take len).length*sz'→ ¬Forb A ρ (setG g b' .dead) B (o+j):=by
      intro j _ hF
      rcases hF with⟨b2,k2,blk2,r1,r2,r3,r4⟩|hA
      ·simp only[setG]at r2
       split at r2
       ·cases r2;cases r3
       ·rename_i hne
        exact hne (hr.sep b2 b' B k2 0 blk2 _ r1 h0 r2 hg r3 rfl)
      ·exact(hr.avo B _ hA).2 ⟨b',0,_,h0,hg,rfl,Nat.zero_le _⟩
     have key:CR (Forb A ρ (setG g b' .dead)) ρ w (.slice (some ⟨B,o,none⟩) ((l.drop off).take len).length c) (.lst sz' ((l.drop off).take len) .open_):=
      .lst_of hb hF (hcut.mono x1.sub x1.keeps) (by omega) (by rw[hoo,←Nat.add_mul];exact hr') (fun h=>by cases h) (fun t h=>by cases h)
     rw[hlen]at key;exact key
   ·exact(CR.sl h0 hb hr' hl hc ho).ext x1
 | @agg cs l' hn vs h1 h2 ih=>
   simp only[AM.frz];exact .agg (by rw[frzs_eq,List.length_map];exact hn) vs (fun j y hy=>by obtain⟨z,hz,rfl⟩:=frzs_get hy;exact h1 j z hz) (fun j y hy=>by obtain⟨z,hz,rfl⟩:=frzs_get hy;exact ih j z hz)
 | @tup cs l' hn vs h1 h2 ih=>
   simp only[AM.frz];exact .tup (by rw[frzs_eq,List.length_map];exact hn) vs (fun j y hy=>by obtain⟨z,hz,rfl⟩:=frzs_get hy;exact h1 j z hz) (fun j y hy=>by obtain⟨z,hz,rfl⟩:=frzs_get hy;exact ih j z hz)
 |bool b=>exact .bool b
 |int k n=>exact .int k n
 |str s=>exact .str s
 |nilp=>exact .nilp
 |ptr h=>exact(CR.ptr h).ext x1
 |eptr h ho=>exact(CR.eptr h ho).ext x1
 |fp hb hF vs h1 h2 ho ih=>exact(CR.fp hb hF vs h1 h2 ho).ext x1
 |nils=>exact .nils
 |lst0 ht=>exact(CR.lst0 ht).ext x1
 |vsl h hl hc ho=>exact(CR.vsl h hl hc ho).ext x1
 |lst hb hn hsz hF vs h1 h2 hl hr hc ht ih=>exact(CR.lst hb hn hsz hF vs h1 h2 hl hr hc ht).ext x1
 |nilm=>exact .nilm
 |map h=>exact(CR.map h).ext x1
 |nilf=>exact .nilf
 |clo hf hc vs us h1 h2 h3 h4 ih1 ih2=>exact(CR.clo hf hc vs us h1 h2 h3 h4).ext x1
 |nili=>exact .nili
theorem Con.freeze{E:Env}{f:FuncId}{args:List AV}{h h':H}{r:AV}(hc:Con E f args h r h'){b sz:Nat}{l:List AV}(hb:h'[b]?=some (.arr sz l)):Con E f args h (AM.frz b sz l r) (h'.set b .dead):=by
 intro A ρ w vs hr hargs;obtain⟨h1,h2⟩:=hc A ρ w vs hr hargs;refine⟨h1,h2.mono fun e w' ⟨v,ρ',he,hx,hr',hcr⟩=>?_⟩;have hbv:view h' b=some (.arr sz l):=hb;obtain⟨x1,hrk⟩:=hr'.kill hbv;rw[view_set hb];exact⟨v,ρ',he,hx.trans x1,hrk,CR.frz hr' hbv hcr⟩
end Go.Proofs.YtcocmlmligjjcaaGreatDoor.AM
