-- SQUEEZED
/- The abstract machine: memory that is new, written, or appended to. -/
import Derived.Test.YtcocmlmligjjcaaGreatDoorA8
import Derived.IntWalk
import Derived.Orders
import Derived.OrdersIn
import Derived.TacticsIn
import Derived.LoopNIn
namespace Go.Proofs.YtcocmlmligjjcaaGreatDoor.AM
set_option linter.unusedSectionVars false
set_option linter.unusedVariables false
set_option linter.unusedSimpArgs false
def setR(ρ:Rho)(id:Nat)(p:Nat×Nat):Rho:=fun b=>if b=id then some p else ρ b
def setG(g:View)(id:Nat)(x:Blk):View:=fun b=>if b=id then some x else g b
def view(h:H):View:=fun b=>h[b]?
theorem view_append(h:H)(x:Blk):view (h++ [x])=setG (view h) h.length x:=by
 funext b
 simp only[view,setG]
 by_cases hb:b=h.length
 ·subst hb;simp
 ·rw[if_neg hb]
  rcases Nat.lt_or_ge b h.length with h1|h1
  ·rw[List.getElem?_append_left h1]
  ·rw[List.getElem?_eq_none (by simp;omega),List.getElem?_eq_none h1]
theorem view_set{h:H}{b:Nat}{y:Blk}(hb:h[b]?=some y)(x:Blk):view (h.set b x)=setG (view h) b x:=by
 funext c
 simp only[view,setG];rw[List.getElem?_set]
 by_cases hc:c=b
 ·subst hc;simp[lt_of_getl hb]
 ·rw[if_neg hc,if_neg (fun e=>hc e.symm)]
theorem view_length(h:H):view h h.length=none:=by simp[view]
section
variable {G:Nat→Option (List AV)} {A:Area} {ρ:Rho} {w w':World} {g:View}
theorem HR.lt(hr:HR G A ρ w g){b B k:Nat}(h:ρ b=some (B,k)):B<w.heap.size:=by
 cases hg:g b with
 |none=>rw [hr.dom b hg]at h;cases h
 |some x=>
  by_cases hx:x= .hole
  ·rw[hx]at hg;exact(hr.avo B k (hr.hole b hg B k h)).1
  ·obtain⟨B',k',h1,h2,_⟩:=hr.blk b x hg hx;rw[h]at h1;cases h1;exact h2
theorem HR.glob'{E:Env}(hr:HR E.G A ρ w g):Glob E (Forb A ρ g) ρ w:=hr.glob
theorem HR.alloc(hr:HR G A ρ w g){id:Nat}(hid:ρ id=none){obj:Obj}(hw:w'.heap=w.heap.push obj)(hst:SameS w w')(k:Nat)(x:Blk)(hxh:x≠ .hole:=by nofun):
  Ext (Own ρ g) ρ w (Own (setR ρ id (w.heap.size,k)) (setG g id x)) (setR ρ id (w.heap.size,k)) w'∧
  (BR (Forb A (setR ρ id (w.heap.size,k)) (setG g id x)) (setR ρ id (w.heap.size,k)) w' w.heap.size k x→HR G A (setR ρ id (w.heap.size,k)) w' (setG g id x)):=by
 have hne: ∀b p,ρ b=some p→b≠id:=fun b p hb he=>by rw[he,hid]at hb;cases hb
 obtain⟨h1,h2⟩:=hr.upd (ρ':=setR ρ id (w.heap.size,k)) (w':=w') (g':=setG g id x) w.heap.size hst
  (fun b p hb=>by simp[setR,hne b p hb,hb])
  (fun B hB _=>by rw[hw];simp[Array.getElem?_push,Nat.ne_of_lt hB])
  (fun cs e fz hb=>by have:=lt_of_get hb;omega)
  (fun h=>by omega) (by rw[hw];simp)
  (fun B off ⟨b,k',y,hb,hy,hal,hk⟩=>by
   simp only[setR,setG]at hb hy;split at hb
   ·cases hb;exact .inr (Nat.le_refl _)
   ·rename_i hbi;rw[if_neg hbi]at hy;exact .inl ⟨b,k',y,hb,hy,hal,hk⟩)
  (fun b B k' hb=>by
   simp only[setR]at hb;split at hb
   ·cases hb;exact .inr (.inr (Nat.le_refl _))
   ·exact .inl hb)
 refine⟨h1,fun hbr=>h2 (fun b hb=>?_) (fun b y hb=>?_) (fun b b' B k1 k2 y y' hb hb' hy hy' hal hal'=>?_) (fun b hb=>?_)⟩
 ·simp only[setG,setR]at hb ⊢
  split at hb
  ·cases hb
  ·rename_i hbi;rw[if_neg hbi];exact hr.dom b hb
 ·simp only[setG]at hb
  split at hb
  ·rename_i hbi
   cases hb;exact .inr ⟨w.heap.size,k,by simp[setR,hbi],by rw[hw];simp,hbr⟩
  ·exact .inl ⟨hb,fun _ B k' hB=>Nat.ne_of_lt (hr.lt hB)⟩
 ·simp only[setR,setG]at hb hb' hy hy'
  by_cases h1:b=id<;>by_cases h2:b'=id
  ·rw[h1,h2]
  ·rw[if_pos h1]at hb;rw[if_neg h2]at hb';cases hb;have:=hr.lt hb';omega
  ·rw[if_neg h1]at hb;rw[if_pos h2]at hb';cases hb';have:=hr.lt hb;omega
  ·rw[if_neg h1]at hb hy;rw[if_neg h2]at hb' hy';exact hr.sep b b' B k1 k2 y y' hb hb' hy hy' hal hal'
 ·simp only[setG]at hb
  split at hb
  ·cases hb;exact absurd rfl hxh
  ·rename_i hbi;exact⟨hb,by simp[setR,hbi]⟩
theorem HR.modify(hr:HR G A ρ w g){b0 B0:Nat}{x0:Blk}(hρ:ρ b0=some (B0,0))(hg0:g b0=some x0)(ha0:x0.alive=true){obj:Obj}(hw:w'.heap=w.heap.setIfInBounds B0 obj)(hst:SameS w w')
  (hs: ∀cs e fz,w.heap[B0]?=some (.cells cs e fz)→ ∃cs' fz',obj= .cells cs' e fz'∧cs'.size=cs.size) (x:Blk) (hxh:x≠ .hole:=by nofun):
  Ext (Own ρ g) ρ w (Own ρ (setG g b0 x)) ρ w'∧(BR (Forb A ρ (setG g b0 x)) ρ w' B0 0 x→HR G A ρ w' (setG g b0 x)):=by
 have hlt:=hr.lt hρ
 obtain⟨h1,h2⟩:=hr.upd (ρ':=ρ) (w':=w') (g':=setG g b0 x) B0 hst
  (fun b p hb=>hb)
  (fun B hB hne=>by rw[hw,Array.getElem?_setIfInBounds_ne (fun e=>hne e.symm)])
  (fun cs e fz hb=>by
   obtain⟨cs',fz',h1,h2⟩:=hs cs e fz hb
   refine⟨cs',fz',by rw[hw,h1];simp[Array.getElem?_setIfInBounds_self,hlt],h2,fun off _ ho=>absurd ⟨b0,0,x0,hρ,hg0,ha0,Nat.zero_le _⟩ ho⟩)
  (fun h=> .inl ⟨0,b0,0,x0,hρ,hg0,ha0,Nat.le_refl _⟩) (by rw[hw];simp)
  (fun B off ⟨b,k',y,hb,hy,hal,hk⟩=>by
   simp only[setG]at hy;split at hy
   ·rename_i hbi;subst hbi;rw[hρ]at hb;cases hb;exact .inl ⟨b,0,x0,hρ,hg0,ha0,Nat.zero_le _⟩
   ·exact .inl ⟨b,k',y,hb,hy,hal,hk⟩)
  (fun b B k' hb=> .inl hb)
 refine⟨h1,fun hbr=>h2 (fun b hb=>?_) (fun b y hb=>?_) (fun b b' B k1 k2 y y' hb hb' hy hy' hal hal'=>?_) (fun b hb=>by
  simp only[setG]at hb;split at hb
  ·cases hb;exact absurd rfl hxh
  ·exact⟨hb,rfl⟩)⟩
 ·simp only[setG]at hb
  split at hb
  ·cases hb
  ·exact hr.dom b hb
 ·simp only[setG]at hb
  split at hb
  ·rename_i hbi
   cases hb;exact .inr ⟨B0,0,by rw[hbi];exact hρ,by rw[hw];simpa using hlt,hbr⟩
  ·rename_i hbi
   exact .inl ⟨hb,fun hal B k' hB he=>hbi (hr.sep b b0 B k' 0 y x0 hB (by rw[he];exact hρ) hb hg0 hal ha0)⟩
 ·simp only[setG]at hy hy'
  have fix: ∀{c z},(if c=b0 then some x else g c)=some z→z.alive=true→ ∃z',g c=some z'∧z'.alive=true:=by
   intro c z hz hzal;split at hz
   ·rename_i hc;exact⟨x0,by rw[hc];exact hg0,ha0⟩
   ·exact⟨z,hz,hzal⟩
  obtain⟨z,hz,hza⟩:=fix hy hal;obtain⟨z',hz',hza'⟩:=fix hy' hal';exact hr.sep b b' B k1 k2 z z' hb hb' hz hz' hza hza'
theorem HR.kill(hr:HR G A ρ w g){b0:Nat}{x0:Blk}(hg0:g b0=some x0)(hx0:x0≠ .hole:=by nofun):
  Ext (Own ρ g) ρ w (Own ρ (setG g b0 .dead)) ρ w∧HR G A ρ w (setG g b0 .dead):=by
 obtain⟨h1,h2⟩:=hr.upd (ρ':=ρ) (w':=w) (g':=setG g b0 .dead) w.heap.size (SameS.refl w)
  (fun b p hb=>hb) (fun B hB hne=>rfl) (fun cs e fz hb=>by have:=lt_of_get hb;omega) (fun h=>by omega) (Nat.le_refl _)
  (fun B off ⟨b,k',y,hb,hy,hal,hk⟩=>by
   simp only[setG]at hy;split at hy
   ·cases hy;cases hal
   ·exact .inl ⟨b,k',y,hb,hy,hal,hk⟩)
  (fun b B k' hb=> .inl hb)
 refine⟨h1,h2 (fun b hb=>?_) (fun b y hb=>?_) (fun b b' B k1 k2 y y' hb hb' hy hy' hal hal'=>?_) (fun b hb=>by
  simp only[setG]at hb;split at hb
  ·cases hb
  ·exact⟨hb,rfl⟩)⟩
 ·simp only[setG]at hb
  split at hb
  ·cases hb
  ·exact hr.dom b hb
 ·simp only[setG]at hb
  split at hb
  ·rename_i hbi
   cases hb;obtain⟨B,k,hB,hlt,_⟩:=hr.blk b0 x0 hg0 hx0;exact .inr ⟨B,k,by rw[hbi];exact hB,hlt,trivial⟩
  ·exact .inl ⟨hb,fun hal B k' hB=>Nat.ne_of_lt (hr.lt hB)⟩
 ·simp only[setG]at hy hy'
  split at hy
  ·cases hy;cases hal
  ·split at hy'
   ·cases hy';cases hal'
   ·exact hr.sep b b' B k1 k2 y y' hb hb' hy hy' hal hal'
theorem HR.spend(hr:HR G A ρ w g){b0 B0 k0:Nat}{x0:Blk}(hρ:ρ b0=some (B0,k0))(hg0:g b0=some x0)(ha0:x0.alive=true){cs:Array Value}{e:TypeId}{fz fz':Nat×Nat}
  (hb:w.heap[B0]?=some (.cells cs e fz)) (hw:w'.heap=w.heap.setIfInBounds B0 (.cells cs e fz')) (hst:SameS w w'):
  Ext (Own ρ g) ρ w (Own ρ (setG g b0 .dead)) ρ w'∧HR G A ρ w' (setG g b0 .dead):=by
 have hlt:=hr.lt hρ
 obtain⟨h1,h2⟩:=hr.upd (ρ':=ρ) (w':=w') (g':=setG g b0 .dead) B0 hst
  (fun b p hb=>hb)
  (fun B hB hne=>by rw[hw,Array.getElem?_setIfInBounds_ne (fun e=>hne e.symm)])
  (fun cs1 e1 fz1 hb1=>by
   rw[hb]at hb1;cases hb1
   exact⟨cs,fz',by rw[hw];simp[Array.getElem?_setIfInBounds_self,hlt],rfl,fun off _ ho=>rfl⟩)
  (fun h=> .inl ⟨k0,b0,k0,x0,hρ,hg0,ha0,Nat.le_refl _⟩) (by rw[hw];simp)
  (fun B off ⟨b,k',y,hb,hy,hal,hk⟩=>by
   simp only[setG]at hy;split at hy
   ·cases hy;cases hal
   ·exact .inl ⟨b,k',y,hb,hy,hal,hk⟩)
  (fun b B k hb=> .inl hb)
 refine⟨h1,h2 (fun b hb=>?_) (fun b blk hgb=>?_) (fun b b' B k k' x x' hb hb' hy hy' hal hal'=>?_) (fun b hb=>?_)⟩
 ·simp only[setG]at hb
  split at hb
  ·cases hb
  ·exact hr.dom b hb
 ·simp only[setG]at hgb
  split at hgb
  ·rename_i hbi
   cases hgb;subst hbi;exact .inr ⟨B0,k0,hρ,by rw[hw];simpa using hlt,trivial⟩
  ·rename_i hbi
   refine .inl ⟨hgb,fun hal B k hk=>?_⟩;rintro rfl;exact hbi (hr.sep b b0 _ k k0 blk x0 hk hρ hgb hg0 hal ha0)
 ·simp only[setG]at hy hy'
  split at hy
  ·cases hy;cases hal
  ·split at hy'
   ·cases hy';cases hal'
   ·exact hr.sep b b' B k k' x x' hb hb' hy hy' hal hal'
 ·simp only[setG]at hb
  split at hb
  ·cases hb
  ·exact⟨hb,rfl⟩
theorem HR.onto(hr:HR G A ρ w g){b0 B0 k0 id k:Nat}{x0:Blk}(hρ:ρ b0=some (B0,k0))(hg0:g b0=some x0)(ha0:x0.alive=true)(hid:g id=none)(hk:k0≤k){cs cs':Array Value}{e:TypeId}{fz:Nat×Nat}
  (hb:w.heap[B0]?=some (.cells cs e fz)) (hw:w'.heap=w.heap.setIfInBounds B0 (.cells cs' e fz)) (hst:SameS w w') (hs:cs'.size=cs.size) (hsame: ∀off,off<k0→cs'[off]?=cs[off]?) (x:Blk) (hxh:x≠ .hole:=by nofun):
  Ext (Own ρ g) ρ w (Own (setR ρ id (B0,k)) (setG (setG g b0 .dead) id x)) (setR ρ id (B0,k)) w'∧
  (BR (Forb A (setR ρ id (B0,k)) (setG (setG g b0 .dead) id x)) (setR ρ id (B0,k)) w' B0 k x→HR G A (setR ρ id (B0,k)) w' (setG (setG g b0 .dead) id x)):=by
 have hlt:=hr.lt hρ
 have hne: ∀b p,ρ b=some p→b≠id:=fun b p hb he=>by rw[he,hr.dom id hid]at hb;cases hb
 have hb0:b0≠id:=hne _ _ hρ
 obtain⟨h1,h2⟩:=hr.upd (ρ':=setR ρ id (B0,k)) (w':=w') (g':=setG (setG g b0 .dead) id x) B0 hst
  (fun b p hb=>by simp[setR,hne b p hb,hb])
  (fun B hB hne=>by rw[hw,Array.getElem?_setIfInBounds_ne (fun e=>hne e.symm)])
  (fun cs1 e1 fz1 hb1=>by
   rw[hb]at hb1;cases hb1;refine⟨cs',fz,by rw[hw];simp[Array.getElem?_setIfInBounds_self,hlt],hs,fun off _ ho=>hsame off ?_⟩
   rcases Nat.lt_or_ge off k0 with h|h
   ·exact h
   ·exact absurd ⟨b0,k0,x0,hρ,hg0,ha0,h⟩ ho)
  (fun h=> .inl ⟨k0,b0,k0,x0,hρ,hg0,ha0,Nat.le_refl _⟩) (by rw[hw];simp)
  (fun B off ⟨b,k',y,hb,hy,hal,hk'⟩=>by
   simp only[setR,setG]at hb hy
   by_cases h1:b=id
   ·rw[if_pos h1]at hb;cases hb;exact .inl ⟨b0,k0,x0,hρ,hg0,ha0,by omega⟩
   ·rw[if_neg h1]at hb hy
    split at hy
    ·cases hy;cases hal
    ·exact .inl ⟨b,k',y,hb,hy,hal,hk'⟩)
  (fun b B k' hb=>by
   simp only[setR]at hb;split at hb
   ·cases hb;exact .inr (.inl ⟨b0,k0,x0,hρ,hg0,ha0,hk⟩)
   ·exact .inl hb)
 refine⟨h1,fun hbr=>h2 (fun b hb=>?_) (fun b y hb=>?_) (fun b b' B k1 k2 y y' hb hb' hy hy' hal hal'=>?_) (fun b hb=>by
  simp only[setG]at hb;split at hb
  ·cases hb;exact absurd rfl hxh
  ·rename_i hbi
   split at hb
   ·cases hb
   ·exact⟨hb,by simp[setR,hbi]⟩)⟩
 ·simp only[setG,setR]at hb ⊢
  split at hb
  ·cases hb
  ·rename_i hbi
   rw[if_neg hbi];split at hb
   ·cases hb
   ·exact hr.dom b hb
 ·simp only[setG]at hb
  split at hb
  ·rename_i hbi
   cases hb;exact .inr ⟨B0,k,by simp[setR,hbi],by rw[hw];simpa using hlt,hbr⟩
  ·rename_i hbi
   split at hb
   ·rename_i hbb
    cases hb;exact .inr ⟨B0,k0,by simp[setR,hbi];rw[hbb];exact hρ,by rw[hw];simpa using hlt,trivial⟩
   ·rename_i hbb
    exact .inl ⟨hb,fun hal B k' hB he=>hbb (hr.sep b b0 B k' k0 y x0 hB (by rw[he];exact hρ) hb hg0 hal ha0)⟩
 ·simp only[setR,setG]at hb hb' hy hy'
  have fix: ∀{c z p},c≠id→(if c=id then some x else if c=b0 then some .dead else g c)=some z→z.alive=true→(if c=id then some (B0,k)else ρ c)=some p→g c=some z∧c≠b0∧ρ c=some p:=by
   intro c z p hc hz hzal hp;rw[if_neg hc]at hz hp;split at hz
   ·cases hz;cases hzal
   ·rename_i hcb;exact⟨hz,hcb,hp⟩
  by_cases h1:b=id<;>by_cases h2:b'=id
  ·rw[h1,h2]
  ·obtain⟨hz,hcb,hp⟩:=fix h2 hy' hal' hb'
   rw[if_pos h1]at hb;cases hb;exact absurd (hr.sep b' b0 B0 k2 k0 y' x0 hp hρ hz hg0 hal' ha0) hcb
  ·obtain⟨hz,hcb,hp⟩:=fix h1 hy hal hb
   rw[if_pos h2]at hb';cases hb';exact absurd (hr.sep b b0 B0 k1 k0 y x0 hp hρ hz hg0 hal ha0) hcb
  ·obtain⟨hz,hcb,hp⟩:=fix h1 hy hal hb
   obtain⟨hz',hcb',hp'⟩:=fix h2 hy' hal' hb';exact hr.sep b b' B k1 k2 y y' hp hp' hz hz' hal hal'
end
end Go.Proofs.YtcocmlmligjjcaaGreatDoor.AM
namespace Go.Proofs.YtcocmlmligjjcaaGreatDoor.AM
set_option linter.unusedSectionVars false
set_option linter.unusedVariables false
set_option linter.unusedSimpArgs false
section
variable {F:Area} {ρ:Rho} {w:World}
theorem setCells_eq: ∀(xs cs:List AV) (off:Nat),off+xs.length≤cs.length→setCells cs off xs=cs.take off++xs++cs.drop (off+xs.length)
 | [],cs,off,h=>by simp[setCells]
 |x::xs,cs,off,h=>by
  simp only[setCells];simp only[List.length_cons]at h;rw[setCells_eq xs (cs.set off x) (off+1) (by simp;omega)];rw[List.take_set,List.drop_set_of_lt (by omega)]
  have h1:(cs.take (off+1)).set off x=cs.take off++ [x]:=by
   rw[List.take_succ_eq_append_getElem (by omega),List.set_append_right _ _ (by simp;omega)];simp[Nat.min_eq_left (show off≤cs.length by omega)]
  rw[h1];simp[Nat.add_assoc,Nat.add_comm 1]
theorem setCells_flat{l:List AV}{sz i:Nat}{v:AV}(h: ∀x,x∈l→x.cells.length=sz)(hv:v.cells.length=sz)(hi:i<l.length):setCells (flat l) (i*sz) v.cells=flat (l.set i v):=by
 have hle:i*sz+sz≤l.length*sz:=by have:=Nat.mul_le_mul_right sz (show i+1≤l.length from hi);rw[Nat.add_mul]at this;omega
 rw[setCells_eq _ _ _ (by rw[flat_length h,hv];exact hle),hv,flat_take h]
 have:i*sz+sz=(i+1)*sz:=by rw[Nat.add_mul];omega
 rw[this,flat_drop h,List.set_eq_take_append_cons_drop,if_pos hi,flat_append];show _=_++(v.cells++flat _);rw[List.append_assoc]
theorem mem_set{l:List AV}{i:Nat}{v x:AV}(h:x∈l.set i v):x=v∨x∈l:=by
 rcases List.mem_or_eq_of_mem_set h with h|h
 ·exact .inr h
 ·exact .inl h
theorem fillE_fillA{sz:Nat}: ∀{parts:List (Nat×AV)} {l l':List AV},fillE sz l parts= .ok l'→(∀x,x∈l→x.cells.length=sz)→
  fillA (fun i=>some (i*sz,sz)) (flat l) parts= .ok (flat l')∧(∀x,x∈l'→x.cells.length=sz)∧l'.length=l.length
 | [],l,l',h,hs=>by cases h;exact⟨rfl,hs,rfl⟩
 |(i,v)::parts,l,l',h,hs=>by
  simp only[fillE]at h;split at h
  ·rename_i hc
   have hle:i*sz+sz≤l.length*sz:=by have:=Nat.mul_le_mul_right sz (show i+1≤l.length from hc.2);rw[Nat.add_mul]at this;omega
   obtain⟨h1,h2,h3⟩:=fillE_fillA h (fun x hx=>by
    rcases mem_set hx with rfl|hx
    ·exact hc.1
    ·exact hs x hx)
   refine⟨?_,h2,by rw[h3];simp⟩;simp only[fillA];rw[if_pos ⟨hc.1,by rw[flat_length hs];exact hle⟩,setCells_flat hs hc.1 hc.2];exact h1
  ·cases h
theorem replicate_sz{n sz:Nat}{z:AV}(hz:z.cells.length=sz): ∀x,x∈List.replicate n z→x.cells.length=sz:=fun x hx=>by rw[(List.mem_replicate.1 hx).2];exact hz
theorem zeros_cr{n sz:Nat}{zc:Array Value}{z:AV}(h:CRs F ρ w zc.toList z.cells)(hz:z.cells.length=sz):
  CRs F ρ w ((Array.range (n*sz)).map (fun i=>zc[i%zc.size]!)).toList (flat (List.replicate n z)):=by
 have hzs:zc.size=sz:=by have:=h.1;simp at this;omega
 refine⟨by rw[flat_length (replicate_sz hz)];simp,fun q v y hv hy=>?_⟩;obtain⟨i,j,x,rfl,hx,hxy⟩:=flat_split (replicate_sz hz) hy
 have hj:=lt_of_getl hxy
 have hxz:x=z:=(List.mem_replicate.1 (List.mem_of_getElem? hx)).2;subst hxz;rw[hz]at hj
 have hi:=lt_of_getl hx
 simp only[List.length_replicate]at hi
 have hq:i*sz+j<n*sz:=by have:=Nat.mul_le_mul_right sz (show i+1≤n from hi);rw[Nat.add_mul]at this;omega
 rw[Array.getElem?_toList,Array.getElem?_map,Array.getElem?_range,if_pos hq]at hv;simp only[Option.map_some,Option.some.injEq]at hv
 have hm:(i*sz+j)%zc.size=j:=by rw[hzs,Nat.mul_comm,Nat.mul_add_mod,Nat.mod_eq_of_lt hj]
 rw[hm]at hv;obtain⟨u,hu,hc⟩:=h.get hxy;rw[Array.getElem?_toList]at hu
 have:zc[j]! =u:=by
  have:=lt_of_get hu;rw[getElem!_pos zc j this];rw[Array.getElem?_eq_getElem this]at hu;exact Option.some.inj hu
 rw[←hv,this];exact hc
variable {G:Nat→Option (List AV)} {A:Area} {g:View} {w':World}
theorem newSl_ok(E:Env)(f:FuncId)(dst:Option Nat){id:Nat}(hr:HR G A ρ w g)(hid:ρ id=none){cs:Array Value}{e:TypeId}{fz:Nat×Nat}(hw:w'.heap=w.heap.push (.cells cs e fz))(hst:SameS w w')(hfz:Thawed fz 0 cs.size){sz:Nat}{l:List AV}
  (hel:Elems (Forb A ρ g) ρ w cs 0 sz l) {c:Nat} (hl:l.length≤c) (hc:c*sz≤cs.size): ∃k,
  Ext (Own ρ g) ρ w (Own (setR ρ id (w.heap.size,k)) (setG g id (newSl E f dst id sz l).2)) (setR ρ id (w.heap.size,k)) w'∧
  HR G A (setR ρ id (w.heap.size,k)) w' (setG g id (newSl E f dst id sz l).2)∧
  CR (Forb A (setR ρ id (w.heap.size,k)) (setG g id (newSl E f dst id sz l).2)) (setR ρ id (w.heap.size,k)) w' (.slice (some ⟨w.heap.size,0,none⟩) l.length c) (newSl E f dst id sz l).1:=by
 have hb:w'.heap[w.heap.size]?=some (.cells cs e fz):=by rw[hw];simp
 have hlc:=Nat.mul_le_mul_right sz hl
 cases hlb:locB E f dst
 case true=>
  rw[show newSl E f dst id sz l=(.sl id 0 l.length sz false, .arr sz l) by simp[newSl,hlb]];obtain⟨h1,h2⟩:=hr.alloc (w':=w') hid hw hst 0 (.arr sz l);refine⟨0,h1,h2 ⟨rfl,cs,e,fz,hb,hfz,by omega,hel.mono h1.sub h1.keeps⟩,?_⟩;exact .sl (by simp[setR]) hb (by rw[Nat.zero_add];exact hc) hl (fun h=>by cases h) (.inr (by simp))
 case false=>
  rw[show newSl E f dst id sz l=(.lst sz l (.own id), .tail) by simp[newSl,hlb]];obtain⟨h1,h2⟩:=hr.alloc (w':=w') hid hw hst (l.length*sz) .tail;refine⟨l.length*sz,h1,h2 ⟨cs,e,fz,hb,fun off h1 h2=>hfz off (Nat.zero_le _) h2⟩,?_⟩;refine .lst_of hb (fun j hj=>?_) (hel.mono h1.sub h1.keeps) hl (by omega) (fun h=>by cases h) (fun t ht _=>by cases ht;simp[setR]);rintro(⟨b,k,y,hb',hy,hal,hk⟩|ha)
  ·simp only[setR,setG]at hb' hy
   split at hb'
   ·cases hb';omega
   ·have:=hr.lt hb';omega
  ·have:=(hr.avo _ _ ha).1;omega
theorem thawed0(n:Nat):Thawed (0,0) 0 n:=fun off _ _ h=>by omega
variable {E:Env} {a:Act} {τ:Fr}
theorem elems_of_crs{cs:Array Value}{sz:Nat}{l:List AV}(hs: ∀x,x∈l→x.cells.length=sz)(h:CRs F ρ w cs.toList (flat l)):Elems F ρ w cs 0 sz l:=by
 refine⟨hs,?_⟩
 have:cs.toList.length=l.length*sz:=by rw[h.1,flat_length hs]
 rw[List.drop_zero,List.take_of_length_le (by omega)];exact h
theorem push_modify(h:Array Obj)(o:Obj)(f:Obj→Obj):(h.push o).modify h.size f=h.push (f o):=by
 apply Array.ext_getElem?;intro i;rw[Array.getElem?_modify,Array.getElem?_push,Array.getElem?_push]
 by_cases hi:h.size=i
 ·subst hi;simp
 ·rw[if_neg hi,if_neg (fun e=>hi e.symm),if_neg (fun e=>hi e.symm)]
def byteRow(s:ByteArray)(n:Nat):Array Value:=(s.data.map fun(b:UInt8)=>Value.int .u8 b.toNat)++Array.replicate n (Value.int .u8 0)
theorem range0{β:Type}(f:Nat→β):Array.map f (Array.range 0)= #[]:=by apply Array.ext';simp
theorem run_size_of{P:Program}{t:TypeId}{i:TypeInfo}(h:info P t= .ok i)(w:World):(sizeOf t).run P w= .ok i.size w:=by simp[sizeOf,typeInfo,info_ok h]
theorem allocA_run(hr:HR E.G A ρ w g)(hf:FRel (Forb A ρ g) ρ w a.tmps τ){f:FuncId}{id:Nat}(hid:ρ id=none){o:Oper}{y:AV}{x:Blk}(h:allocA E f τ id o= .ok (y,x)):
  ∃v w' k,(execOp a.eval o).run E.P w= .ok (.value v) w'∧
   Ext (Own ρ g) ρ w (Own (setR ρ id (w.heap.size,k)) (setG g id x)) (setR ρ id (w.heap.size,k)) w'∧HR E.G A (setR ρ id (w.heap.size,k)) w' (setG g id x)∧
   CR (Forb A (setR ρ id (w.heap.size,k)) (setG g id x)) (setR ρ id (w.heap.size,k)) w' v y:=by
 have hg:=hr.glob'
 unfold execOp
 cases ho:o.op with
 |alloc t=>
  simp only[allocA,ho]at h;obtain⟨z,hz,h⟩:=R.bind_ok h;cases h;obtain⟨zv,hzr,hzo⟩:=run_zero hz w;have hzc:=(ofV_cr (F:=Forb A ρ g) (ρ:=ρ) (w:=w) hzo).cells;obtain⟨h1,h2⟩:=hr.alloc (w':={w with heap:=w.heap.push (.cells zv.cells t)}) hid rfl ⟨rfl,rfl,rfl⟩ 0 (.var z.cells);refine⟨.pointer (some ⟨w.heap.size,0,none⟩),_,0,?_,h1,h2 ⟨rfl,zv.cells,t,(0,0),by simp,thawed0 _,hzc.mono h1.sub h1.keeps⟩, .ptr (by simp[setR])⟩;simp[Instr.alloc,hzr,newVar,newRow]
 |box t b=>
  simp only[allocA,ho]at h;obtain⟨v,hv,h⟩:=R.bind_ok h
  split at h<;>cases h
  have hzc:=(ev_cr hf hg hv).cells
  obtain⟨h1,h2⟩:=hr.alloc (w':={w with heap:=w.heap.push (.cells (a.eval b).cells t)}) hid rfl ⟨rfl,rfl,rfl⟩ 0 (.var v.cells);refine⟨.pointer (some ⟨w.heap.size,0,none⟩),_,0,?_,h1,h2 ⟨rfl,_,t,(0,0),by simp,thawed0 _,hzc.mono h1.sub h1.keeps⟩, .ptr (by simp[setR])⟩;simp[Instr.box,newVar,newRow]
 |makeMap t r=>
  cases r with
  |some r=>simp only[allocA,ho]at h;cases h
  |none=>
   simp only[allocA,ho]at h;cases h;obtain⟨h1,h2⟩:=hr.alloc (w':={w with heap:=w.heap.push (.map #[] 0)}) hid rfl ⟨rfl,rfl,rfl⟩ 0 (.map []);refine⟨.map (some w.heap.size),_,0,?_,h1,h2 ⟨rfl, #[],0,by simp,rfl,fun i e x h=>by simp at h⟩, .map (by simp[setR])⟩;simp[Instr.makeMap]
 |buildSlice t n parts=>
  simp only[allocA,ho]at h;obtain⟨vs,hvs,h⟩:=R.bind_ok h;obtain⟨d,hd,h⟩:=R.bind_ok h;split at h
  ·rename_i e
   obtain⟨sz,hsz,h⟩:=R.bind_ok h;obtain⟨z,hz,h⟩:=R.bind_ok h;split at h
   ·rename_i hc
    obtain⟨l,hl,h⟩:=R.bind_ok h
    have h:=R.ok.inj h
    obtain⟨h1,h2⟩:=parts_cr hf hg hvs;obtain⟨g1,g2,g3⟩:=fillE_fillA hl (replicate_sz hc.1);obtain⟨i,zv,hi,hzv,hzo⟩:=zero_info hz;obtain⟨i',hi',hsz'⟩:=size_info hsz;rw[hi]at hi';cases hi';have hzc:=(ofV_cr (F:=Forb A ρ g) (ρ:=ρ) (w:=w) hzo).cells;have hzz:=zeros_cr (n:=n) hzc hc.1;obtain⟨cs',hfill,hcr⟩:=fillA_run g1 h1 h2 hzz
    have hsize:cs'.size=n*sz:=by
     have:=hcr.1;rw[flat_length g2,g3]at this
     simpa using this
    have hrun:(Instr.buildSlice t n (parts.map fun(i,x)=>(i,a.eval x))).run E.P w= .ok (.slice (some ⟨w.heap.size,0,none⟩) n n) {w with heap:=w.heap.push (.cells cs' e)}:=by
     have hzr:(zeroValue e).run E.P w= .ok zv w:=by simp[zeroValue,typeInfo,hi,hzv]
     have e24: ¬(n*sz>2 ^ 24):=by have:=hc.2;omega
     simp only[Instr.buildSlice,Sem.run_bind,run_under hd,Result.andThen_ok,run_size hsz,Sem.run_ite,if_neg e24,Sem.run_pure]
     by_cases h0:n*sz=0
     ·simp only[h0,if_true]
      have hz0:(Array.map (fun x=>(#[]:Array Value)[x%(#[]:Array Value).size]!) (Array.range 0))=((Array.range (n*sz)).map (fun i=>zv.cells[i%zv.cells.size]!)):=by rw[h0,range0,range0]
      have hfill':Instr.fill (fun i=>some (i*sz,sz)) ((Array.range (n*sz)).map (fun i=>zv.cells[i%zv.cells.size]!)) (Array.map (fun x=>(x.fst,a.eval x.snd)) parts).toList=some cs':=hfill;rw[hz0,hfill'];simp[newRow]
     ·simp only[if_neg h0,Sem.run_bind,hzr,Result.andThen_ok,Sem.run_pure]
      have hfill':Instr.fill (fun i=>some (i*sz,sz)) (Array.map (fun x=>zv.cells[x%zv.cells.size]!) (Array.range (n*sz))) (Array.map (fun x=>(x.fst,a.eval x.snd)) parts).toList=some cs':=hfill;rw[hfill'];simp[newRow]
    obtain⟨k,k1,k2,k3⟩:=newSl_ok E f o.dst (w':={w with heap:=w.heap.push (.cells cs' e)}) hr hid rfl ⟨rfl,rfl,rfl⟩ (thawed0 _) (elems_of_crs g2 hcr) (c:=n) (by rw[g3];simp) (by rw[hsize];exact Nat.le_refl _);rw[g3,List.length_replicate,h]at k3;rw[h]at k1 k2;exact⟨_,_,k,by simp only[Sem.run_bind,hrun,Result.andThen_ok];rfl,k1,k2,k3⟩
   ·cases h
  ·cases h
 |makeSlice t ol oc=>
  simp only[allocA,ho]at h;obtain⟨d,hd,h⟩:=R.bind_ok h;split at h
  ·rename_i e
   obtain⟨i,hi,h⟩:=R.bind_ok h;obtain⟨z,hz,h⟩:=R.bind_ok h;obtain⟨l,hl,h⟩:=R.bind_ok h;obtain⟨c,hc,h⟩:=R.bind_ok h;obtain⟨n,hn,h⟩:=R.bind_ok h;obtain⟨m,hm,h⟩:=R.bind_ok h;split at h
   ·rename_i hcond
    have h:=R.ok.inj h
    obtain⟨k1,e1⟩:=intA_eq hn (ev_cr hf hg hl);obtain⟨k2,e2⟩:=intA_eq hm (ev_cr hf hg hc);obtain⟨i',zv,hi',hzv,hzo⟩:=zero_info hz;rw[info_ok hi]at hi';cases hi';have hzc:=(ofV_cr (F:=Forb A ρ g) (ρ:=ρ) (w:=w) hzo).cells;have hzz:=zeros_cr (n:=m.toNat) hzc hcond.2.2.2.2
    have hnm:n.toNat≤m.toNat:=by omega
    have hn0:(n.toNat:Int)=n:=by omega
    have hrun:(Instr.makeSlice t (a.eval ol) (a.eval oc)).run E.P w= .ok (.slice (some ⟨w.heap.size,0,none⟩) n.toNat m.toNat) {w with heap:=w.heap.push (.cells ((Array.range (m.toNat*i.size)).map (fun q=>zv.cells[q%zv.cells.size]!)) e)}:=by
     have hzr:(zeroValue e).run E.P w= .ok zv w:=by simp[zeroValue,typeInfo,info_ok hi,hzv]
     have w1:IntKind.i64.wrap n=n:=IntWalk.i64_in _ (by omega);have w2:IntKind.i64.wrap m=m:=IntWalk.i64_in _ (by omega)
     have hb1: ¬((i.bytes:Int)*m>2 ^ 48):=by
      have h1:=hcond.2.2.1
      rw[Int.mul_comm];have:(m*(i.bytes:Int))≤140737488355328:=h1;omega
     have hbad:((decide (m<0)||decide ((i.bytes:Int)*m>2 ^ 48))||decide (n<0)||decide (n>m))=false:=by
      simp only[Bool.or_eq_false_iff,decide_eq_false_iff_not];exact⟨⟨⟨by omega,hb1⟩,by omega⟩,by omega⟩
     simp only[Instr.makeSlice,Sem.run_bind,run_under hd,run_info hi,e1,e2,asInt,asIntOf,Sem.run_pure,Result.andThen_ok,w1,w2,hbad,Sem.run_ite,Bool.false_eq_true,if_false,run_askRoom,run_size_of hi]
     by_cases h0:m.toNat*i.size=0
     ·simp only[h0,if_true,Result.andThen_ok,Sem.run_pure,range0]
      simp[newRow]
     ·simp only[if_neg h0,Sem.run_bind,hzr,Result.andThen_ok,Sem.run_pure]
      simp[newRow]
    have hel:Elems (Forb A ρ g) ρ w ((Array.range (m.toNat*i.size)).map (fun q=>zv.cells[q%zv.cells.size]!)) 0 i.size (List.replicate n.toNat z):=by
     have h1:=(elems_of_crs (replicate_sz hcond.2.2.2.2) hzz).cut 0 n.toNat
     rw[List.drop_zero,List.take_replicate,Nat.min_eq_left hnm]at h1
     simpa using h1
    obtain⟨k,q1,q2,q3⟩:=newSl_ok E f o.dst (w':={w with heap:=w.heap.push (.cells ((Array.range (m.toNat*i.size)).map (fun q=>zv.cells[q%zv.cells.size]!)) e)}) hr hid rfl ⟨rfl,rfl,rfl⟩ (thawed0 _) hel (c:=m.toNat) (by simpa using hnm) (by simp);rw[List.length_replicate,h]at q3;rw[h]at q1 q2;exact⟨_,_,k,by simp only[Sem.run_bind,hrun,Result.andThen_ok];rfl,q1,q2,q3⟩
   ·cases h
  ·cases h
 |convert src dst b=>
  simp only[allocA,ho]at h;obtain⟨u,hu,h1⟩:=R.bind_ok h;clear h;obtain⟨us,hus,h2⟩:=R.bind_ok h1;clear h1;obtain⟨ud,hud,h⟩:=R.bind_ok h2;clear h2
  have e1:=run_under hus w
  have e2:=run_under hud w
  have hcu:=ev_cr hf hg hu
  obtain⟨v,hv⟩: ∃v,a.eval b=v:=⟨_,rfl⟩;rw[hv]at hcu;clear hus hud hu;split at h
  ·rename_i e s
   obtain⟨ue,hue,h⟩:=R.bind_ok h
   have e3:=run_under hue w
   split at h
   ·obtain⟨sz,hsz,h⟩:=R.bind_ok h
    by_cases hsz1:sz=1
    ·rw[if_pos hsz1]at h
     have h:=R.ok.inj h
     cases hcu
     have hlen:(ofBytes s).length=s.size:=by simp[ofBytes]
     have hcs: ∀(n:Nat),CRs (Forb A ρ g) ρ w (byteRow s n).toList (ofBytes s++List.replicate n (AV.int .u8 0)):=by
      intro n;rw[byteRow,Array.toList_append];refine CRs.append ⟨by simp[ofBytes],fun j v y hv hy=>?_⟩ ⟨by simp,fun j v y hv hy=>?_⟩
      ·simp only[ofBytes,Array.toList_map,List.getElem?_map]at hv hy
       cases hq:s.data.toList[j]? with
       |none=>simp [hq]at hv
       |some b=>simp [hq]at hv hy;subst hv;subst hy;exact .int _ _
      ·rw[Array.getElem?_toList]at hv
       have h1:=List.mem_of_getElem? hy
       rw[(List.mem_replicate.1 h1).2]
       have h2:=Array.mem_of_getElem? hv
       rw[(Array.mem_replicate.1 h2).2];exact .int _ _
     generalize hcap:(Question.appendCap s.size 0 e).cut (w.tape w.drawn (.appendCap s.size 0 e))=cap
     have hcle:s.size≤cap:=by rw[←hcap];simp only[Question.cut];omega
     have hlf: ∀y,y∈ofBytes s→y.cells.length=1:=fun y hy=>by
      obtain⟨b,_,rfl⟩:=List.mem_map.1 hy;rfl
     have hlf2: ∀y,y∈ofBytes s++List.replicate (cap-s.size) (AV.int .u8 0)→y.leaf=true:=fun y hy=>by
      rcases List.mem_append.1 hy with hy|hy
      ·obtain⟨b,_,rfl⟩:=List.mem_map.1 hy;rfl
      ·rw[(List.mem_replicate.1 hy).2];rfl
     have hszc:(byteRow s (cap-s.size)).size=cap:=by
      have:s.data.size=s.size:=rfl;simp[byteRow];omega
     have hel:Elems (Forb A ρ g) ρ w (byteRow s (cap-s.size)) 0 1 (ofBytes s):=by
      have h1:=(elems_of_crs (sz:=1) (fun y hy=>by rw[leaf_cells (hlf2 y hy)];rfl) (by rw[flat_leaf hlf2];exact hcs (cap-s.size))).cut 0 s.size;rw[List.drop_zero,List.take_append,List.take_of_length_le (by omega)]at h1
      have:s.size-(ofBytes s).length=0:=by omega
      rw[this,List.take_zero,List.append_nil]at h1
      simpa using h1
     obtain⟨k,q1,q2,q3⟩:=newSl_ok E f o.dst (w':={w with heap:=w.heap.push (.cells (byteRow s (cap-s.size)) e (cap,cap+1)),drawn:=w.drawn+1}) hr hid rfl ⟨rfl,rfl,rfl⟩ (fun off _ h2 h3=>by rw[hszc]at h2;omega) hel (c:=cap) (by omega) (by rw[hszc];omega);rw[hlen,h]at q3;rw[h]at q1 q2;refine⟨_,_,k,?_,q1,q2,q3⟩;simp only[Sem.run_bind,hv,convert,e1,e2,e3,Result.andThen_ok];have hfc:(Question.appendCap s.size 0 e).forced=false:=rfl;simp only[Conv.stringToBytes,Sem.run_bind,run_choose,hfc,Bool.false_eq_true,if_false,Result.andThen_ok,hcap,newRow,run_newObj,Sem.run_pure,markStringish,run_shape]
     have hrow:((s.data.map fun(b:UInt8)=>Value.int .u8 b.toNat)++Array.replicate (cap-s.size) (Value.int .u8 0))=byteRow s (cap-s.size):=rfl
     have hshape:(World.shape? {w with heap:=w.heap.push (.cells (byteRow s (cap-s.size)) e),drawn:=w.drawn+1} w.heap.size)=some (e,cap):=by simp[World.shape?,hszc]
     rw[hrow];simp only[hshape,run_freeze,Result.andThen_ok]
     have hfr:World.freeze {w with heap:=w.heap.push (.cells (byteRow s (cap-s.size)) e),drawn:=w.drawn+1} {block:=w.heap.size,off:=cap} 1={w with heap:=w.heap.push (.cells (byteRow s (cap-s.size)) e (cap,cap+1)),drawn:=w.drawn+1}:=by
      simp[World.freeze,push_modify]
     rw[hfr]
    ·rw[if_neg hsz1]at h;cases h
   ·cases h
  ·cases h
 |_=>simp only[allocA,ho]at h;cases h
end
end Go.Proofs.YtcocmlmligjjcaaGreatDoor.AM
namespace Go.Proofs.YtcocmlmligjjcaaGreatDoor.AM
set_option linter.unusedSectionVars false
set_option linter.unusedVariables false
set_option linter.unusedSimpArgs false
section
variable {F:Area} {ρ:Rho} {w:World}
def putL(cs:Array Value)(k:Nat):List Value→Array Value
 | []=>cs
 |v::vs=>putL (cs.setIfInBounds k v) (k+1) vs
theorem putL_size: ∀(vs:List Value) (cs:Array Value) (k:Nat),(putL cs k vs).size=cs.size
 | [],cs,k=>rfl
 |v::vs,cs,k=>by simp[putL,putL_size vs]
theorem putL_get: ∀(vs:List Value) (cs:Array Value) (k j:Nat),k+vs.length≤cs.size→(putL cs k vs)[j]?=if k≤j∧j<k+vs.length then vs[j-k]? else cs[j]?
 | [],cs,k,j,h=>by simp only[putL,List.length_nil];rw[if_neg (by omega)]
 |v::vs,cs,k,j,h=>by
  simp only[List.length_cons]at h;simp only[putL,List.length_cons];rw[putL_get vs _ (k+1) j (by simp;omega)]
  by_cases h1:k+1≤j∧j<k+1+vs.length
  ·rw[if_pos h1,if_pos (by omega),show j-k=(j-(k+1))+1 by omega,List.getElem?_cons_succ]
  ·rw[if_neg h1]
   by_cases h2:j=k
   ·subst h2
    rw[if_pos (by omega),Nat.sub_self,Array.getElem?_setIfInBounds_self_of_lt (by omega)];rfl
   ·rw[if_neg (by omega),Array.getElem?_setIfInBounds_ne (by omega)]
theorem putL_cr: ∀{vs:List Value} {cs:Array Value} {k:Nat} {acs l:List AV},CRs F ρ w cs.toList acs→CRs F ρ w vs l→CRs F ρ w (putL cs k vs).toList (setCells acs k l)
 | [],cs,k,acs,l,h,h'=>by
   obtain rfl:l= []:=by have:=h'.1;cases l<;>simp_all
   exact h
 |v::vs,cs,k,acs,l,h,h'=>by
  cases l with
  |nil=>have:=h'.1;simp at this
  |cons y l=>
   simp only[putL,setCells]
   refine putL_cr ?_ h'.tail
   rw[Array.toList_setIfInBounds];exact h.set h'.head _
theorem set_same{h:Array Obj}{B:Nat}{o:Obj}(hb:h[B]?=some o):h.setIfInBounds B o=h:=by
 apply Array.ext_getElem?;intro i
 by_cases hi:B=i
 ·subst hi;rw[Array.getElem?_setIfInBounds_self_of_lt (lt_of_get hb),hb]
 ·rw[Array.getElem?_setIfInBounds_ne hi]
theorem set_twice(h:Array Obj)(B:Nat)(o o':Obj):(h.setIfInBounds B o).setIfInBounds B o'=h.setIfInBounds B o':=by
 apply Array.ext_getElem?;intro i
 by_cases hi:B=i
 ·subst hi
  by_cases hlt:B<h.size
  ·rw[Array.getElem?_setIfInBounds_self_of_lt (by simpa using hlt),Array.getElem?_setIfInBounds_self_of_lt hlt]
  ·rw[Array.getElem?_eq_none (by simp;omega),Array.getElem?_eq_none (by simp;omega)]
 ·rw[Array.getElem?_setIfInBounds_ne hi,Array.getElem?_setIfInBounds_ne hi,Array.getElem?_setIfInBounds_ne hi]
theorem setCell_eq{B off:Nat}{cs:Array Value}{e:TypeId}{fz:Nat×Nat}(hb:w.heap[B]?=some (.cells cs e fz))(v:Value):w.setCell ⟨B,off,none⟩ v={w with heap:=w.heap.setIfInBounds B (.cells (cs.setIfInBounds off v) e fz)}:=by
 unfold World.setCell
 congr 1
 apply Array.ext_getElem?;intro i;rw[Array.getElem?_modify]
 by_cases hi:B=i
 ·subst hi;rw[if_pos rfl,hb,Array.getElem?_setIfInBounds_self_of_lt (lt_of_get hb)];simp
 ·rw[if_neg hi,Array.getElem?_setIfInBounds_ne hi]
theorem storeCells_run{P:Program}{B o:Nat}{e:TypeId}{fz:Nat×Nat}: ∀(vs:List Value) (i:Nat) (cs:Array Value) (w:World),w.heap[B]?=some (.cells cs e fz)→o+i+vs.length≤cs.size→Thawed fz (o+i) cs.size→(∀v∈vs,v.oneCell'=true)→
  (storeCells ⟨B,o,none⟩ vs i).run P w= .ok () {w with heap:=w.heap.setIfInBounds B (.cells (putL cs (o+i) vs) e fz)}
 | [],i,cs,w,hb,hl,hf,h1=>by simp[storeCells,putL,set_same hb]
 |v::vs,i,cs,w,hb,hl,hf,h1=>by
  simp only[List.length_cons]at hl
  have hc:w.cell? ⟨B,o+i,none⟩=some cs[o+i]:=by simp[World.cell?,hb]
  have hfr:w.frozen? ⟨B,o+i,none⟩=false:=by
   have:=hf (o+i) (Nat.le_refl _) (by omega);simp only[World.frozen?,hb]
   simpa using fun h=>by omega
  simp only[storeCells,Sem.run_bind,add0];rw[run_store P w _ v _ (h1 v (List.mem_cons_self ..))];simp only[hc,hfr,Bool.false_eq_true,if_false,Result.andThen_ok];rw[setCell_eq hb]
  have ih:=storeCells_run (P:=P) (B:=B) (o:=o) (e:=e) (fz:=fz) vs (i+1) (cs.setIfInBounds (o+i) v) {w with heap:=w.heap.setIfInBounds B (.cells (cs.setIfInBounds (o+i) v) e fz)}
   (by rw[Array.getElem?_setIfInBounds_self_of_lt (lt_of_get hb)]) (by simp;omega) (fun off h1 h2=>hf off (by omega) (by simpa using h2)) (fun u hu=>h1 u (List.mem_cons_of_mem _ hu))
  rw[ih];simp only[set_twice,putL,Nat.add_assoc]
theorem leaf_one{v:Value}{y:AV}(h:CR F ρ w v y)(hl:y.leaf=true):v.oneCell'=true:=by
 cases h<;>first|rfl|(simp[AV.leaf]at hl)
theorem leaves_one: ∀{vs:List Value} {l:List AV},CRs F ρ w vs l→l.all AV.leaf=true→ ∀v∈vs,v.oneCell'=true
 | [],l,h,hl,v,hv=>by simp at hv
 |u::vs,l,h,hl,v,hv=>by
  cases l with
  |nil=>have:=h.1;simp at this
  |cons y l=>
   simp only[List.all_cons,Bool.and_eq_true]at hl
   rcases List.mem_cons.1 hv with rfl|hv
   ·exact leaf_one h.head hl.1
   ·exact leaves_one h.tail hl.2 v hv
theorem setCells_get(xs cs:List AV)(k j:Nat)(h:k+xs.length≤cs.length):(setCells cs k xs)[j]?=if k≤j∧j<k+xs.length then xs[j-k]? else cs[j]?:=by
 rw[setCells_eq xs cs k h,List.append_assoc]
 by_cases h1:j<k
 ·rw[List.getElem?_append_left (by simp;omega),if_neg (by omega),List.getElem?_take,if_pos h1]
 ·rw[List.getElem?_append_right (by simp;omega)]
  have e1:(cs.take k).length=k:=by simp;omega
  rw[e1]
  by_cases h2:j<k+xs.length
  ·rw[List.getElem?_append_left (by omega),if_pos (by omega)]
  ·rw[List.getElem?_append_right (by omega),if_neg (by omega),List.getElem?_drop]
   congr 1;omega
theorem mk_cells{x:AV}{off:Nat}{vc:List AV}(hl:vc.all AV.leaf=true)(h:off+vc.length≤x.cells.length):(mk (setCells x.cells off vc) x).cells=setCells x.cells off vc:=by
 cases x
 case agg cs=>rfl
 all_goals
  simp only[AV.cells,List.length_cons,List.length_nil]at h
  cases vc with
  |nil=>rfl
  |cons u us=>
   simp only[List.length_cons]at h
   obtain rfl:off=0:=by omega
   obtain rfl:us= []:=List.eq_nil_of_length_eq_zero (by omega);simp only[List.all_cons,Bool.and_eq_true]at hl;simp only[mk,setCells,AV.cells,List.set_cons_zero,List.headD_cons];exact leaf_cells hl.1
theorem setCells_in{l:List AV}{sz i off:Nat}{x:AV}{vc:List AV}(h: ∀x,x∈l→x.cells.length=sz)(hx:l[i]?=some x)(hl:vc.all AV.leaf=true)(ho:off+vc.length≤x.cells.length):
  setCells (flat l) (i*sz+off) vc=flat (l.set i (mk (setCells x.cells off vc) x)):=by
 have hm:=mk_cells hl ho
 have hi:=lt_of_getl hx
 have hxs:=h x (List.mem_of_getElem? hx)
 have hle:i*sz+sz≤l.length*sz:=by have:=Nat.mul_le_mul_right sz (show i+1≤l.length from hi);rw[Nat.add_mul]at this;omega
 rw[←setCells_flat h (by rw[hm,setCells_length,hxs]) hi,hm];apply List.ext_getElem?;intro j;rw[setCells_get _ _ _ _ (by rw[flat_length h];omega),setCells_get _ _ _ _ (by rw[flat_length h,setCells_length,hxs];omega),setCells_length,hxs]
 by_cases h1:i*sz≤j∧j<i*sz+sz
 ·rw[if_pos h1,setCells_get _ _ _ _ ho]
  by_cases h2:i*sz+off≤j∧j<i*sz+off+vc.length
  ·rw[if_pos h2,if_pos (by omega)];congr 1;omega
  ·rw[if_neg h2,if_neg (by omega),←flat_get h hx (show j-i*sz<sz by omega)];congr 1;omega
 ·rw[if_neg h1,if_neg (by omega)]
variable {G:Nat→Option (List AV)} {A:Area} {g:View} {w':World}
theorem storeVar_run{P:Program}{t:TypeId}{v:Value}{s:Nat}(hs:size P t= .ok s)(hv:v.cells.size=s){B o:Nat}{e:TypeId}{fz:Nat×Nat}{cs:Array Value}(hb:w.heap[B]?=some (.cells cs e fz))(hl:o+s≤cs.size)(hf:Thawed fz o cs.size)(h1: ∀u∈v.cells.toList,u.oneCell'=true):
  (storeVar t ⟨B,o,none⟩ v).run P w= .ok () {w with heap:=w.heap.setIfInBounds B (.cells (putL cs o v.cells.toList) e fz)}:=by
 have:=storeCells_run (P:=P) (o:=o) v.cells.toList 0 cs w hb (by simp;omega) hf h1;simp only[Nat.add_zero]at this;simp[storeVar,run_size hs,hv,this]
theorem storeA_run{P:Program}{h h':H}{t:TypeId}{p y:AV}(hy:storeA P h t y p= .ok h')(hr:HR G A ρ w (view h)){u v:Value}(hu:CR (Forb A ρ (view h)) ρ w u p)(hv:CR (Forb A ρ (view h)) ρ w v y):
  ∃w',(Instr.storeAt t u v).run P w= .ok () w'∧Ext (Own ρ (view h)) ρ w (Own ρ (view h')) ρ w'∧HR G A ρ w' (view h'):=by
 cases hu with
 | @ptr b B off hb0=>
   simp only[storeA]at hy
   cases hcs:h[b]? with
   |none=>simp [hcs]at hy
   |some blk=>
    cases blk with
    |var cs=>
     simp only[hcs]at hy;obtain⟨s,hs,hy⟩:=R.bind_ok hy;split at hy
     ·rename_i hc
      cases hy;obtain⟨B',k,h1,_,h2⟩:=hr.blk b _ hcs nofun;rw[hb0]at h1;cases h1;obtain⟨_,vs,e,fz,h3,h4,h5⟩:=h2
      have hvc:=hv.cells
      have hsz:v.cells.size=s:=by have:=hvc.1;simp at this;omega
      have hvs:vs.size=cs.length:=by have:=h5.1;simpa using this
      have hrun:=storeVar_run (P:=P) hs hsz h3 (by omega) (fun o h1 h2=>h4 o (Nat.zero_le _) h2) (leaves_one hvc hc.2.2) (o:=off)
      obtain⟨m1,m2⟩:=hr.modify (w':={w with heap:=w.heap.setIfInBounds B (.cells (putL vs off v.cells.toList) e fz)}) hb0 hcs rfl rfl ⟨rfl,rfl,rfl⟩
       (fun cs1 e1 fz1 hb1=>by rw[h3]at hb1;cases hb1;exact⟨_,_,rfl,putL_size ..⟩) (.var (setCells cs off y.cells))
      rw[view_set hcs];refine⟨_,by simp[Instr.storeAt,Instr.sureAddr,hrun],m1,m2 ⟨rfl,putL vs off v.cells.toList,e,fz,?_,by rw[putL_size];exact h4,?_⟩⟩
      ·rw[Array.getElem?_setIfInBounds_self_of_lt (lt_of_get h3)]
      ·exact putL_cr (h5.mono m1.sub m1.keeps) (hvc.mono m1.sub m1.keeps)
     ·cases hy
    |_=>simp [hcs]at hy
 | @eptr b B i sz off o hb0 ho=>
   simp only[storeA]at hy
   cases hcs:h[b]? with
   |none=>simp [hcs]at hy
   |some blk=>
    cases blk with
    |arr sz' l=>
     simp only[hcs]at hy
     cases hx:l[i]? with
     |none=>simp [hx]at hy
     |some x=>
      simp only[hx]at hy;obtain⟨s,hs,hy⟩:=R.bind_ok hy;split at hy
      ·rename_i hc
       cases hy;obtain⟨rfl⟩:=hc.2.2.2;obtain⟨B',k,h1,_,h2⟩:=hr.blk b _ hcs nofun;rw[hb0]at h1;cases h1;obtain⟨_,vs,e,fz,h3,h4,h5,h6⟩:=h2
       have hvc:=hv.cells
       have hsz:v.cells.size=s:=by have:=hvc.1;simp at this;omega
       have hi:=lt_of_getl hx
       have hxs:=h6.1 x (List.mem_of_getElem? hx)
       have hle:i*sz+sz≤l.length*sz:=by have:=Nat.mul_le_mul_right sz (show i+1≤l.length from hi);rw[Nat.add_mul]at this;omega
       have hrun:=storeVar_run (P:=P) hs hsz h3 (by omega) (fun o h1 h2=>h4 o (Nat.zero_le _) h2) (leaves_one hvc hc.2.2.1) (o:=o)
       have hin:=setCells_in h6.1 hx hc.2.2.1 (by omega:off+y.cells.length≤x.cells.length)
       obtain⟨m1,m2⟩:=hr.modify (w':={w with heap:=w.heap.setIfInBounds B (.cells (putL vs o v.cells.toList) e fz)}) hb0 hcs rfl rfl ⟨rfl,rfl,rfl⟩
        (fun cs1 e1 fz1 hb1=>by rw[h3]at hb1;cases hb1;exact⟨_,_,rfl,putL_size ..⟩) (.arr sz (l.set i (mk (setCells x.cells off y.cells) x)))
       rw[view_set hcs];refine⟨_,by simp[Instr.storeAt,Instr.sureAddr,hrun],m1,m2 ⟨rfl,putL vs o v.cells.toList,e,fz,?_,by rw[putL_size];exact h4,by rw[putL_size];simpa using h5,fun z hz=>?_,?_⟩⟩
       ·rw[Array.getElem?_setIfInBounds_self_of_lt (lt_of_get h3)]
       ·rcases mem_set hz with rfl|hz
        ·rw[mk_cells hc.2.2.1 (by omega),setCells_length,hxs]
        ·exact h6.1 z hz
       ·rw[←hin,ho.symm,List.length_set]
        -- the row's head
        have h7:=h6.2.mono m1.sub m1.keeps (ρ':=ρ);have hvc':=hvc.mono m1.sub m1.keeps (ρ':=ρ);refine⟨by rw[setCells_length,flat_length h6.1];simp[putL_size];omega,fun j u z hu hz=>?_⟩;rw[setCells_get _ _ _ _ (by rw[flat_length h6.1];omega)]at hz;rw[List.getElem?_take]at hu;split at hu
        ·rename_i hj
         rw[List.drop_zero,Array.getElem?_toList,putL_get _ _ _ _ (by simp;omega)]at hu;simp only[Array.length_toList,hsz]at hu;rw[hc.1]at hz;split at hz
         ·rename_i hjj
          rw[if_pos hjj]at hu;exact hvc'.2 _ u z hu hz
         ·rename_i hjj
          rw[if_neg hjj]at hu;exact h7.2 j u z (by rw[List.getElem?_take,if_pos hj,List.drop_zero,Array.getElem?_toList];exact hu) hz
        ·cases hu
      ·cases hy
    |_=>simp [hcs]at hy
 |_=>cases hy
end
end Go.Proofs.YtcocmlmligjjcaaGreatDoor.AM
namespace Go.Proofs.YtcocmlmligjjcaaGreatDoor.AM
set_option linter.unusedSectionVars false
set_option linter.unusedVariables false
set_option linter.unusedSimpArgs false
section
variable {F:Area} {ρ:Rho} {w:World} {G:Nat→Option (List AV)} {A:Area} {g:View} {w':World}
theorem row_at{cs:Array Value}{o m:Nat}{l:List AV}(h:CRs F ρ w ((cs.toList.drop o).take m) l){B:Nat}{e:TypeId}{fz:Nat×Nat}(hb:w.heap[B]?=some (.cells cs e fz))(hm:m=l.length){P:Program}:
  (loadCells ⟨B,o,none⟩ m).run P w= .ok ((cs.toList.drop o).take m).toArray w:=by subst hm;exact cells_at h hb
theorem firstCells_run{P:Program}{h:H}{x:AV}{l:List AV}(he:elemsA h x= .ok l)(hr:HR G A ρ w g)(hd: ∀b,depOf x=some b→g b=h[b]?){v:Value}(hc:CR (Forb A ρ g) ρ w v x){s:Nat}(hs:szA x s=true):
  (∀y,y∈l→y.cells.length=s)∧(∃b c,v= .slice b l.length c∧l.length≤c)∧ ∀n,n≤l.length→ ∃arr:Array Value,(Builtin.firstCells s n v).run P w= .ok arr w∧CRs (Forb A ρ g) ρ w arr.toList (flat (l.take n)):=by
 obtain⟨h1,h2⟩:=elemsA_run he hr hd hc hs;refine⟨h1,?_,fun n hn=>?_⟩
 ·rcases h2 with⟨rfl,b,rfl⟩|⟨B,o,c,cs,e,fz,rfl,hlc,_,_⟩
  ·exact⟨b,0,rfl,Nat.le_refl _⟩
  ·exact⟨_,_,rfl,hlc⟩
 ·rcases h2 with⟨rfl,b,rfl⟩|⟨B,o,c,cs,e,fz,rfl,hlc,hb,hel⟩
  ·obtain rfl:n=0:=by simpa using hn
   exact⟨#[],by cases b<;>simp [Builtin.firstCells,loadCells,loadCellsFrom],by simp[flat];exact .nil⟩
  ·rcases Nat.eq_zero_or_pos n with rfl|hn0
   ·refine⟨#[],?_,by simp[flat];exact .nil⟩
    simp[Builtin.firstCells,loadCells,loadCellsFrom]
   ·have hel:=(hel (by omega)).cut 0 n
    rw[List.drop_zero,Nat.zero_mul,Nat.add_zero]at hel
    have hln:(l.take n).length=n:=by simp;omega
    have h3:=hel.2
    rw[hln]at h3
    have hfl:n*s=(flat (l.take n)).length:=by rw[flat_length hel.1,hln]
    exact⟨_,by simp only[Builtin.firstCells];exact row_at h3 hb hfl,by simpa using h3⟩
theorem newsA_run{P:Program}{h:H}{sz:Nat}{xt:TypeId}{x:AV}{l:List AV}(hl:newsA P sz xt x h= .ok l)(hr:HR G A ρ w g)(hd: ∀b,depOf x=some b→g b=h[b]?){v:Value}(hc:CR (Forb A ρ g) ρ w v x):
  (∃d,P.underlying xt=some d∧ ∀k,d≠ .int k)∧(Builtin.lenOf v).run P w= .ok l.length w∧(∀y,y∈l→y.cells.length=sz)∧ ∀n,n≤l.length→ ∃arr:Array Value,(Builtin.firstCells sz n v).run P w= .ok arr w∧CRs (Forb A ρ g) ρ w arr.toList (flat (l.take n)):=by
 obtain⟨d,hdd,hl⟩:=R.bind_ok hl;split at hl
 ·split at hl
  ·rename_i hs
   obtain⟨h1,⟨b,c,rfl,_⟩,h3⟩:=firstCells_run (P:=P) hl hr hd hc hs;exact⟨⟨_,under_ok hdd,fun k h=>by cases h⟩,rfl,h1,h3⟩
  ·cases hl
 ·cases x with
  |str s=>
   obtain rfl:=toV_eq (x:= .string s) (by rfl) hc;simp only at hl
   by_cases hs:sz=1
   ·rw[if_pos hs]at hl
    cases hl;subst hs
    have hlen:(ofBytes s).length=s.size:=by simp[ofBytes]
    refine⟨⟨_,under_ok hdd,fun k h=>by cases h⟩,by rw[hlen];rfl,fun y hy=>?_,fun n hn=>?_⟩
    ·obtain⟨b,_,rfl⟩:=List.mem_map.1 hy;rfl
    ·refine⟨_,rfl,?_⟩
     have hlf: ∀y,y∈(ofBytes s).take n→y.leaf=true:=fun y hy=>by obtain⟨b,_,rfl⟩:=List.mem_map.1 (List.mem_of_mem_take hy);rfl
     rw[flat_leaf hlf]
     have hext:(s.extract 0 n).data.toList=s.data.toList.take n:=by simp[ByteArray.data_extract]
     refine⟨?_,fun j v y hv hy=>?_⟩
     ·rw[Array.toList_map,List.length_map,hext];simp[ofBytes]
     ·rw[Array.toList_map,hext,List.getElem?_map]at hv
      simp only[ofBytes,←List.map_take,List.getElem?_map]at hy
      cases hq:(s.data.toList.take n)[j]? with
      |none=>rw [hq]at hv;simp at hv
      |some b=>rw [hq]at hv hy;simp at hv hy;subst hv;subst hy;exact .int _ _
   ·rw[if_neg hs]at hl;cases hl
  |_=>cases hl
 ·cases hl
def News(P:Program)(w:World)(i:TypeInfo)(zv:Value)(xt:TypeId)(vx:Value)(m:Nat)(arr:Array Value):Prop:=
 ((∃d,P.underlying xt=some d∧ ∀k,d≠ .int k)∧(Builtin.lenOf vx).run P w= .ok m w∧(Builtin.firstCells i.size m vx).run P w= .ok arr w)∨
 ∃k kk l,P.underlying xt=some (.int k)∧vx= .int kk l∧IntKind.i64.wrap l=(m:Int)∧(m:Int)*i.bytes≤2 ^ 48∧arr=if m*i.size=0 then #[]else Builtin.zeroCells zv.cells m
theorem newsI_run{P:Program}{h:H}{i:TypeInfo}{z:AV}{xt:TypeId}{x:AV}{l:List AV}(hl:newsI P i z xt x h= .ok l)(hr:HR G A ρ w g)(hd: ∀b,depOf x=some b→g b=h[b]?){v:Value}(hc:CR (Forb A ρ g) ρ w v x)
  {zv:Value} (hzo:ofV zv=some z) (hzs:zv.cells.size=i.size) (hzl:z.cells.length=i.size):
  (∀y,y∈l→y.cells.length=i.size)∧ ∃arr,News P w i zv xt v l.length arr∧CRs (Forb A ρ g) ρ w arr.toList (flat l):=by
 unfold newsI at hl;split at hl
 ·rename_i k hk
  unfold zerosA at hl
  cases x with
  |int kk n=>
   simp only at hl;split at hl
   ·rename_i hn
    cases hl;obtain rfl:=toV_eq (x:= .int kk n) (by rfl) hc;have hzz:CRs (Forb A ρ g) ρ w zv.cells.toList z.cells:=(ofV_cr hzo).cells;refine⟨replicate_sz hzl,_, .inr ⟨k,kk,n,hk,rfl,?_,?_,rfl⟩,?_⟩
    ·rw[List.length_replicate]
     simp only[IntKind.wrap,IntKind.bits,IntKind.signed,Bool.true_and,decide_eq_true_eq,Nat.reduceSub,Int.reducePow,ge_iff_le]
     split<;>omega
    ·rw[List.length_replicate];have:=hn.2.2;have h0:=hn.1
     rw[Int.toNat_of_nonneg h0];omega
    ·rw[List.length_replicate]
     split
     ·rename_i h0
      have hfl:flat (List.replicate n.toNat z)= []:=List.eq_nil_of_length_eq_zero (by rw[flat_length (replicate_sz hzl),List.length_replicate];exact h0);rw[hfl];exact .nil
     ·exact zeros_cr (sz:=zv.cells.size) hzz (by rw[hzs];exact hzl)
   ·cases hl
  |_=>cases hl
 ·obtain⟨h1,h2,h3,h4⟩:=newsA_run (P:=P) hl hr hd hc
  obtain⟨arr,k1,k2⟩:=h4 l.length (Nat.le_refl _);rw[List.take_length]at k2;exact⟨h3,arr, .inl ⟨h1,h2,k1⟩,k2⟩
theorem nextcap_le{need c:Nat}(h:c<need):Builtin.nextslicecap need c≤2*need:=by
 have grow: ∀r q,q≤2*need→256≤q→Builtin.growBy need r q≤2*need:=by
  intro r
  induction r with
  |zero=>intro q h1 h2;exact h1
  |succ r ih=>
   intro q h1 h2;simp only[Builtin.growBy];split
   ·exact h1
   ·exact ih _ (by omega) (by omega)
 unfold Builtin.nextslicecap;split
 ·omega
 ·split
  ·omega
  ·exact grow 4 c (by omega) (by omega)
theorem not_int{d:TypeDesc}(hd: ∀k,d≠ .int k):(match d with| .int k=>true|_=>false)=false:=by cases d<;>first|rfl|exact absurd rfl (hd _)
section app
variable {P:Program} {st xt e:TypeId} {i:TypeInfo} {z:AV} {zv:Value} {d:TypeDesc} {base:Option Addr} {n c m:Nat} {vx:Value} {ty:TypeId}
theorem append_fits(hst:P.underlying st=some (.slice e))(hi:P.info? e=some i)(hz:i.zero=some zv){arr:Array Value}(hN:News P w i zv xt vx m arr)(hfit:n+m≤c):
  (Builtin.append_ #[st,xt] ty #[.slice base n c,vx]).run P w=((match base with|some a=>storeCells (a.add (n*i.size)) arr.toList|none=>pure ():Sem Unit).run P w).andThen fun _ w'=> .ok (.slice base (n+m) c) w':=by
 have e1:(underlying st).run P w= .ok (.slice e) w:=run_underlying hst w
 have e3:(sizeOf e).run P w= .ok i.size w:=by simp[sizeOf,typeInfo,hi]
 rcases hN with⟨⟨d,hxt,hd⟩,hlen,hnew⟩|⟨k,kk,l,hxt,rfl,hw,hb,rfl⟩
 ·have e2:(underlying xt).run P w= .ok d w:=run_underlying hxt w
  have hm:=not_int hd
  unfold Builtin.append_;simp only[List.getElem?_toArray,List.getElem?_cons_zero,List.getElem?_cons_succ];simp only[Sem.run_bind,e1,e3,Result.andThen_ok,e2,hm,hlen,Bool.false_eq_true,if_false,Bool.not_false,if_true,if_pos hfit,hnew,Sem.run_pure]
  cases base<;>simp
 ·have e2:(underlying xt).run P w= .ok (.int k) w:=run_underlying hxt w
  have e4: ∀w,(typeInfo e).run P w= .ok i w:=fun w=>by simp[typeInfo,hi]
  have e5: ∀w,(zeroValue e).run P w= .ok zv w:=fun w=>by simp[zeroValue,typeInfo,hi,hz]
  have e6:(asInt (.int kk l)).run P w= .ok l w:=rfl
  have h1: ¬((m:Int)<0):=by omega
  have h2: ¬((m:Int)*i.bytes>2 ^ 48):=by omega
  unfold Builtin.append_;simp only[List.getElem?_toArray,List.getElem?_cons_zero,List.getElem?_cons_succ];simp only[Sem.run_bind,e1,e3,Result.andThen_ok,e2,if_true,e6,hw,h1,if_false,e4,h2,Sem.run_pure,Int.toNat_natCast,if_pos hfit,Bool.not_true,Bool.false_eq_true]
  by_cases h0:m*i.size=0
  ·simp only[h0,if_true,Sem.run_pure,Result.andThen_ok]
   cases base<;>simp
  ·simp only[h0,if_false,Sem.run_bind,e5,Result.andThen_ok,Sem.run_pure]
   cases base<;>simp
theorem append_grows(hst:P.underlying st=some (.slice e))(hi:P.info? e=some i){arr old:Array Value}
  (hz:i.zero=some zv) (hzs:zv.cells.size=i.size) (hb:0<i.bytes) (hroom:(n+m)*i.bytes≤140000000000000) (hgrow:c<n+m) {w1:World} (hw1:w1={w with drawn:=w.drawn+1})
  {arr0:Array Value} (hN0:News P w i zv xt vx m arr0) (hold:(Builtin.firstCells i.size n (.slice base n c)).run P w1= .ok old w1) (hN:News P w1 i zv xt vx m arr):
  ∃cap,∃rest:Array Value,n+m≤cap∧rest.size=(cap-(n+m))*i.size∧
  (Builtin.append_ #[st,xt] ty #[.slice base n c,vx]).run P w= .ok (.slice (some ⟨w.heap.size,0,none⟩) (n+m) cap) {w1 with heap:=w1.heap.push (.cells (old++arr++rest) e)}:=by
 have e1:(underlying st).run P w= .ok (.slice e) w:=run_underlying hst w
 have e3:(sizeOf e).run P w= .ok i.size w:=by simp[sizeOf,typeInfo,hi]
 have e4: ∀w,(typeInfo e).run P w= .ok i w:=fun w=>by simp[typeInfo,hi]
 have e5: ∀w,(zeroValue e).run P w= .ok zv w:=fun w=>by simp[zeroValue,typeInfo,hi,hz]
 have hnc:=nextcap_le hgrow
 have hlim: ¬(Builtin.nextslicecap (n+m) c*i.bytes>2 ^ 48):=by
  have h1:=Nat.mul_le_mul_right i.bytes hnc
  rw[Nat.mul_assoc]at h1;omega
 have hmul:n+m≤(n+m)*i.bytes:=Nat.le_mul_of_pos_right _ hb
 have hmax: ¬(((n+m:Nat):Int)>IntKind.i64.max):=by
  simp only[IntKind.max,IntKind.signed,IntKind.bits,if_true,Nat.reduceSub,Int.reducePow];omega
 obtain⟨cap,hcap⟩: ∃cap,cap=(Question.appendCap (n+m) c e).cut (w.tape w.drawn (.appendCap (n+m) c e)):=⟨_,rfl⟩
 have hcle:n+m≤cap:=by rw[hcap];simp only[Question.cut];omega
 have hfc:(Question.appendCap (n+m) c e).forced=false:=rfl;refine⟨cap,Builtin.zeroCells zv.cells (cap-(n+m)),hcle,by simp[Builtin.zeroCells,hzs],?_⟩
 have hnf: ¬(n+m≤c):=by omega
 have hbz: ¬(i.bytes=0):=by omega
 rcases hN0 with⟨⟨d,hxt,hd⟩,hlen,_⟩|⟨k,kk,l,hxt,rfl,hw,hb8,rfl⟩
 ·rcases hN with⟨_,_,hnew⟩|⟨k,kk,l,hxt',_⟩
  ·have e2:(underlying xt).run P w= .ok d w:=run_underlying hxt w
   have hm:=not_int hd
   unfold Builtin.append_;simp only[List.getElem?_toArray,List.getElem?_cons_zero,List.getElem?_cons_succ];simp only[Sem.run_bind,e1,e2,e3,Result.andThen_ok,hm,hlen,Bool.false_eq_true,if_false,Bool.not_false,if_true,Sem.run_pure];simp only[hnf,if_false,Sem.run_bind,Sem.run_ite,e4,Result.andThen_ok];simp only[hbz,or_self,and_false,if_false,hlim,Sem.run_bind,run_choose,hfc,Bool.false_eq_true,←hcap,Result.andThen_ok,e4,run_askRoom];rw[←hw1];simp only[hold,hnew,e5,Result.andThen_ok,newRow,Sem.run_bind,run_newObj,Sem.run_pure];rw[hw1]
  ·rw[hxt]at hxt';cases hxt';exact absurd rfl (hd k)
 ·have harr:arr=if m*i.size=0 then #[]else Builtin.zeroCells zv.cells m:=by
   rcases hN with⟨⟨d,hxt',hd⟩,_⟩|⟨_,_,_,_,_,_,_,h⟩
   ·rw[hxt]at hxt';cases hxt';exact absurd rfl (hd k)
   ·exact h
  have e2:(underlying xt).run P w= .ok (.int k) w:=run_underlying hxt w;have e6:(asInt (.int kk l)).run P w= .ok l w:=rfl
  have h1: ¬((m:Int)<0):=by omega
  have h2: ¬((m:Int)*i.bytes>2 ^ 48):=by omega
  unfold Builtin.append_;simp only[List.getElem?_toArray,List.getElem?_cons_zero,List.getElem?_cons_succ];simp only[Sem.run_bind,e1,e3,Result.andThen_ok,e2,if_true,e6,hw,h1,if_false,e4,h2,Sem.run_pure,Int.toNat_natCast,Bool.not_true,Bool.false_eq_true];simp only[hnf,if_false,Sem.run_bind,Sem.run_ite,e4,Result.andThen_ok];simp only[hmax,true_or,false_and,if_false,hlim,Sem.run_bind,run_choose,hfc,Bool.false_eq_true,←hcap,Result.andThen_ok,e4,run_askRoom];rw[←hw1]
  by_cases h0:m*i.size=0
  ·rw[if_pos h0]at harr
   subst harr;simp only[hold,h0,if_true,e5,Result.andThen_ok,newRow,Sem.run_bind,run_newObj,Sem.run_pure];rw[hw1]
  ·rw[if_neg h0]at harr
   subst harr;simp only[hold,h0,if_false,e5,Result.andThen_ok,newRow,Sem.run_bind,run_newObj,Sem.run_pure];rw[hw1]
end app
end
end Go.Proofs.YtcocmlmligjjcaaGreatDoor.AM
namespace Go.Proofs.YtcocmlmligjjcaaGreatDoor.AM
set_option linter.unusedSectionVars false
set_option linter.unusedVariables false
set_option linter.unusedSimpArgs false
section
variable {F:Area} {ρ:Rho} {w:World} {G:Nat→Option (List AV)} {A:Area} {g:View} {w':World}
theorem HR.heap(hr:HR G A ρ w g)(hw:w'.heap=w.heap)(hst:SameS w w'):HR G A ρ w' g∧Ext (Own ρ g) ρ w (Own ρ g) ρ w':=by
 obtain⟨h1,h2⟩:=hr.upd (ρ':=ρ) (w':=w') (g':=g) w.heap.size hst (fun b p hb=>hb) (fun B hB hne=>by rw[hw]) (fun cs e fz hb=>by have:=lt_of_get hb;omega) (fun h=>by omega) (by rw[hw];exact Nat.le_refl _) (fun B off h=> .inl h) (fun b B k h=> .inl h);exact⟨h2 hr.dom (fun b blk hb=> .inl ⟨hb,fun hal B k hB=>Nat.ne_of_lt (hr.lt hB)⟩) hr.sep (fun b h=>⟨h,rfl⟩),h1⟩
theorem grows{P:Program}{st xt e:TypeId}{i:TypeInfo}{zv:Value}{base:Option Addr}{n c:Nat}{vx:Value}{ty:TypeId}{h:H}{x:AV}{new olds:List AV}
  (hr:HR G A ρ w (view h)) (hst:P.underlying st=some (.slice e)) (hi:P.info? e=some i) (hz:i.zero=some zv) (hzs:zv.cells.size=i.size) (hb:0<i.bytes)
  {z:AV} (hzo:ofV zv=some z) (hzl:z.cells.length=i.size) (hn:newsI P i z xt x h= .ok new) (hvx:CR (Forb A ρ (view h)) ρ w vx x) (hroom:(n+new.length)*i.bytes≤140000000000000) (hgrow:c<n+new.length)
  (hol:olds.length=n) (hos: ∀y,y∈olds→y.cells.length=i.size) (hold: ∀w1,w1.heap=w.heap→SameS w w1→ ∃arr:Array Value,(Builtin.firstCells i.size n (.slice base n c)).run P w1= .ok arr w1∧CRs (Forb A ρ (view h)) ρ w arr.toList (flat olds)):
  ∃row cap w2,(Builtin.append_ #[st,xt] ty #[.slice base n c,vx]).run P w= .ok (.slice (some ⟨w.heap.size,0,none⟩) (olds++new).length cap) w2∧w2.heap=w.heap.push (.cells row e)∧SameS w w2∧
   Elems (Forb A ρ (view h)) ρ w row 0 i.size (olds++new)∧(olds++new).length≤cap∧cap*i.size≤row.size:=by
 obtain⟨hns,arr0,hN0,_⟩:=newsI_run hn hr (fun _ _=>rfl) hvx hzo hzs hzl;have hw1:({w with drawn:=w.drawn+1}:World).heap=w.heap:=rfl;obtain⟨hr1,hx1⟩:=hr.heap hw1 ⟨rfl,rfl,rfl⟩;obtain⟨_,arr,ha1,ha2⟩:=newsI_run hn hr1 (fun _ _=>rfl) (hvx.ext hx1) hzo hzs hzl;obtain⟨old,ho1,ho2⟩:=hold _ hw1 ⟨rfl,rfl,rfl⟩;obtain⟨cap,rest,hc1,hc2,hrun⟩:=append_grows (ty:=ty) hst hi hz hzs hb hroom hgrow rfl hN0 ho1 ha1
 have ha2':CRs (Forb A ρ (view h)) ρ w arr.toList (flat new):=by
  have hx2:=(hr1.heap (w':=w) rfl ⟨rfl,rfl,rfl⟩).2;exact ha2.ext hx2
 have hall: ∀y,y∈olds++new→y.cells.length=i.size:=fun y hy=>by
  rcases List.mem_append.1 hy with h|h
  ·exact hos y h
  ·exact hns y h
 have hbase:CRs (Forb A ρ (view h)) ρ w (old++arr).toList (flat (olds++new)):=by
  rw[flat_append,Array.toList_append];exact ho2.append ha2'
 have hsz:(old++arr).size=(olds++new).length*i.size:=by
  have:=hbase.1;rw[flat_length hall]at this
  simpa using this
 refine⟨old++arr++rest,cap,{w with drawn:=w.drawn+1,heap:=w.heap.push (.cells (old++arr++rest) e)},?_,rfl,⟨rfl,rfl,rfl⟩,⟨hall,?_⟩,by simpa [hol]using hc1,?_⟩
 ·rw[hrun,List.length_append,hol]
 ·rw[List.drop_zero,Array.toList_append,List.take_append_of_le_length (by simpa using Nat.le_of_eq hsz.symm),List.take_of_length_le (by simpa using Nat.le_of_eq hsz)]
  exact hbase
 ·have h1:(n+new.length)*i.size+(cap-(n+new.length))*i.size=cap*i.size:=by rw[←Nat.add_mul];congr 1;omega
  rw[Array.size_append,hsz,hc2,List.length_append,hol];omega
theorem isEmpty_nil{l:List AV}(h:l.isEmpty=true):l= []:=by cases l<;>simp_all
theorem isEmpty_pos{l:List AV}(h: ¬l.isEmpty=true):0<l.length:=by cases l<;>simp_all
theorem crs_putL{cs:Array Value}{o sz m:Nat}{old new:List AV}{arr:Array Value}(he:Elems F ρ w cs o sz old)(hs: ∀y,y∈new→y.cells.length=sz)(ha:CRs F ρ w arr.toList (flat new))(hm:(old++new).length*sz+o≤cs.size):
  Elems F ρ w (putL cs (o+old.length*sz) arr.toList) o sz (old++new):=by
 have harr:arr.toList.length=new.length*sz:=by rw[ha.1,flat_length hs]
 have hml:(old++new).length*sz=old.length*sz+new.length*sz:=by rw[List.length_append,Nat.add_mul]
 refine⟨fun y hy=>?_,?_⟩
 ·rcases List.mem_append.1 hy with h|h
  ·exact he.1 y h
  ·exact hs y h
 ·refine⟨by simp only[List.length_append,List.length_take,List.length_drop,Array.length_toList,putL_size,flat_length he.1,flat_length hs,flat_append]at hml hm ⊢;omega,fun j u z hu hz=>?_⟩
  rw[List.getElem?_take]at hu;split at hu
  ·rename_i hj
   rw[List.getElem?_drop,Array.getElem?_toList,putL_get _ _ _ _ (by omega)]at hu;rw[flat_append]at hz
   by_cases h1:j<old.length*sz
   ·rw[if_neg (by omega)]at hu
    rw[List.getElem?_append_left (by rw[flat_length he.1];exact h1)]at hz;exact he.2.2 j u z (by rw[List.getElem?_take,if_pos h1,List.getElem?_drop,Array.getElem?_toList];exact hu) hz
   ·rw[if_pos (by omega)]at hu
    rw[List.getElem?_append_right (by rw[flat_length he.1];omega),flat_length he.1]at hz;exact ha.2 _ u z (by rw[show o+j-(o+old.length*sz)=j-old.length*sz by omega]at hu;exact hu) hz
  ·cases hu
variable {E:Env}
theorem appendA_run{f:FuncId}{dst:Option Nat}{st xt:TypeId}{s x y:AV}{h h':H}(ha:appendA E f dst st xt s x h= .ok (y,h'))(hr:HR E.G A ρ w (view h)){vs vx:Value}(hs:CR (Forb A ρ (view h)) ρ w vs s)(hx:CR (Forb A ρ (view h)) ρ w vx x)(ty:TypeId):
  ∃v w' ρ',(Builtin.append_ #[st,xt] ty #[vs,vx]).run E.P w= .ok v w'∧Ext (Own ρ (view h)) ρ w (Own ρ' (view h')) ρ' w'∧HR E.G A ρ' w' (view h')∧CR (Forb A ρ' (view h')) ρ' w' v y:=by
 obtain⟨d,hd,ha⟩:=R.bind_ok ha
 have hst:=under_ok hd
 clear hd;split at ha
 case h_2=>cases ha
 rename_i e;obtain⟨i,hi,ha1⟩:=R.bind_ok ha;clear ha;obtain⟨z,hz,ha2⟩:=R.bind_ok ha1;clear ha1;obtain⟨new,hnew,ha1⟩:=R.bind_ok ha2;clear ha2;obtain⟨n,hn,ha⟩:=R.bind_ok ha1;clear ha1
 by_cases hcond:szA s i.size=true∧(n+new.length)*i.bytes≤140000000000000∧n+new.length≤140000000000000∧0<i.bytes∧z.cells.length=i.size∧(new.all fun y=>y.cells.all AV.leaf)=true
 case neg=>rw [if_neg hcond]at ha;cases ha
 rw[if_pos hcond]at ha;obtain⟨i',zv,hi',hzv,hzo⟩:=zero_info hz;rw[info_ok hi]at hi';cases hi'
 have hii:=info_ok hi
 have hzs:zv.cells.size=i.size:=by
  have:=(ofV_cr (F:=Forb A ρ (view h)) (ρ:=ρ) (w:=w) hzo).cells.1;simp at this;omega
 obtain⟨hsz0,hroom,_,hbytes,hzl,hleaf⟩:=hcond
 have hnl:(flat new).all AV.leaf=true:=by
  rw[List.all_eq_true]at hleaf ⊢
  intro y hy;obtain⟨x,hx,hyx⟩:=List.mem_flatMap.1 hy;exact List.all_eq_true.1 (hleaf x hx) y hyx
 obtain⟨hns,arr,hN,harrs⟩:=newsI_run hnew hr (fun _ _=>rfl) hx hzo hzs hzl
 have hid:=view_length h
 have G1:=fun(base:Option Addr) (c:Nat) (olds:List AV)=>grows (base:=base) (c:=c) (n:=n) (ty:=ty) (olds:=olds) hr hst hii hzv hzs hbytes hzo hzl hnew hx hroom
 cases hs with
 |nils=>
  cases hn;simp only at ha;split at ha
  ·rename_i he
   have:=isEmpty_nil he;subst this;cases ha
   have h2:=harrs
   refine⟨_,w,ρ,?_,Ext.refl _ _ _,hr, .nils⟩;rw[append_fits (m:=0) hst hii hzv hN (Nat.le_refl _)];rfl
  ·rename_i he
   cases ha
   have hpos:=isEmpty_pos he
   obtain⟨row,cap,w2,h1,h2,hs2,h3,h4,h5⟩:=G1 none 0 [] (by omega) rfl (fun y hy=>by simp at hy) (fun w1 _ _=>⟨#[],rfl,by simp[flat];exact .nil⟩);obtain⟨k,q1,q2,q3⟩:=newSl_ok E f dst hr (hr.dom _ hid) h2 hs2 (thawed0 _) h3 h4 h5;rw[List.nil_append]at q1 q2 q3 h1;rw[view_append];exact⟨_,w2,_,h1,q1,q2,q3⟩
 | @lst0 base sz tl ht=>
   cases hn
   cases tl with
   |open_=>cases ha
   |own t=>exact absurd rfl (ht t)
   |clip=>
    simp only at ha;split at ha
    ·rename_i he
     have:=isEmpty_nil he;subst this;cases ha
     have h2:=harrs
     have harr:arr.toList= []:=by have:=h2.1;simp[flat]at this;simpa using this
     refine⟨.slice base 0 0,w,ρ,?_,Ext.refl _ _ _,hr, .lst0 ht⟩;rw[append_fits (m:=0) hst hii hzv hN (Nat.le_refl _)]
     cases base<;>simp [harr,storeCells]
    ·rename_i he
     cases ha
     have hpos:=isEmpty_pos he
     have hss:sz=i.size:=by simpa [szA]using hsz0
     subst hss;obtain⟨row,cap,w2,h1,h2,hs2,h3,h4,h5⟩:=G1 base 0 [] (by simpa using hpos) rfl (fun y hy=>by simp at hy) (fun w1 _ _=>⟨#[],by cases base<;>simp [Builtin.firstCells,loadCells,loadCellsFrom],by simp[flat];exact .nil⟩);obtain⟨k,q1,q2,q3⟩:=newSl_ok E f dst hr (hr.dom _ hid) h2 hs2 (thawed0 _) h3 h4 h5;rw[view_append];exact⟨_,w2,_,h1,q1,q2,q3⟩
 | @lst B o n' c sz cs e' fz l tl hb hn' hsz hF us g1 g2 hl hr' hc ht=>
   have hcr:CR (Forb A ρ (view h)) ρ w (.slice (some ⟨B,o,none⟩) n' c) (.lst sz l tl):= .lst hb hn' hsz hF us g1 g2 hl hr' hc ht;obtain⟨B',o',c',cs',e'',fz',heq,hb',_,hel,_⟩:=CR.lst_parts hb hn' hsz hF us g1 g2 hl hr' hc ht;cases heq;rw[hb]at hb';cases hb';cases hn
   have hss:sz=i.size:=by simpa [szA]using hsz0
   subst hss
   have hold: ∀w1,w1.heap=w.heap→SameS w w1→ ∃arr:Array Value,(Builtin.firstCells i.size l.length (.slice (some ⟨B,o,none⟩) l.length c)).run E.P w1= .ok arr w1∧CRs (Forb A ρ (view h)) ρ w arr.toList (flat l):=by
    intro w1 hw1 hs1;obtain⟨hr1,hx1⟩:=hr.heap hw1 hs1;obtain⟨_,_,hf⟩:=firstCells_run (P:=E.P) (h:=h) (x:= .lst i.size l tl) rfl hr1 (fun _ _=>rfl) (hcr.ext hx1) (s:=i.size) (by simp[szA]);obtain⟨arr,f1,f2⟩:=hf l.length (Nat.le_refl _);rw[List.take_length]at f2;exact⟨arr,f1,f2.ext ((hr1.heap (w':=w) hw1.symm ⟨hs1.1.symm,hs1.2.1.symm,hs1.2.2.symm⟩).2)⟩
   cases tl with
   |open_=>cases ha
   |clip=>
    have hcl:=hc rfl
    subst hcl;simp only at ha;split at ha
    ·rename_i he
     have:=isEmpty_nil he;subst this;cases ha
     have h2:=harrs
     have harr:arr.toList= []:=by have:=h2.1;simp[flat]at this;simpa using this
     refine⟨_,w,ρ,?_,Ext.refl _ _ _,hr,hcr⟩;rw[append_fits (m:=0) hst hii hzv hN (by simp)];simp[harr,storeCells]
    ·rename_i he
     cases ha
     have hpos:=isEmpty_pos he
     obtain⟨row,cap,w2,h1,h2,hs2,h3,h4,h5⟩:=G1 _ _ l (by omega) rfl hsz hold;obtain⟨k,q1,q2,q3⟩:=newSl_ok E f dst hr (hr.dom _ hid) h2 hs2 (thawed0 _) h3 h4 h5;rw[view_append];exact⟨_,w2,_,h1,q1,q2,q3⟩
   |own t=>
    simp only at ha
    cases htt:h[t]? with
    |none=>simp [htt]at ha
    |some tb=>
     cases tb with
     |tail=>
      simp only[htt,R.ok.injEq,Prod.mk.injEq]at ha;obtain⟨rfl,rfl⟩:=ha;have htv:view h t=some .tail:=htt;obtain⟨B1,k1,hρt,_,cs1,e1,fz1,hb1,hth1⟩:=hr.blk t _ htv nofun
      have hview:view (h.set t .dead++ [.tail])=setG (setG (view h) t .dead) h.length .tail:=by
       rw[view_append,view_set htt,List.length_set]
      rw[hview]
      by_cases hfit:l.length+new.length≤c
      ·have h2:=harrs
       have hrun:=append_fits (ty:=ty) (base:=some ⟨B,o,none⟩) (n:=l.length) hst hii hzv hN hfit
       rcases Nat.eq_zero_or_pos new.length with h0|h0
       ·obtain rfl:=List.eq_nil_of_length_eq_zero h0
        have harr:arr.toList= []:=by have:=h2.1;simp[flat]at this;simpa using this
        obtain⟨m1,m2⟩:=hr.onto (w':=w) hρt htv rfl hid (Nat.le_refl k1) hb1 (set_same hb1).symm (SameS.refl w) rfl (fun _ _=>rfl) .tail;refine⟨.slice (some ⟨B,o,none⟩) l.length c,w,_,?_,m1,m2 ⟨cs1,e1,fz1,hb1,hth1⟩,?_⟩
        ·rw[hrun];simp[harr,storeCells]
        ·rw[List.append_nil]
         obtain⟨B2,o2,c2,cs2,e2,fz2,heq2,hb2,hF2,hel2,hl2,hr2,hc2,ht2⟩:=(hcr.ext m1).lst_inv (.inr ⟨_,rfl⟩);cases heq2;refine .lst_of hb2 hF2 hel2 hl2 hr2 (fun h=>by cases h) (fun t' ht' hlt=>?_);cases ht';have:=ht t rfl hlt;rw[hρt]at this;simp[setR,this]
       ·have hρ2:=ht t rfl (by omega)
        rw[hρt]at hρ2;cases hρ2;rw[hb]at hb1;cases hb1
        have hroom2:o+(l++new).length*i.size≤cs.size:=by
         have:=Nat.mul_le_mul_right i.size hfit;rw[List.length_append];omega
        have harr:arr.toList.length=new.length*i.size:=by rw[h2.1,flat_length hns]
        have hml:(l++new).length*i.size=l.length*i.size+new.length*i.size:=by rw[List.length_append,Nat.add_mul]
        have hone: ∀v∈arr.toList,v.oneCell'=true:=leaves_one h2 hnl;have hstore:=storeCells_run (P:=E.P) (B:=B) (o:=o+l.length*i.size) arr.toList 0 cs w hb (by omega) hth1 hone;rw[Nat.add_zero]at hstore
        obtain⟨m1,m2⟩:=hr.onto (w':={w with heap:=w.heap.setIfInBounds B (.cells (putL cs (o+l.length*i.size) arr.toList) e' fz)}) (k:=o+(l++new).length*i.size) hρt htv rfl hid (by omega) hb rfl ⟨rfl,rfl,rfl⟩ (putL_size ..)
         (fun off hoff=>by rw[putL_get _ _ _ _ (by omega),if_neg (by omega)]) .tail
        have hB:({w with heap:=w.heap.setIfInBounds B (.cells (putL cs (o+l.length*i.size) arr.toList) e' fz)}:World).heap[B]?=some (.cells (putL cs (o+l.length*i.size) arr.toList) e' fz):=Array.getElem?_setIfInBounds_self_of_lt (lt_of_get hb);refine⟨.slice (some ⟨B,o,none⟩) (l.length+new.length) c,_,_,?_,m1,m2 ⟨_,_,_,hB,fun off p1 p2=>hth1 off (by omega) (by rw[putL_size]at p2;exact p2)⟩,?_⟩
        ·rw[hrun]
         simp only[add0,hstore,Result.andThen_ok]
        ·rw[←List.length_append]
         refine .lst_of hB (fun j hj=>?_) ?_ (by rw[List.length_append];exact hfit) (by rw[putL_size];exact hr') (fun h=>by cases h) (fun t' ht' hlt=>by cases ht';simp[setR])
         ·rintro(⟨b,k,yb,hb',hyb,hal,hk⟩|hA)
          ·simp only[setR,setG]at hb' hyb
           by_cases e1:b=h.length
           ·rw[if_pos e1]at hb';cases hb';omega
           ·rw[if_neg e1]at hb' hyb
            split at hyb
            ·cases hyb;cases hal
            ·rename_i hbt
             exact hbt (hr.sep b t B k _ yb .tail hb' hρt hyb htv hal rfl)
          ·by_cases hjl:j<l.length*i.size
           ·exact hF j hjl (.inr hA)
           ·exact(hr.avo _ _ hA).2 ⟨t,_, .tail,hρt,htv,rfl,by omega⟩
         ·exact crs_putL (m:=0) (hel.mono m1.sub m1.keeps) hns (h2.ext m1) (by omega)
      ·obtain⟨row,cap,w2,h1,h2,hs2,h3,h4,h5⟩:=G1 (some ⟨B,o,none⟩) c l (by omega) rfl hsz hold
       obtain⟨x1,hrk⟩:=hr.kill htv
       have hidk:setG (view h) t .dead h.length=none:=by
        have:h.length≠t:=fun e=>by rw[←e]at htt;simp at htt
        simp[setG,this,hid]
       obtain⟨m1,m2⟩:=hrk.alloc (w':=w2) (hrk.dom _ hidk) h2 hs2 ((l++new).length*i.size) .tail
       have hb2:w2.heap[w.heap.size]?=some (.cells row e (0,0)):=by rw[h2];simp
       refine⟨_,w2,_,h1,x1.trans m1,m2 ⟨row,e,(0,0),hb2,fun off p1 p2=>thawed0 _ off (Nat.zero_le _) p2⟩,?_⟩;refine .lst_of hb2 (fun j hj=>?_) ((h3.mono x1.sub x1.keeps).mono m1.sub m1.keeps) h4 (by rw[Nat.zero_add];exact h5) (fun h=>by cases h) (fun t' ht' hlt=>by cases ht';simp[setR]);rintro(⟨b,k,yb,hb',hyb,hal,hk⟩|hA)
       ·simp only[setR]at hb'
        split at hb'
        ·cases hb';omega
        ·have:=hr.lt hb';omega
       ·have:=(hr.avo _ _ hA).1;omega
     |_=>simp [htt]at ha
 | @sl b B o off len sz c clip cs e' fz hb0 hb hr' hl hc ho=>
   have hcr:CR (Forb A ρ (view h)) ρ w (.slice (some ⟨B,o,none⟩) len c) (.sl b off len sz clip):= .sl hb0 hb hr' hl hc ho;cases hn
   have hss:sz=i.size:=by simpa [szA]using hsz0
   subst hss;simp only at ha;obtain⟨old,hold0,ha1⟩:=R.bind_ok ha;clear ha;obtain⟨hos,⟨b',c',heq,hlc⟩,hf0⟩:=firstCells_run (P:=E.P) hold0 hr (fun _ _=>rfl) hcr (s:=i.size) (by simp[szA])
   have holen:old.length=n:=by cases heq;rfl
   have hold: ∀w1,w1.heap=w.heap→SameS w w1→ ∃arr:Array Value,(Builtin.firstCells i.size n (.slice (some ⟨B,o,none⟩) n c)).run E.P w1= .ok arr w1∧CRs (Forb A ρ (view h)) ρ w arr.toList (flat old):=by
    intro w1 hw1 hs1;obtain⟨hr1,hx1⟩:=hr.heap hw1 hs1;obtain⟨_,_,hf⟩:=firstCells_run (P:=E.P) hold0 hr1 (fun _ _=>rfl) (hcr.ext hx1) (s:=i.size) (by simp[szA]);obtain⟨arr,f1,f2⟩:=hf n (by omega);rw[List.take_of_length_le (by omega)]at f2;exact⟨arr,f1,f2.ext ((hr1.heap (w':=w) hw1.symm ⟨hs1.1.symm,hs1.2.1.symm,hs1.2.2.symm⟩).2)⟩
   split at ha1
   ·rename_i hclip
    have hcl:=hc hclip
    split at ha1
    ·rename_i he
     have:=isEmpty_nil he;subst this;cases ha1
     have h2:=harrs
     have harr:arr.toList= []:=by have:=h2.1;simp[flat]at this;simpa using this
     refine⟨_,w,ρ,?_,Ext.refl _ _ _,hr,hcr⟩;rw[append_fits (m:=0) hst hii hzv hN (by simpa using hl)];simp[harr,storeCells]
    ·rename_i he
     cases ha1
     have hpos:=isEmpty_pos he
     obtain⟨row,cap,w2,h1,h2,hs2,h3,h4,h5⟩:=G1 (some ⟨B,o,none⟩) c old (by omega) holen hos hold;obtain⟨k,q1,q2,q3⟩:=newSl_ok E f dst hr (hr.dom _ hid) h2 hs2 (thawed0 _) h3 h4 h5;rw[view_append];exact⟨_,w2,_,h1,q1,q2,q3⟩
   ·split at ha1
    ·rename_i hoff
     subst hoff;cases ha1
     obtain⟨xb,hxb⟩: ∃xb,view h b=some xb:=by
      cases hvb:view h b with
      |none=>rw [hr.dom b hvb]at hb0;cases hb0
      |some xb=>exact⟨xb,rfl⟩
     obtain⟨sz',ls,hls⟩: ∃sz' ls,h[b]?=some (.arr sz' ls):=by
      simp only[elemsA]at hold0
      cases hvb:h[b]? with
      |none=>simp [hvb]at hold0
      |some q=>cases q<;>simp [hvb]at hold0;exact⟨_,_,rfl⟩
     have hbv:view h b=some (.arr sz' ls):=hls;obtain⟨B1,k1,hρt,_,hk1,cs1,e1,fz1,hb1,hth1,_,hel1⟩:=hr.blk b _ hbv nofun;rw[hb0]at hρt;cases hρt;rw[hb]at hb1;cases hb1
     obtain⟨hls2,hszz⟩:old=(ls.drop 0).take n∧i.size=sz':=by
      simp only[elemsA,hls]at hold0;split at hold0
      ·rename_i hcc;cases hold0;exact⟨rfl,hcc.2⟩
      ·cases hold0
     subst hszz
     have hel:Elems (Forb A ρ (view h)) ρ w cs 0 i.size old:=by
      have:=hel1.cut 0 n;rw[hls2];simpa using this
     have hview:view (h.set b .dead++ [.arr i.size (old++new)])=setG (setG (view h) b .dead) h.length (.arr i.size (old++new)):=by
      rw[view_append,view_set hls,List.length_set]
     rw[hview]
     have hml:(old++new).length*i.size=old.length*i.size+new.length*i.size:=by rw[List.length_append,Nat.add_mul]
     by_cases hfit:n+new.length≤c
     ·have h2:=harrs
      have hrun:=append_fits (ty:=ty) (base:=some ⟨B,o,none⟩) (n:=n) hst hii hzv hN hfit
      have harr:arr.toList.length=new.length*i.size:=by rw[h2.1,flat_length hns]
      have hroom2:(old++new).length*i.size≤cs.size:=by
       have:=Nat.mul_le_mul_right i.size hfit;rw[List.length_append,holen];simp at hr';omega
      rcases Nat.eq_zero_or_pos new.length with h0|h0
      ·obtain rfl:=List.eq_nil_of_length_eq_zero h0
       have harr0:arr.toList= []:=by simpa using harr
       obtain⟨m1,m2⟩:=hr.onto (w':=w) hb0 hbv rfl hid (Nat.le_refl 0) hb (set_same hb).symm (SameS.refl w) rfl (fun _ _=>rfl) (.arr i.size (old++ []));refine⟨.slice (some ⟨B,o,none⟩) n c,w,_,?_,m1,m2 ⟨rfl,cs,e',fz,hb,hth1,by omega,by have:=hel.mono (F':=Forb A (setR ρ h.length (B,0)) (setG (setG (view h) b .dead) h.length (.arr i.size (old++ [])))) m1.sub m1.keeps;rw[List.append_nil]at this ⊢;exact this⟩,?_⟩
       ·rw[hrun];simp[harr0,storeCells]
       ·rw[List.append_nil,holen]
        exact .sl (by simp[setR]) hb hr' hl (fun h=>by cases h) ho
      ·have ho0:o=0:=by rcases ho with h'|h'; · omega
                        ·simpa using h'
       subst ho0;have hone: ∀v∈arr.toList,v.oneCell'=true:=leaves_one h2 hnl;have hstore:=storeCells_run (P:=E.P) (B:=B) (o:=0+n*i.size) arr.toList 0 cs w hb (by rw[holen]at hml;omega) (fun off p1 p2=>hth1 off (Nat.zero_le _) p2) hone;rw[Nat.add_zero]at hstore
       obtain⟨m1,m2⟩:=hr.onto (w':={w with heap:=w.heap.setIfInBounds B (.cells (putL cs (0+n*i.size) arr.toList) e' fz)}) (k:=0) hb0 hbv rfl hid (Nat.le_refl 0) hb rfl ⟨rfl,rfl,rfl⟩ (putL_size ..)
        (fun off hoff=>by omega) (.arr i.size (old++new))
       have hB:({w with heap:=w.heap.setIfInBounds B (.cells (putL cs (0+n*i.size) arr.toList) e' fz)}:World).heap[B]?=some (.cells (putL cs (0+n*i.size) arr.toList) e' fz):=Array.getElem?_setIfInBounds_self_of_lt (lt_of_get hb);refine⟨.slice (some ⟨B,0,none⟩) (n+new.length) c,_,_,?_,m1,m2 ⟨rfl,_,_,_,hB,by rw[putL_size];exact hth1,by rw[putL_size];exact hroom2,?_⟩,?_⟩
       ·rw[hrun]
        simp only[add0,hstore,Result.andThen_ok]
       ·have:=crs_putL (m:=0) (hel.mono m1.sub m1.keeps) hns (h2.ext m1) (by omega)
        rw[holen]at this;exact this
       ·have hsum:(old++new).length=n+new.length:=by rw[List.length_append,holen]
        rw[hsum];exact .sl (by simp[setR]) hB (by rw[putL_size];exact hr') hfit (fun h=>by cases h) (.inr (by simp))
     ·obtain⟨row,cap,w2,h1,h2,hs2,h3,h4,h5⟩:=G1 (some ⟨B,o,none⟩) c old (by omega) holen hos hold
      obtain⟨x1,hrk⟩:=hr.kill hbv
      have hidk:setG (view h) b .dead h.length=none:=by
       have:h.length≠b:=fun e=>by rw[←e]at hls;simp at hls
       simp[setG,this,hid]
      obtain⟨m1,m2⟩:=hrk.alloc (w':=w2) (hrk.dom _ hidk) h2 hs2 0 (.arr i.size (old++new))
      have hb2:w2.heap[w.heap.size]?=some (.cells row e (0,0)):=by rw[h2];simp
      have h45:=Nat.mul_le_mul_right i.size h4
      refine⟨_,w2,_,h1,x1.trans m1,m2 ⟨rfl,row,e,(0,0),hb2,thawed0 _,by omega,(h3.mono x1.sub x1.keeps).mono m1.sub m1.keeps⟩,?_⟩;exact .sl (by simp[setR]) hb2 (by rw[Nat.zero_add];exact h5) h4 (fun h=>by cases h) (.inr (by simp))
    ·cases ha1
 |vsl hb0 hl hc ho=>cases ha
 |_=>cases hn
end
end Go.Proofs.YtcocmlmligjjcaaGreatDoor.AM
namespace Go.Proofs.YtcocmlmligjjcaaGreatDoor.AM
set_option linter.unusedSectionVars false
set_option linter.unusedVariables false
set_option linter.unusedSimpArgs false
section
variable {F:Area} {ρ:Rho} {w:World} {G:Nat→Option (List AV)} {A:Area} {g:View} {w':World}
theorem plain1_bits{x y:AV}(h:plain1 x y=true){u v:Value}(hu:CR F ρ w u x)(hv:CR F ρ w v y)(n:Nat):Instr.sameBits n v u=true:=by
 cases x<;>cases y<;>simp [plain1]at h<;>cases hu<;>cases hv
 ·subst h;cases n<;>simp [Instr.sameBits]
 ·obtain⟨rfl,rfl⟩:=h;cases n<;>simp [Instr.sameBits]
 ·have h2: ∀a b:ByteArray,(a==b)=true→(b==a)=true:=fun a b h=>by
   rw[beq_toListBytes]at h ⊢
   rw[beq_iff_eq]at h ⊢;exact h.symm
  cases n<;>simp only[Instr.sameBits]<;>exact h2 _ _ h
theorem plains_bits: ∀{xs ys:List AV} {us vs:List Value},plains xs ys=true→CRs F ρ w us xs→CRs F ρ w vs ys→ ∀n,us.length=vs.length∧(vs.zip us).all (fun(x,y)=>Instr.sameBits n x y)=true
 | [],[],us,vs,h,hu,hv,n=>by
   obtain rfl:=List.eq_nil_of_length_eq_zero hu.1;obtain rfl:=List.eq_nil_of_length_eq_zero hv.1;exact⟨rfl,rfl⟩
 |x::xs,y::ys,us,vs,h,hu,hv,n=>by
  cases us with
  |nil=>have:=hu.1;simp at this
  |cons u us=>
   cases vs with
   |nil=>have:=hv.1;simp at this
   |cons v vs=>
    simp only[plains,Bool.and_eq_true]at h;obtain⟨h1,h2⟩:=plains_bits h.2 hu.tail hv.tail n;refine⟨by simp[h1],?_⟩;simp only[List.zip_cons_cons,List.all_cons,Bool.and_eq_true];exact⟨plain1_bits h.1 hu.head hv.head n,h2⟩
 | [],_::_,us,vs,h,hu,hv,n=>by simp[plains]at h
 |_::_,[],us,vs,h,hu,hv,n=>by simp[plains]at h
theorem plainEq_bits{x y:AV}(h:plainEq x y=true){u v:Value}(hu:CR F ρ w u x)(hv:CR F ρ w v y):Instr.sameBits 10000 v u=true:=by
 unfold plainEq at h;split at h
 ·obtain⟨us,rfl,hus⟩:=hu.agg_inv
  obtain⟨vs,rfl,hvs⟩:=hv.agg_inv;obtain⟨h1,h2⟩:=plains_bits h hus hvs 9999;rw[show(10000:Nat)=9999+1 from rfl];simp only[Instr.sameBits,Bool.and_eq_true,beq_iff_eq];simp only[Array.length_toList]at h1;exact⟨h1.symm,h2⟩
 ·exact plain1_bits h hu hv _
variable {E:Env}
theorem mapSet_run(hS:Smet E.P E.S){h:H}{t kt et:TypeId}(ht:E.P.underlying t=some (.map kt et)){b:Nat}{es:List (AV×AV)}(hb:h[b]?=some (.map es)){k v:AV}(hka:keyA E.P 99 kt k=true){r:Option (Nat×AV)}
  (hf:find (eqT E.P E.S 99 kt) k es=some r) {es':List (AV×AV)} (he:match r with|some (i,_)=>(∃e,es[i]?=some e∧plainEq k e.1=true)∧es'=es.set i (k,v)|none=>es'=es++ [(k,v)])
  (hr:HR E.G A ρ w (view h)) {vm vk vv:Value} (hm:CR (Forb A ρ (view h)) ρ w vm (.map b)) (hk:CR (Forb A ρ (view h)) ρ w vk k) (hv:CR (Forb A ρ (view h)) ρ w vv v):
  ∃w',(Instr.mapUpdate t vm vk vv).run E.P w= .ok () w'∧Ext (Own ρ (view h)) ρ w (Own ρ (view (h.set b (.map es')))) ρ w'∧HR E.G A ρ w' (view (h.set b (.map es'))):=by
 cases hm with
 | @map _ B hb0=>
   have hbv:view h b=some (.map es):=hb;obtain⟨B',k',h1,_,h0,ents,clock,h3,h4,h5⟩:=hr.blk b _ hbv nofun;rw[hb0]at h1;cases h1;have hent:EntsR (Forb A ρ (view h)) ρ w ents.toList es:=⟨by simpa using h4,fun i e x he hx=>h5 i e x (by rw[Array.getElem?_toList]at he;exact he) hx⟩;obtain⟨r',hr1,hr2⟩:=findKey_run hS hka hk hf hent
   have hgo:(getObj B).run E.P w= .ok (.map ents clock) w:=by simp[getObj,Sem.run,h3]
   have hck:(Instr.checkKey false 10000 kt vk).run E.P w= .ok () w:=(keyAF 99).1 kt k hka 10000 (by omega) _ _ w false _ hk
   have hset: ∀o,(setObj B o).run E.P w= .ok () {w with heap:=w.heap.setIfInBounds B o}:=fun o=>by simp[setObj,Sem.run,h3]
   have fin: ∀(ents':Array MapEntry) (clock':Nat),ents'.size=es'.length→(∀(i:Nat) (e:MapEntry) (x:AV×AV),ents'[i]?=some e→es'[i]?=some x→CR (Forb A ρ (view h)) ρ w e.key x.1∧CR (Forb A ρ (view h)) ρ w e.val x.2)→
     (Instr.mapUpdate t (.map (some B)) vk vv).run E.P w= .ok () {w with heap:=w.heap.setIfInBounds B (.map ents' clock')}→
     ∃w',(Instr.mapUpdate t (.map (some B)) vk vv).run E.P w= .ok () w'∧Ext (Own ρ (view h)) ρ w (Own ρ (view (h.set b (.map es')))) ρ w'∧HR E.G A ρ w' (view (h.set b (.map es'))):=by
    intro ents' clock' hsz hrel hrun;obtain⟨m1,m2⟩:=hr.modify (w':={w with heap:=w.heap.setIfInBounds B (.map ents' clock')}) hb0 hbv rfl rfl ⟨rfl,rfl,rfl⟩ (fun cs e fz hc=>by rw[h3]at hc;cases hc) (.map es');rw[view_set hb];refine⟨_,hrun,m1,m2 ⟨rfl,ents',clock',Array.getElem?_setIfInBounds_self_of_lt (lt_of_get h3),hsz,fun i e x he hx=>?_⟩⟩;exact⟨(hrel i e x he hx).1.ext m1,(hrel i e x he hx).2.ext m1⟩
   cases r with
   |none=>
    cases r' with
    |some p=>simp [FoundR]at hr2
    |none=>
     simp only at he;subst he
     refine fin (ents.push {key:=vk,val:=vv,born:=clock}) (clock+1) (by simp[h4]) (fun i e x he hx=>?_) ?_
     ·rw[Array.getElem?_push]at he
      split at he
      ·rename_i hi
       cases he;rw[hi,h4,List.getElem?_append_right (Nat.le_refl _)]at hx;simp at hx;subst hx;exact⟨hk,hv⟩
      ·rename_i hi
       have hlt:=lt_of_get he
       rw[List.getElem?_append_left (by omega)]at hx;exact h5 i e x he hx
     ·simp[Instr.mapUpdate,run_underlying ht,hgo,hck,hr1,hset]
   |some p=>
    obtain⟨i,u⟩:=p
    cases r' with
    |none=>simp [FoundR]at hr2
    |some p'=>
     obtain⟨i',u'⟩:=p';simp only[FoundR,Nat.zero_add]at hr2;obtain⟨rfl,_⟩:=hr2;simp only at he;obtain⟨⟨e0,he0,hpl⟩,rfl⟩:=he
     have hlt:i'<ents.size:=by rw[h4];exact lt_of_getl he0
     have hold:=h5 i' ents[i'] e0 (Array.getElem?_eq_getElem hlt) he0
     have hbits:=plainEq_bits hpl hk hold.1
     refine fin (ents.modify i' fun e=>{e with key:=vk,val:=vv}) clock (by simp[h4]) (fun j e x he hx=>?_) ?_
     ·rw[Array.getElem?_modify]at he
      rw[List.getElem?_set]at hx;split at he
      ·rename_i hij
       subst hij;rw[Array.getElem?_eq_getElem hlt]at he;simp only[Option.map_some,Option.some.injEq]at he;subst he;rw[if_pos rfl,if_pos (by omega)]at hx;cases hx;exact⟨hk,hv⟩
      ·rename_i hij
       rw[if_neg hij]at hx;exact h5 j e x he hx
     ·have hkts:(Instr.keyThatStays ents[i'].key vk).run E.P w= .ok vk w:=by simp[Instr.keyThatStays,hbits]
      simp[Instr.mapUpdate,run_underlying ht,hgo,hck,hr1,hset,Array.getElem?_eq_getElem hlt,hkts]
theorem copyA_run{dt st:TypeId}{d s y:AV}{h h':H}(hc:copyA E.P dt st d s h= .ok (y,h'))(hr:HR E.G A ρ w (view h)){vd vs:Value}(hd:CR (Forb A ρ (view h)) ρ w vd d)(hs:CR (Forb A ρ (view h)) ρ w vs s)(ty:TypeId):
  ∃v w',(Builtin.copy_ #[dt,st] ty #[vd,vs]).run E.P w= .ok v w'∧Ext (Own ρ (view h)) ρ w (Own ρ (view h')) ρ w'∧HR E.G A ρ w' (view h')∧CR (Forb A ρ (view h')) ρ w' v y:=by
 obtain⟨de,hde,hc1⟩:=R.bind_ok hc;clear hc;split at hc1
 case h_2=>cases hc1
 rename_i e;obtain⟨sz,hsz,hc⟩:=R.bind_ok hc1;clear hc1;obtain⟨new,hnew,hc1⟩:=R.bind_ok hc;clear hc;obtain⟨_,hlen,hns,hfirst⟩:=newsA_run hnew hr (fun _ _=>rfl) hs
 have e1:=run_under hde w
 cases hd with
 |nils=>
  cases hc1;obtain⟨arr,h1,h2⟩:=hfirst 0 (Nat.zero_le _);refine⟨.int .i64 0,w,?_,Ext.refl _ _ _,hr, .int _ _⟩;simp[Builtin.copy_,e1,hlen,run_size hsz,h1,goInt]
 | @sl b B o off len sz' c clip cs e' fz hb0 hb hr' hl hcl ho=>
   simp only at hc1
   cases hls:h[b]? with
   |none=>simp [hls]at hc1
   |some blk=>
    cases blk with
    |arr sz'' l=>
     simp only[hls]at hc1;split at hc1
     ·rename_i hcond
      obtain⟨rfl,rfl,hol,hleaf⟩:=hcond;cases hc1;have hbv:view h b=some (.arr sz l):=hls;obtain⟨B1,k1,hρt,_,hk1,cs1,e1',fz1,hb1,hth1,hsz1,hel1⟩:=hr.blk b _ hbv nofun;rw[hb0]at hρt;cases hρt;rw[hb]at hb1;cases hb1
      have hnl:(flat new).all AV.leaf=true:=by
       rw[List.all_eq_true]at hleaf ⊢
       intro y hy;obtain⟨x,hx,hyx⟩:=List.mem_flatMap.1 hy;exact List.all_eq_true.1 (hleaf x hx) y hyx
      obtain⟨arr,h1,h2⟩:=hfirst (min new.length len) (Nat.min_le_left _ _)
      have hnt: ∀y,y∈new.take (min new.length len)→y.cells.length=sz:=fun y hy=>hns y (List.mem_of_mem_take hy)
      have harr:arr.toList.length=min new.length len*sz:=by rw[h2.1,flat_length hnt];simp
      have hnl2:(flat (new.take (min new.length len))).all AV.leaf=true:=by
       rw[←flat_take hns,List.all_eq_true]
       exact fun y hy=>List.all_eq_true.1 hnl y (List.mem_of_mem_take hy)
      have hle:off*sz+min new.length len*sz≤l.length*sz:=by rw[←Nat.add_mul];exact Nat.mul_le_mul_right _ (by omega)
      obtain⟨o',ho',hst⟩: ∃o',(arr.toList= []∨o'=o)∧o'=off*sz:=by
       refine⟨off*sz,?_,rfl⟩
       rcases ho with h'|h'
       ·left
        have:min new.length len=0:=by omega
        rw[this,Nat.zero_mul]at harr;exact List.eq_nil_of_length_eq_zero harr
       ·right;exact h'.symm
      have hone:=leaves_one h2 hnl2
      have hstore:(storeCells ⟨B,o,none⟩ arr.toList).run E.P w= .ok () {w with heap:=w.heap.setIfInBounds B (.cells (putL cs o' arr.toList) e' fz)}:=by
       rcases ho' with h'|h'
       ·rw[h'];simp[storeCells,putL,set_same hb]
       ·subst h'
        have:=storeCells_run (P:=E.P) (B:=B) (o:=o') arr.toList 0 cs w hb (by omega) (fun off p1 p2=>hth1 off (Nat.zero_le _) p2) hone;rw[Nat.add_zero]at this;exact this
      subst hst
      obtain⟨m1,m2⟩:=hr.modify (w':={w with heap:=w.heap.setIfInBounds B (.cells (putL cs (off*sz) arr.toList) e' fz)}) hb0 hbv rfl rfl ⟨rfl,rfl,rfl⟩
       (fun cs1 e1 fz1 hb1=>by rw[hb]at hb1;cases hb1;exact⟨_,_,rfl,putL_size ..⟩) (.arr sz (l.take off++new.take (min new.length len)++l.drop (off+min new.length len)))
      rw[view_set hls]
      have hnewlen:(l.take off++new.take (min new.length len)++l.drop (off+min new.length len)).length=l.length:=by simp;omega
      have hflat:flat (l.take off++new.take (min new.length len)++l.drop (off+min new.length len))=setCells (flat l) (off*sz) (flat (new.take (min new.length len))):=by
       have hln:(flat (new.take (min new.length len))).length=min new.length len*sz:=by rw[flat_length hnt];simp
       rw[setCells_eq _ _ _ (by rw[flat_length hel1.1,hln];exact hle),hln,←Nat.add_mul,flat_take hel1.1,flat_drop hel1.1,flat_append,flat_append]
      refine⟨.int .i64 (min new.length len:Nat),_,?_,m1,m2 ⟨rfl,_,_,_,Array.getElem?_setIfInBounds_self_of_lt (lt_of_get hb),by rw[putL_size];exact hth1,by rw[hnewlen,putL_size];exact hsz1,⟨fun y hy=>?_,?_⟩⟩, .int _ _⟩
      ·simp only[Builtin.copy_,List.getElem?_toArray,List.getElem?_cons_zero,List.getElem?_cons_succ,Sem.run_bind,e1,hlen,Result.andThen_ok,run_size hsz]
       have:Nat.min new.length len=min new.length len:=rfl;simp only[this,h1,Result.andThen_ok,Sem.run_bind,hstore,Sem.run_pure,goInt]
      ·rcases List.mem_append.1 hy with hy|hy
       ·rcases List.mem_append.1 hy with hy|hy
        ·exact hel1.1 y (List.mem_of_mem_take hy)
        ·exact hnt y hy
       ·exact hel1.1 y (List.mem_of_mem_drop hy)
      ·rw[hflat,hnewlen,List.drop_zero]
       have hrow:=hel1.2
       rw[List.drop_zero]at hrow;refine⟨by rw[setCells_length,flat_length hel1.1];simp[putL_size];omega,fun j u z hu hz=>?_⟩
       have hln:(flat (new.take (min new.length len))).length=min new.length len*sz:=by rw[flat_length hnt];simp
       rw[setCells_get _ _ _ _ (by rw[flat_length hel1.1,hln];exact hle),hln]at hz;rw[List.getElem?_take]at hu;split at hu
       ·rename_i hj
        rw[Array.getElem?_toList,putL_get _ _ _ _ (by omega),harr]at hu;split at hz
        ·rename_i hjj
         rw[if_pos hjj]at hu;exact(h2.2 _ u z hu hz).ext m1
        ·rename_i hjj
         rw[if_neg hjj]at hu;exact(hrow.2 j u z (by rw[List.getElem?_take,if_pos hj,Array.getElem?_toList];exact hu) hz).ext m1
       ·cases hu
     ·cases hc1
    |_=>simp [hls]at hc1
 |_=>cases hc1
theorem clearA_run{t:TypeId}{x y:AV}{h h':H}(hc:clearA E.P t x h= .ok (y,h'))(hr:HR E.G A ρ w (view h)){vx:Value}(hx:CR (Forb A ρ (view h)) ρ w vx x)(ty:TypeId):
  ∃v w',(Builtin.clear_ #[t] ty #[vx]).run E.P w= .ok v w'∧Ext (Own ρ (view h)) ρ w (Own ρ (view h')) ρ w'∧HR E.G A ρ w' (view h')∧CR (Forb A ρ (view h')) ρ w' v y:=by
 obtain⟨de,hde,hc1⟩:=R.bind_ok hc;clear hc;split at hc1
 case h_2=>cases hc1
 rename_i e;obtain⟨i,hi,hc⟩:=R.bind_ok hc1;clear hc1;obtain⟨z,hz,hc1⟩:=R.bind_ok hc;clear hc
 have e1:=run_under hde w
 cases hx with
 |nils=>
  cases hc1;exact⟨.tuple #[],w,by simp[Builtin.clear_,e1],Ext.refl _ _ _,hr, .tup_of .nil⟩
 | @sl b B o off len sz' c clip cs e' fz hb0 hb hr' hl hcl ho=>
   simp only at hc1
   cases hls:h[b]? with
   |none=>simp [hls]at hc1
   |some blk=>
    cases blk with
    |arr sz'' l=>
     simp only[hls]at hc1;split at hc1
     ·rename_i hcond
      obtain⟨hsi,rfl,hol,hzl,hleaf⟩:=hcond;cases hc1;obtain⟨i',zv,hi',hzv,hzo⟩:=zero_info hz;rw[info_ok hi]at hi';cases hi';have hbv:view h b=some (.arr sz' l):=hls;obtain⟨B1,k1,hρt,_,hk1,cs1,e1',fz1,hb1,hth1,hsz1,hel1⟩:=hr.blk b _ hbv nofun;rw[hb0]at hρt;cases hρt;rw[hb]at hb1;cases hb1;have hzc:CRs (Forb A ρ (view h)) ρ w zv.cells.toList z.cells:=(ofV_cr hzo).cells
      have hzs:zv.cells.size=sz':=by have:=hzc.1;simp at this;omega
      have hnt: ∀y,y∈List.replicate len z→y.cells.length=sz':=replicate_sz hzl;obtain⟨arr,harrd⟩: ∃arr,arr=Builtin.zeroCells zv.cells len:=⟨_,rfl⟩
      have h2:CRs (Forb A ρ (view h)) ρ w arr.toList (flat (List.replicate len z)):=by
       rw[harrd];exact zeros_cr (sz:=zv.cells.size) hzc (by rw[hzs];exact hzl)
      have hln:(flat (List.replicate len z)).length=len*sz':=by rw[flat_length hnt,List.length_replicate]
      have harr:arr.toList.length=len*sz':=by rw[h2.1,hln]
      have hnl2:(flat (List.replicate len z)).all AV.leaf=true:=by
       rw[List.all_eq_true]at hleaf ⊢
       intro y hy;obtain⟨x,hx,hyx⟩:=List.mem_flatMap.1 hy;rw[(List.mem_replicate.1 hx).2]at hyx;exact hleaf y hyx
      have hle:off*sz'+len*sz'≤l.length*sz':=by rw[←Nat.add_mul];exact Nat.mul_le_mul_right _ hol
      obtain⟨o',ho',hst⟩: ∃o',(arr.toList= []∨o'=o)∧o'=off*sz':=by
       refine⟨off*sz',?_,rfl⟩
       rcases ho with h'|h'
       ·left
        have:len=0:=by omega
        rw[this,Nat.zero_mul]at harr;exact List.eq_nil_of_length_eq_zero harr
       ·right;exact h'.symm
      have hone:=leaves_one h2 hnl2
      have hstore:(storeCells ⟨B,o,none⟩ arr.toList).run E.P w= .ok () {w with heap:=w.heap.setIfInBounds B (.cells (putL cs o' arr.toList) e' fz)}:=by
       rcases ho' with h'|h'
       ·rw[h'];simp[storeCells,putL,set_same hb]
       ·subst h'
        have:=storeCells_run (P:=E.P) (B:=B) (o:=o') arr.toList 0 cs w hb (by omega) (fun off p1 p2=>hth1 off (Nat.zero_le _) p2) hone;rw[Nat.add_zero]at this;exact this
      subst hst
      obtain⟨m1,m2⟩:=hr.modify (w':={w with heap:=w.heap.setIfInBounds B (.cells (putL cs (off*sz') arr.toList) e' fz)}) hb0 hbv rfl rfl ⟨rfl,rfl,rfl⟩
       (fun cs1 e1 fz1 hb1=>by rw[hb]at hb1;cases hb1;exact⟨_,_,rfl,putL_size ..⟩) (.arr sz' (l.take off++List.replicate len z++l.drop (off+len)))
      rw[view_set hls]
      have hnewlen:(l.take off++List.replicate len z++l.drop (off+len)).length=l.length:=by simp;omega
      have hflat:flat (l.take off++List.replicate len z++l.drop (off+len))=setCells (flat l) (off*sz') (flat (List.replicate len z)):=by
       rw[setCells_eq _ _ _ (by rw[flat_length hel1.1,hln];exact hle),hln,←Nat.add_mul,flat_take hel1.1,flat_drop hel1.1,flat_append,flat_append]
      refine⟨.tuple #[],_,?_,m1,m2 ⟨rfl,_,_,_,Array.getElem?_setIfInBounds_self_of_lt (lt_of_get hb),by rw[putL_size];exact hth1,by rw[hnewlen,putL_size];exact hsz1,⟨fun y hy=>?_,?_⟩⟩, .tup_of .nil⟩
      ·have e5:(zeroValue e).run E.P w= .ok zv w:=by simp[zeroValue,typeInfo,info_ok hi,hzv]
       rcases Nat.eq_zero_or_pos len with h0|h0
       ·subst h0
        rw[Nat.zero_mul]at harr
        have hnil:=List.eq_nil_of_length_eq_zero harr
        rw[hnil]at hstore ⊢
        simp[storeCells]at hstore;simp[Builtin.clear_,e1,←hstore]
       ·obtain⟨m,rfl⟩: ∃m,len=m+1:=⟨len-1,by omega⟩
        simp only[Builtin.clear_,List.getElem?_toArray,List.getElem?_cons_zero,Sem.run_bind,e1,Result.andThen_ok,e5,←harrd,hstore,Sem.run_pure]
      ·rcases List.mem_append.1 hy with hy|hy
       ·rcases List.mem_append.1 hy with hy|hy
        ·exact hel1.1 y (List.mem_of_mem_take hy)
        ·exact hnt y hy
       ·exact hel1.1 y (List.mem_of_mem_drop hy)
      ·rw[hflat,hnewlen,List.drop_zero]
       have hrow:=hel1.2
       rw[List.drop_zero]at hrow;refine⟨by rw[setCells_length,flat_length hel1.1];simp[putL_size];omega,fun j u z hu hz=>?_⟩;rw[setCells_get _ _ _ _ (by rw[flat_length hel1.1,hln];exact hle),hln]at hz;rw[List.getElem?_take]at hu;split at hu
       ·rename_i hj
        rw[Array.getElem?_toList,putL_get _ _ _ _ (by omega),harr]at hu;split at hz
        ·rename_i hjj
         rw[if_pos hjj]at hu;exact(h2.2 _ u z hu hz).ext m1
        ·rename_i hjj
         rw[if_neg hjj]at hu;exact(hrow.2 j u z (by rw[List.getElem?_take,if_pos hj,Array.getElem?_toList];exact hu) hz).ext m1
       ·cases hu
     ·cases hc1
    |_=>simp [hls]at hc1
 |_=>cases hc1
variable {a:Act} {τ:Fr}
theorem append_args{P:Program}{ats:Array TypeId}{t u:TypeId}(ht:ats[0]?=some t)(hu:ats[1]?=some u)(ty:TypeId)(args:Array Value):Builtin.append_ ats ty args=Builtin.append_ #[t,u] ty args:=by
 unfold Builtin.append_;simp only[ht,hu,List.getElem?_toArray,List.getElem?_cons_zero,List.getElem?_cons_succ]
theorem copy_args{P:Program}{ats:Array TypeId}{t u:TypeId}(ht:ats[0]?=some t)(ty:TypeId)(args:Array Value):Builtin.copy_ ats ty args=Builtin.copy_ #[t,u] ty args:=by
 unfold Builtin.copy_;simp only[ht,List.getElem?_toArray,List.getElem?_cons_zero,List.getElem?_cons_succ]
theorem clear_args{P:Program}{ats:Array TypeId}{t:TypeId}(ht:ats[0]?=some t)(ty:TypeId)(args:Array Value):Builtin.clear_ ats ty args=Builtin.clear_ #[t] ty args:=by
 unfold Builtin.clear_;simp only[ht,List.getElem?_toArray,List.getElem?_cons_zero]
theorem one_arg{args:Array Operand}{f:Operand→Value}{x:AV}(h:CRs F ρ w (args.toList.map f) [x]): ∃u,args.map f= #[u]∧CR F ρ w u x:=by
 cases hv:args.toList.map f with
 |nil=>rw [hv]at h;have:=h.1;simp at this
 |cons u rest=>
  rw[hv]at h
  obtain rfl:rest= []:=by have:=h.1;simpa using this
  exact⟨u,map_toArray1 hv,h.head⟩
theorem two_args{args:Array Operand}{f:Operand→Value}{x y:AV}(h:CRs F ρ w (args.toList.map f) [x,y]): ∃u v,args.map f= #[u,v]∧CR F ρ w u x∧CR F ρ w v y:=by
 cases hv:args.toList.map f with
 |nil=>rw [hv]at h;have:=h.1;simp at this
 |cons u rest=>
  rw[hv]at h
  cases rest with
  |nil=>have:=h.1;simp at this
  |cons v rest=>
   obtain rfl:rest= []:=by have:=h.1;simpa using this
   exact⟨u,v,map_toArray1 hv,h.head,h.tail.head⟩
def Gives(P:Program)(s:Sem Next)(w:World)(v:Value)(w':World):Prop:=s.run P w= .ok (.value v) w'∨(s.run P w= .ok .skip w'∧v=Go.undef)
theorem undef_cr:CR F ρ w Go.undef undef:= .tup_of .nil
theorem heavyA_run(hS:Smet E.P E.S){f:FuncId}{h h':H}{o:Oper}{y:AV}(ha:heavyA E f τ h o= .ok (y,h'))(hr:HR E.G A ρ w (view h))(hf:FRel (Forb A ρ (view h)) ρ w a.tmps τ):
  ∃v w' ρ',Gives E.P (execOp a.eval o) w v w'∧Ext (Own ρ (view h)) ρ w (Own ρ' (view h')) ρ' w'∧HR E.G A ρ' w' (view h')∧CR (Forb A ρ' (view h')) ρ' w' v y:=by
 have hg:=hr.glob'
 unfold execOp
 have upd: ∀{t m k x},((ev E τ m).bind fun m=>(ev E τ k).bind fun k=>(ev E τ x).bind fun v=>(under E.P t).bind fun
  | .map kt _=>match m with
    | .map b=>match h[b]? with
      |some (.map es)=>if keyA E.P 99 kt k=false then .no "mapUpdate: key" else(lift "mapUpdate: key" (find (eqT E.P E.S 99 kt) k es)).bind fun
       |some (i,_)=>match es[i]? with
        |some e=>if plainEq k e.1 then .ok (undef,h.set b (.map (es.set i (k,v))))else .no "mapUpdate: key"
        |none=> .no "mapUpdate"
       |none=> .ok (undef,h.set b (.map (es++ [(k,v)])))
      |_=> .no "mapUpdate"
    |_=> .no "mapUpdate"
  |_=> .no "mapUpdate")=R.ok (y,h')→ ∃v w' ρ',Gives E.P (do Instr.mapUpdate t (a.eval m) (a.eval k) (a.eval x);pure .skip) w v w'∧Ext (Own ρ (view h)) ρ w (Own ρ' (view h')) ρ' w'∧HR E.G A ρ' w' (view h')∧CR (Forb A ρ' (view h')) ρ' w' v y:=by
  intro t m k x ha;obtain⟨vm,hm,ha1⟩:=R.bind_ok ha;clear ha;obtain⟨vk,hk,ha⟩:=R.bind_ok ha1;clear ha1;obtain⟨vx,hx,ha1⟩:=R.bind_ok ha;clear ha;obtain⟨d,hd,ha⟩:=R.bind_ok ha1;clear ha1
  have hdd:=under_ok hd
  clear hd
  cases d with
  |map kt et=>
   cases vm with
   |map b=>
    simp only at ha
    cases hb:h[b]? with
    |none=>simp [hb]at ha
    |some blk=>
    cases blk with
    |map es=>
     simp only[hb]at ha;split at ha
     ·cases ha
     ·rename_i hka
      have hka:keyA E.P 99 kt vk=true:=by simpa using hka
      obtain⟨r,hfr,ha1⟩:=R.bind_ok ha;clear ha
      have hfr:=lift_ok hfr
      cases r with
      |none=>
       cases ha1;obtain⟨w',h1,h2,h3⟩:=mapSet_run hS hdd hb hka hfr (es':=es++ [(vk,vx)]) rfl hr (ev_cr hf hg hm) (ev_cr hf hg hk) (ev_cr hf hg hx);exact⟨Go.undef,w',ρ, .inr ⟨by simp[h1],rfl⟩,h2,h3,undef_cr⟩
      |some p=>
       obtain⟨i,u⟩:=p;simp only at ha1
       cases he:es[i]? with
       |none=>simp [he]at ha1
       |some e=>
        simp only[he]at ha1;split at ha1
        ·rename_i hpl
         cases ha1;obtain⟨w',h1,h2,h3⟩:=mapSet_run hS hdd hb hka hfr (es':=es.set i (vk,vx)) ⟨⟨e,he,hpl⟩,rfl⟩ hr (ev_cr hf hg hm) (ev_cr hf hg hk) (ev_cr hf hg hx);exact⟨Go.undef,w',ρ, .inr ⟨by simp[h1],rfl⟩,h2,h3,undef_cr⟩
        ·cases ha1
    |_=>simp [hb]at ha
   |_=>cases ha
  |_=>cases ha
 cases ho:o.op with
 |store t p x=>
  simp only[heavyA,ho]at ha;obtain⟨vp,hp,ha1⟩:=R.bind_ok ha;obtain⟨vx,hx,ha2⟩:=R.bind_ok ha1;obtain⟨h2,hst,ha3⟩:=R.bind_ok ha2;cases ha3;obtain⟨w',h1,h2,h3⟩:=storeA_run hst hr (ev_cr hf hg hp) (ev_cr hf hg hx);exact⟨Go.undef,w',ρ, .inr ⟨by simp[h1],rfl⟩,h2,h3,undef_cr⟩
 |mapUpdate t m k x=>simp only[heavyA,ho]at ha;exact upd ha
 |insert t m k x=>simp only[heavyA,ho]at ha;exact upd ha
 |call c=>
  obtain⟨callee,args,ats⟩:=c
  cases callee with
  |builtin b=>
   simp only[heavyA,ho]at ha;obtain⟨vs,hvs,ha1⟩:=R.bind_ok ha;clear ha
   have hc:=evs_cr hf hg hvs
   split at ha1
   ·obtain⟨u,v,huv,hu,hv⟩:=two_args hc
    obtain⟨t,ht,ha⟩:=R.bind_ok ha1;obtain⟨t2,ht2,ha⟩:=R.bind_ok ha;obtain⟨r,w',ρ',h1,h2,h3,h4⟩:=appendA_run ha hr hu hv o.type;rw[←append_args (P:=E.P) (lift_ok ht) (lift_ok ht2)]at h1;exact⟨r,w',ρ', .inl (by simp[resolve,invoke,builtin,huv,h1]),h2,h3,h4⟩
   ·obtain⟨u,v,huv,hu,hv⟩:=two_args hc
    obtain⟨t,ht,ha⟩:=R.bind_ok ha1;obtain⟨t2,ht2,ha⟩:=R.bind_ok ha;obtain⟨r,w',h1,h2,h3,h4⟩:=copyA_run ha hr hu hv o.type;rw[←copy_args (P:=E.P) (lift_ok ht)]at h1;exact⟨r,w',ρ, .inl (by simp[resolve,invoke,builtin,huv,h1]),h2,h3,h4⟩
   ·obtain⟨u,huv,hu⟩:=one_arg hc
    obtain⟨t,ht,ha⟩:=R.bind_ok ha1;obtain⟨r,w',h1,h2,h3,h4⟩:=clearA_run ha hr hu o.type;rw[←clear_args (P:=E.P) (lift_ok ht)]at h1;exact⟨r,w',ρ, .inl (by simp[resolve,invoke,builtin,huv,h1]),h2,h3,h4⟩
   ·cases ha1
  |value f=>simp only[heavyA,ho]at ha;cases ha
  |invoke r m=>simp only[heavyA,ho]at ha;cases ha
 |convert src dst x=>
  simp only[heavyA,ho]at ha;obtain⟨v,hv,ha1⟩:=R.bind_ok ha;clear ha;obtain⟨us,hus,ha⟩:=R.bind_ok ha1;clear ha1
  have hc:=ev_cr hf hg hv
  obtain⟨u,hu⟩: ∃u,a.eval x=u:=⟨_,rfl⟩;rw[hu]at hc;split at ha
  ·rename_i e b off n sz clip
   obtain⟨ue,hue,ha1⟩:=R.bind_ok ha;clear ha;split at ha1
   ·rename_i sz' l hbv
    split at ha1
    ·rename_i hcond
     obtain⟨rfl,rfl,rfl,hlen⟩:=hcond;cases ha1;have hview:view (h.set b .dead)=setG (view h) b .dead:=view_set hbv _
     cases hc with
     | @sl _ B o _ _ _ c _ cs e' fz hρ hb hroom hnc hclip ho'=>
       obtain⟨B1,k1,hρ1,_,hk1,cs1,e1,fz1,hb1,hth1,hsz1,hel⟩:=hr.blk b _ hbv nofun;rw[hρ]at hρ1;cases hρ1;rw[hb]at hb1;cases hb1
       have hmod:(w.freeze {block:=B,off:=cs.size} 1).heap=w.heap.setIfInBounds B (.cells cs e' (if fz.1==fz.2 then(cs.size,cs.size+1)else(min fz.1 cs.size,max fz.2 (cs.size+1)))):=by
        have hlt:=hr.lt hρ
        unfold World.freeze;rw[if_neg (by decide)]
        refine Array.ext_getElem? fun i=>?_
        by_cases hi:B=i
        ·subst hi
         rw[Array.getElem?_setIfInBounds_self_of_lt hlt,Array.getElem?_modify,if_pos rfl,hb];rfl
        ·rw[Array.getElem?_setIfInBounds_ne hi,Array.getElem?_modify,if_neg hi]
       have hst:SameS w (w.freeze {block:=B,off:=cs.size} 1):=by
        unfold World.freeze;rw[if_neg (by decide)];exact⟨rfl,rfl,rfl⟩
       obtain⟨m1,m2⟩:=hr.spend hρ hbv rfl hb hmod hst;rw[hview];refine⟨.slice (some ⟨B,o,none⟩) n c,_,ρ, .inl ?_,m1,m2,?_⟩
       ·have hsh:w.shape? B=some (e',cs.size):=by unfold World.shape?;rw[hb]
        simp only[Sem.run_bind,hu,convert,run_under hus,run_under hue,Result.andThen_ok,beq_self_eq_true,markStringish,run_shape,hsh,run_freeze,Sem.run_pure]
       ·have hl:((l.drop off).take n).length=n:=by rw[List.length_take,List.length_drop];omega
        rcases Nat.eq_zero_or_pos c with h0|h0
        ·subst h0
         obtain rfl:n=0:=by omega
         rw[List.take_zero];exact .lst0 nofun
        ·have hoo:o=off*1:=ho'.resolve_left (by omega)
         have hcut:=hel.cut off n
         rw[Nat.zero_add,←hoo]at hcut
         have hb':(w.freeze {block:=B,off:=cs.size} 1).heap[B]?=some (.cells cs e' (if fz.1==fz.2 then(cs.size,cs.size+1)else(min fz.1 cs.size,max fz.2 (cs.size+1)))):=by
          rw[hmod];simp[Array.getElem?_setIfInBounds_self,hr.lt hρ]
         have hF: ∀j,j<((l.drop off).take n).length*1→ ¬Forb A ρ (setG (view h) b .dead) B (o+j):=by
          intro j _ hF
          rcases hF with⟨b2,k2,blk2,r1,r2,r3,r4⟩|hA
          ·simp only[setG]at r2
           split at r2
           ·cases r2;cases r3
           ·rename_i hne
            exact hne (hr.sep b2 b B k2 0 blk2 _ r1 hρ r2 hbv r3 rfl)
          ·exact(hr.avo B _ hA).2 ⟨b,0,_,hρ,hbv,rfl,Nat.zero_le _⟩
         have hl2:n=((l.drop off).take n).length:=hl.symm
         have key:CR (Forb A ρ (setG (view h) b .dead)) ρ (w.freeze {block:=B,off:=cs.size} 1) (.slice (some ⟨B,o,none⟩) ((l.drop off).take n).length c) (.lst 1 ((l.drop off).take n) .open_):=
          .lst_of hb' hF (hcut.mono m1.sub m1.keeps) (by omega) (by omega) (fun h=>by cases h) (fun t h=>by cases h)
         rw[hl]at key;exact key
     |_=>skip
    ·cases ha1
   ·cases ha1
  ·cases ha
 |_=>simp only[heavyA,ho]at ha;cases ha
end
end Go.Proofs.YtcocmlmligjjcaaGreatDoor.AM
namespace Go.Proofs.YtcocmlmligjjcaaGreatDoor.AM
set_option linter.unusedSectionVars false
set_option linter.unusedVariables false
set_option linter.unusedSimpArgs false
section
variable {E:Env} {s0 nn:Nat} {rd:Option Nat}
def DeOK(s0:Nat)(ds:List Deferred)(w:World)(O:Area):Prop:=
 s0≤w.heap.size∧ds.Nodup∧ ∀d,d∈ds→ ∃D,d={target:= .collected D,args:= #[]}∧s0≤D∧w.heap[D]?=some (.deferred (some []))∧ ∀off,¬O D off
theorem DeOK.nil{w:World}{O:Area}(h:s0≤w.heap.size):DeOK s0 [] w O:=⟨h,List.nodup_nil,fun d h=>by cases h⟩
theorem DeOK.ext{ds:List Deferred}{w w':World}{O O':Area}{ρ ρ':Rho}(h:DeOK s0 ds w O)(hx:Ext O ρ w O' ρ' w'):DeOK s0 ds w' O':=
 ⟨Nat.le_trans h.1 hx.size,h.2.1,fun d hd=>by
  obtain⟨D,h1,h2,h3,h4⟩:=h.2.2 d hd
  have hlt:=lt_of_get h3
  refine⟨D,h1,h2,by rw[hx.keepo D hlt h4];exact h3,fun off ho=>?_⟩
  rcases hx.new D off ho with h5|h5
  ·exact h4 off h5
  ·omega⟩
structure St (E:Env) (A:Area) (ρ:Rho) (w:World) (a:Act) (τ:Fr) (g:View) (N s0:Nat):Prop where
 hr:HR E.G A ρ w g
 fr:FRel (Forb A ρ g) ρ w a.tmps τ
 sz:a.tmps.size=N
 de:DeOK s0 a.defers w (Own ρ g)
def fw(rd:Option Nat):Fence:={Fence.wide with round:=rd}
theorem semAt_nd{ρ:Operand→Value}{o:Oper}(h: ∀c,o.op≠ .defer c):o.semAt rd ρ=execOp ρ o:=by
 cases rd with
 |none=>simp [Oper.semAt]
 |some l=>exact Oper.semAt_some l _ _ h
def CallOK(E:Env)(call:CallF):Prop:=
 ∀f args h r h',call f args h= .ok (r,h')→ ∀(A:Area) (ρ:Rho) (w:World) (vs:Array Value),HR E.G A ρ w (view h)→CRs (Forb A ρ (view h)) ρ w vs.toList args→
  (∀W,(callFunc f vs).run E.P W= .ok (.enter f vs) W)∧Calls E.P f vs w fun e w'=> ∃v ρ',e= .returned v∧Ext (Own ρ (view h)) ρ w (Own ρ' (view h')) ρ' w'∧HR E.G A ρ' w' (view h')∧CR (Forb A ρ' (view h')) ρ' w' v r
def COK(E:Env):Prop:=CallOK E fun f args h=>match E.C f args with
 |some r=> .ok (thaw h r)
 |none=> .no ""
theorem noF_thaw:(∀v:AV,noF v=true→ ∀h,thaw h v=(v,h)):=by
 intro v
 exact AV.rec (motive_1:=fun v=>noF v=true→ ∀h,thaw h v=(v,h)) (motive_2:=fun l=>noFs l=true→ ∀h,thaws h l=(l,h))
  (fun _ _ _=>rfl) (fun _ _ _ _=>rfl) (fun _ _ _=>rfl) (fun _ _=>rfl) (fun _ _ _ _=>rfl) (fun _ _ _ _ _ _=>rfl) (fun _ _ _ _ _=>rfl) (fun _ _=>rfl) (fun _ _ _ _ _ _ _=>rfl)
  (fun _ _ _ _ _ _=>rfl) (fun _ _ _ _ _ _=>rfl) (fun _ _ _ h=>by simp[noF]at h) (fun _ _=>rfl) (fun _ _ _=>rfl) (fun _ _=>rfl) (fun _ _ _ _ _ _ _=>rfl) (fun _ _=>rfl)
  (fun cs ih h hh=>by simp only[noF]at h;simp[thaw,ih h hh]) (fun cs ih h hh=>by simp only[noF]at h;simp[thaw,ih h hh])
  (fun _ _=>rfl) (fun x xs h1 h2 h hh=>by simp only[noFs,Bool.and_eq_true]at h;simp[thaws,h1 h.1,h2 h.2]) v
theorem FRel.ext{A:Area}{ρ ρ':Rho}{g g':View}{w w':World}(h:Ext (Own ρ g) ρ w (Own ρ' g') ρ' w'){tmps:Array Value}{τ:Fr}(hf:FRel (Forb A ρ g) ρ w tmps τ):FRel (Forb A ρ' g') ρ' w' tmps τ:=fun i=>(hf i).ext h
theorem FRel.put{F:Area}{ρ:Rho}{w:World}{a:Act}{τ τ':Fr}{N:Nat}(hf:FRel F ρ w a.tmps τ)(hN:a.tmps.size=N){dst:Option Nat}{v:Value}{y:AV}(hv:CR F ρ w v y)(hp:putA N τ dst y= .ok τ'):FRel F ρ w (a.put dst v).tmps τ':=by
 cases dst with
 |none=>cases hp;exact hf
 |some d=>
  simp only[putA_some]at hp;split at hp
  ·rename_i hd
   cases hp;intro i;simp only[Act.put,upd_eq]
   by_cases hi:i=d
   ·subst hi
    rw[if_pos rfl];simp[Array.getD_eq_getD_getElem?,Array.getElem?_setIfInBounds_self_of_lt (by omega:i<a.tmps.size)];exact .inr hv
   ·rw[if_neg hi]
    have:(a.tmps.setIfInBounds d v).getD i Go.undef=a.tmps.getD i Go.undef:=by
     simp[Array.getD_eq_getD_getElem?,Array.getElem?_setIfInBounds_ne (fun e=>hi e.symm)]
    rw[this];exact hf i
  ·cases hp
theorem put_size(a:Act)(dst:Option Nat)(v:Value):(a.put dst v).tmps.size=a.tmps.size:=by cases dst<;>simp [Act.put]
theorem put_defers(a:Act)(dst:Option Nat)(v:Value):(a.put dst v).defers=a.defers:=by cases dst<;>simp [Act.put]
theorem St.put{A:Area}{ρ ρ':Rho}{w w':World}{a:Act}{τ τ':Fr}{g g':View}{N:Nat}(hs:St E A ρ w a τ g N s0)(hx:Ext (Own ρ g) ρ w (Own ρ' g') ρ' w')(hr:HR E.G A ρ' w' g'){dst:Option Nat}{v:Value}{y:AV}(hv:CR (Forb A ρ' g') ρ' w' v y)(hp:putA N τ dst y= .ok τ'):
  St E A ρ' w' (a.put dst v) τ' g' N s0:=
 ⟨hr,(hs.fr.ext hx).put hs.sz hv hp,by rw[put_size];exact hs.sz,by rw[put_defers];exact hs.de.ext hx⟩
theorem want_eq{F:Area}{ρ:Rho}{w:World}{tmps:Array Value}{τ:Fr}(hf:FRel F ρ w tmps τ)(ops:Array Oper)(o:Oper)(hg0:gtop ops τ o=false):Region.wanted o (yielded ops tmps)=wantA ops τ o:=by
 unfold gtop at hg0;unfold Region.wanted wantA
 cases hg:o.guard with
 |none=>rfl
 |some p=>
  obtain⟨j,want⟩:=p;rw[hg]at hg0;simp only at hg0;simp only[yielded]
  cases hd:(ops[j]?).bind (·.dst)with
  |none=>rfl
  |some d=>
   rw[hd]at hg0;simp only[Option.bind_some]
   have h:=(hf d).resolve_left fun⟨sz,l,e⟩=>by simp only[e]at hg0;cases hg0
   rw[Array.getD_eq_getD_getElem?]at h
   cases hv:tmps[d]? with
   |none=>
    rw[hv]at h;simp only[Option.getD_none]at h;generalize τ d=y at h
    cases h with
    |tup=>rfl
   |some v=>
    rw[hv]at h;simp only[Option.getD_some]at h;generalize τ d=y at h
    cases h<;>rfl
theorem gives_wp{o:Oper}{a:Act}{w w':World}{v:Value}{K:Act→World→Prop}{Q:Exit→Act→World→Prop}(hnd: ∀c,o.op≠ .defer c)(hg:Gives E.P (execOp a.eval o) w v w')(h:K (a.put o.dst v) w'):o.wpIn (fw rd) nn E.P a w K Q:=by
 unfold Oper.wpIn;refine⟨fun _ _=>trivial,?_⟩;rw[semAt_nd hnd]
 rcases hg with hg|⟨hg,rfl⟩
 ·rw[hg];exact h
 ·rw[hg];exact h
theorem enters_wp{o:Oper}{a:Act}{w w1:World}{f:FuncId}{args:Array Value}{R:Ending→World→Prop}{K:Act→World→Prop}{Q:Exit→Act→World→Prop}(hnd: ∀c,o.op≠ .defer c)(hrun:(execOp a.eval o).run E.P w= .ok (.enter f args) w1)(hc:Calls E.P f args w1 R)
  (h: ∀e w',R e w'→ ∃v,e= .returned v∧K (a.put o.dst v) w'):o.wpIn (fw rd) nn E.P a w K Q:=by
 unfold Oper.wpIn;refine⟨fun _ _=>trivial,?_⟩;rw[semAt_nd hnd,hrun,Oper.uponIn_enter];refine⟨fun h=>?_,?_⟩
 ·simp[fw,Fence.wide]at h
 refine CallsIn.mono (F:=fw rd) (show CallsIn Fence.wide _ _ _ _ _ _ from callsIn_wide.2 hc) (fun e w' he=>?_);obtain⟨v,rfl,hk⟩:=h e w' he;exact hk
theorem opA_nd{call:CallF}{f:FuncId}{τ:Fr}{h h':H}{o:Oper}{y:AV}(ho:opA E f call τ h o= .ok (y,h')): ∀c,o.op≠ .defer c:=by
 intro c hc;simp[opA,kindOf,hc,pureA,R.bind]at ho
theorem opA_wp(hS:Smet E.P E.S)(hC:COK E){call:CallF}(hcall:CallOK E call){f:FuncId}{τ:Fr}{h h':H}{o:Oper}{y:AV}(ho:opA E f call τ h o= .ok (y,h')){A:Area}{ρ:Rho}{w:World}{a:Act}{N:Nat}(hs:St E A ρ w a τ (view h) N s0)
  {K:Act→World→Prop} {Q:Exit→Act→World→Prop} (hK: ∀v w' ρ',Ext (Own ρ (view h)) ρ w (Own ρ' (view h')) ρ' w'→HR E.G A ρ' w' (view h')→CR (Forb A ρ' (view h')) ρ' w' v y→K (a.put o.dst v) w'):o.wpIn (fw rd) nn E.P a w K Q:=by
 have ho0:=ho
 unfold opA at ho
 cases hk:kindOf E o.op with
 |pure=>
  simp only[hk]at ho;obtain⟨v,hv,ho⟩:=R.bind_ok ho;cases ho;obtain⟨u,hu,hc⟩:=pureA_run hS hs.fr hs.hr.glob' hv hk;exact gives_wp (opA_nd ho0) (.inl hu) (hK u w ρ (Ext.refl _ _ _) hs.hr hc)
 |read=>
  simp only[hk]at ho;obtain⟨v,hv,ho⟩:=R.bind_ok ho;cases ho;obtain⟨u,hu,hc⟩:=readA_run hS hs.hr hs.fr hv (fun _ _=>rfl);exact gives_wp (opA_nd ho0) (.inl hu) (hK u w ρ (Ext.refl _ _ _) hs.hr hc)
 |light=>
  simp only[hk]at ho;obtain⟨v,hv,ho⟩:=R.bind_ok ho;cases ho
  cases hop:o.op with
  |call c=>
   obtain⟨callee,args,ats⟩:=c
   cases callee with
   |value g=>
    cases g with
    |func g=>
     simp only[lightA,hop]at hv;obtain⟨as,has,hv⟩:=R.bind_ok hv
     have hca:=evs_cr hs.fr hs.hr.glob' has
     split at hv
     ·rename_i r hr
      split at hv
      ·rename_i hnf
       cases hv
       have hargs:CRs (Forb A ρ (view h)) ρ w (args.map a.eval).toList as:=by rw[Array.toList_map];exact hca
       obtain⟨hen,hcalls⟩:=hC g as h y h (by simp only[hr,noF_thaw y hnf h]) A ρ w _ hs.hr hargs
       have hrun:(execOp a.eval o).run E.P w= .ok (.enter g (args.map a.eval)) w:=by
        unfold execOp;have:=hen w;simp[hop,resolve,Act.eval,Deferred.ofValue,invoke,this]
       refine enters_wp (opA_nd ho0) hrun hcalls ?_
       rintro e w' ⟨v,ρ',rfl,h1,h2,h3⟩;exact⟨v,rfl,hK v w' ρ' h1 h2 h3⟩
      ·cases hv
     ·cases hv
    |_=>simp only[lightA,hop]at hv;cases hv
   |builtin b=>simp only[lightA,hop]at hv;cases hv
   |invoke r m=>simp only[lightA,hop]at hv;cases hv
  |_=>simp only[lightA,hop]at hv;cases hv
 |alloc=>
  simp only[hk]at ho;obtain⟨⟨v,b⟩,hv,ho⟩:=R.bind_ok ho;cases ho;obtain⟨u,w',k,h1,h2,h3,h4⟩:=allocA_run hs.hr hs.fr (hs.hr.dom _ (view_length h)) hv;rw[←view_append]at h2 h3 h4;exact gives_wp (opA_nd ho0) (.inl h1) (hK u w' _ h2 h3 h4)
 |heavy=>
  simp only[hk]at ho;obtain⟨u,w',ρ',h1,h2,h3,h4⟩:=heavyA_run hS ho hs.hr hs.fr;exact gives_wp (opA_nd ho0) h1 (hK u w' ρ' h2 h3 h4)
 |call=>
  simp only[hk]at ho
  cases hop:o.op with
  |call c=>
   obtain⟨callee,args,ats⟩:=c
   cases callee with
   |value g=>
    simp only[callA,hop]at ho;obtain⟨vg,hvg,ho⟩:=R.bind_ok ho
    have hcg:=ev_cr hs.fr hs.hr.glob' hvg
    obtain⟨ug,hug⟩: ∃u,a.eval g=u:=⟨_,rfl⟩;rw[hug]at hcg
    cases hcg with
    | @clo fid first caps fa ca hf1 hc1 vs us g1 g2 g3 g4=>
      simp only at ho;obtain⟨as,has,ho⟩:=R.bind_ok ho
      have hca:=evs_cr hs.fr hs.hr.glob' has
      have hargs:CRs (Forb A ρ (view h)) ρ w (first++args.map a.eval++caps).toList (fa++as++ca):=by
       rw[Array.toList_append,Array.toList_append,Array.toList_map]
       have row: ∀{xs:Array Value} {l:List AV} {q:Nat→Value},xs.size=l.length→(∀(j:Nat) y,l[j]?=some y→xs[j]?=some (q j))→(∀(j:Nat) y,l[j]?=some y→CR (Forb A ρ (view h)) ρ w (q j) y)→CRs (Forb A ρ (view h)) ρ w xs.toList l:=by
        intro xs l q k1 k2 k3;refine⟨by simpa using k1,fun j v y hv hy=>?_⟩;rw[Array.getElem?_toList,k2 j y hy]at hv;cases hv;exact k3 j y hy
       exact((row hf1 g1 g2).append hca).append (row hc1 g3 g4)
      obtain⟨hen,hcalls⟩:(∀W,(callFunc fid (first++args.map a.eval++caps)).run E.P W= .ok (.enter fid (first++args.map a.eval++caps)) W)∧Calls E.P fid (first++args.map a.eval++caps) w fun e w'=> ∃v ρ',e= .returned v∧Ext (Own ρ (view h)) ρ w (Own ρ' (view h')) ρ' w'∧HR E.G A ρ' w' (view h')∧CR (Forb A ρ' (view h')) ρ' w' v y:=by
       split at ho
       ·rename_i r hr
        exact hC _ _ h y h' (by simp only[hr];exact ho) A ρ w _ hs.hr hargs
       ·exact hcall _ _ _ _ _ ho A ρ w _ hs.hr hargs
      have hrun:(execOp a.eval o).run E.P w= .ok (.enter fid (first++args.map a.eval++caps)) w:=by
       unfold execOp;have:=hen w
       rw[Array.append_assoc]at this ⊢
       simp[hop,resolve,hug,Deferred.ofValue,invoke,this]
      refine enters_wp (opA_nd ho0) hrun hcalls ?_
      rintro e w' ⟨v,ρ',rfl,h1,h2,h3⟩;exact⟨v,rfl,hK v w' ρ' h1 h2 h3⟩
    |_=>cases ho
   |builtin b=>simp only[callA,hop]at ho;cases ho
   |invoke r m=>simp only[callA,hop]at ho;cases ho
  |_=>simp only[callA,hop]at ho;cases ho
theorem stepA_wp(hS:Smet E.P E.S)(hC:COK E){call:CallF}(hcall:CallOK E call){f:FuncId}{ops:Array Oper}{τ τ':Fr}{h h':H}{o:Oper}{N:Nat}(ho:stepA E f call N ops τ h o= .ok (τ',h')){A:Area}{ρ:Rho}{w:World}{a:Act}(hs:St E A ρ w a τ (view h) N s0)
  {K:Act→World→Prop} {Q:Exit→Act→World→Prop} (hK: ∀a' w' ρ',Ext (Own ρ (view h)) ρ w (Own ρ' (view h')) ρ' w'→St E A ρ' w' a' τ' (view h') N s0→K a' w'):
  if Region.wanted o (yielded ops a.tmps)=true then o.wpIn (fw rd) nn E.P a w K Q else K (a.put o.dst Go.undef) w:=by
 unfold stepA at ho;split at ho
 ·cases ho
 rename_i hgt;rw[want_eq hs.fr ops o (by simpa using hgt)];split at ho
 ·rename_i hw
  rw[if_pos hw];split at ho
  ·rename_i v h2 hop
   obtain⟨τ2,hp,ho⟩:=R.bind_ok ho;cases ho;exact opA_wp hS hC hcall hop hs (fun v w' ρ' h1 h2 h3=>hK _ _ _ h1 (hs.put h1 h2 h3 hp))
  ·cases ho
 ·rename_i hw
  rw[if_neg hw];obtain⟨τ2,hp,ho⟩:=R.bind_ok ho;cases ho;exact hK _ _ ρ (Ext.refl _ _ _) (hs.put (Ext.refl _ _ _) hs.hr undef_cr hp)
theorem opsA_wp(hS:Smet E.P E.S)(hC:COK E){call:CallF}(hcall:CallOK E call){f:FuncId}{ops:Array Oper}{N:Nat}{A:Area}{Q:Exit→Act→World→Prop}{τ':Fr}{h':H}: ∀(m k:Nat) (τ:Fr) (h:H) (ρ:Rho) (w:World) (a:Act),k+m=ops.size→
  opsA E f call N ops (ops.toList.drop k) τ h= .ok (τ',h')→St E A ρ w a τ (view h) N s0→
  (∀a' w' ρ',Ext (Own ρ (view h)) ρ w (Own ρ' (view h')) ρ' w'→St E A ρ' w' a' τ' (view h') N s0→Q .normal a' w')→wpOpsIn (fw rd) nn E.P ops Q (List.range' k m) a w
 |0,k,τ,h,ρ,w,a,hk,ho,hs,hQ=>by
  rw[List.drop_eq_nil_of_le (by simp;omega)]at ho;cases ho;exact hQ a w ρ (Ext.refl _ _ _) hs
 |m+1,k,τ,h,ρ,w,a,hk,ho,hs,hQ=>by
  have hlt:k<ops.toList.length:=by simp;omega
  rw[List.drop_eq_getElem_cons hlt]at ho;obtain⟨⟨τ1,h1⟩,hst,ho⟩:=R.bind_ok ho;rw[List.range'_succ]
  have hget:ops[k]?=some ops.toList[k]:=by simp[Array.getElem?_eq_getElem (by simpa using hlt:k<ops.size)]
  simp only[wpOpsIn,hget];have:=stepA_wp (rd:=rd) (nn:=nn) (Q:=Q) hS hC hcall hst hs (K:=wpOpsIn (fw rd) nn E.P ops Q (List.range' (k+1) m)) (fun a1 w1 ρ1 hx hs1=>opsA_wp hS hC hcall m (k+1) τ1 h1 ρ1 w1 a1 (by omega) ho hs1 (fun a2 w2 ρ2 hx2 hs2=>hQ a2 w2 ρ2 (hx.trans hx2) hs2));split
  ·rename_i hw
   rw[if_pos hw]at this;exact this
  ·rename_i hw
   rw[if_neg hw]at this;exact⟨fun _ _=>trivial,this⟩
end
end Go.Proofs.YtcocmlmligjjcaaGreatDoor.AM
namespace Go.Proofs.YtcocmlmligjjcaaGreatDoor.AM
set_option linter.unusedSectionVars false
set_option linter.unusedVariables false
set_option linter.unusedSimpArgs false
section
variable {E:Env}
theorem ev_congr{τ σ:Fr}{x:Operand}(h: ∀t,x= .tmp t→τ t=σ t):ev E τ x=ev E σ x:=by
 cases x<;>simp only[ev]
 rw[h _ rfl]
theorem evs_congr{τ σ:Fr}: ∀{xs:List Operand},(∀t, .tmp t∈xs→τ t=σ t)→evs E τ xs=evs E σ xs
 | [],h=>rfl
 |x::xs,h=>by
  simp only[evs];rw[ev_congr (τ:=τ) (σ:=σ) (fun t ht=>h t (by simp[ht])),evs_congr (fun t ht=>h t (List.mem_cons_of_mem _ ht))]
theorem evo_congr{τ σ:Fr}{x:Option Operand}(h: ∀t,x=some (.tmp t)→τ t=σ t):evo E τ x=evo E σ x:=by
 cases x with
 |none=>rfl
 |some x=>simp only[evo];rw[ev_congr (fun t ht=>h t (by rw[ht]))]
def Agree(τ σ:Fr)(o:Oper):Prop:= ∀t, .tmp t∈o.op.operands→τ t=σ t
theorem opA_congr{f:FuncId}{call:CallF}{τ σ:Fr}{h:H}{o:Oper}(ha:Agree τ σ o):opA E f call τ h o=opA E f call σ h o:=by
 unfold Agree at ha
 have key:pureA E τ o=pureA E σ o∧(∀h,readA E τ h o=readA E σ h o)∧lightA E τ o=lightA E σ o∧(∀id,allocA E f τ id o=allocA E f σ id o)∧(∀h,heavyA E f τ h o=heavyA E f σ h o)∧(∀h,callA E call τ h o=callA E call σ h o):=by
  have hev: ∀x,x∈o.op.operands→ev E τ x=ev E σ x:=fun x hx=>ev_congr (fun t ht=>ha t (ht▸hx))
  have hevs: ∀xs:List Operand,(∀x,x∈xs→x∈o.op.operands)→evs E τ xs=evs E σ xs:=fun xs hx=>evs_congr (fun t ht=>ha t (hx _ ht))
  have hevo: ∀x:Option Operand,(∀y,x=some y→y∈o.op.operands)→evo E τ x=evo E σ x:=fun x hx=>evo_congr (fun t ht=>ha t (hx _ ht))
  cases ho:o.op<;>rw [ho]at ha hev hevs hevo<;>simp only[Op.operands]at ha hev hevs hevo
  case call c=>
   obtain⟨callee,args,ats⟩:=c;simp only[Call.operands]at ha;have hargs:evs E τ args.toList=evs E σ args.toList:=evs_congr (fun t ht=>ha t (by cases callee<;>simp [Array.mem_toList_iff.1 ht]))
   cases callee with
   |value g=>
    have hg:ev E τ g=ev E σ g:=ev_congr (fun t ht=>ha t (by simp[ht]));simp only[pureA,readA,lightA,allocA,heavyA,callA,ho,hargs,hg,and_self,implies_true]
    cases g<;>simp [hargs]
   |builtin b=>cases b<;>simp only[pureA,readA,lightA,allocA,heavyA,callA,ho,hargs,and_self,implies_true]
   |invoke r m=>simp only[pureA,readA,lightA,allocA,heavyA,callA,ho,and_self,implies_true]
  case move x=>
   have h0_:=hev x (by simp)
   simp only[pureA,readA,lightA,allocA,heavyA,callA,ho,and_self,implies_true,h0_]
  case assign x=>
   have h0_:=hev x (by simp)
   simp only[pureA,readA,lightA,allocA,heavyA,callA,ho,and_self,implies_true,h0_]
  case box t x=>
   have h0_:=hev x (by simp)
   simp only[pureA,readA,lightA,allocA,heavyA,callA,ho,and_self,implies_true,h0_]
  case load t x=>
   have h0_:=hev x (by simp)
   simp only[pureA,readA,lightA,allocA,heavyA,callA,ho,and_self,implies_true,h0_]
  case nilCheck x=>
   have h0_:=hev x (by simp)
   simp only[pureA,readA,lightA,allocA,heavyA,callA,ho,and_self,implies_true,h0_]
  case unOp p t x=>
   have h0_:=hev x (by simp)
   simp only[pureA,readA,lightA,allocA,heavyA,callA,ho,and_self,implies_true,h0_]
  case convert s d x=>
   have h0_:=hev x (by simp)
   simp only[pureA,readA,lightA,allocA,heavyA,callA,ho,and_self,implies_true,h0_]
  case fieldAddr t x f=>
   have h0_:=hev x (by simp)
   simp only[pureA,readA,lightA,allocA,heavyA,callA,ho,and_self,implies_true,h0_]
  case field t x f=>
   have h0_:=hev x (by simp)
   simp only[pureA,readA,lightA,allocA,heavyA,callA,ho,and_self,implies_true,h0_]
  case extract x i=>
   have h0_:=hev x (by simp)
   simp only[pureA,readA,lightA,allocA,heavyA,callA,ho,and_self,implies_true,h0_]
  case pick c a b=>
   have h0_:=hev c (by simp)
   have h1_:=hev a (by simp)
   have h2_:=hev b (by simp)
   simp only[pureA,readA,lightA,allocA,heavyA,callA,ho,and_self,implies_true,h0_,h1_,h2_]
  case store t a v=>
   have h0_:=hev a (by simp)
   have h1_:=hev v (by simp)
   simp only[pureA,readA,lightA,allocA,heavyA,callA,ho,and_self,implies_true,h0_,h1_]
  case makeSlice t a v=>
   have h0_:=hev a (by simp)
   have h1_:=hev v (by simp)
   simp only[pureA,readA,lightA,allocA,heavyA,callA,ho,and_self,implies_true,h0_,h1_]
  case indexAddr t a v=>
   have h0_:=hev a (by simp)
   have h1_:=hev v (by simp)
   simp only[pureA,readA,lightA,allocA,heavyA,callA,ho,and_self,implies_true,h0_,h1_]
  case index t a v=>
   have h0_:=hev a (by simp)
   have h1_:=hev v (by simp)
   simp only[pureA,readA,lightA,allocA,heavyA,callA,ho,and_self,implies_true,h0_,h1_]
  case lookup t a v q=>
   have h0_:=hev a (by simp)
   have h1_:=hev v (by simp)
   simp only[pureA,readA,lightA,allocA,heavyA,callA,ho,and_self,implies_true,h0_,h1_]
  case binOp p t a v u=>
   have h0_:=hev a (by simp)
   have h1_:=hev v (by simp)
   simp only[pureA,readA,lightA,allocA,heavyA,callA,ho,and_self,implies_true,h0_,h1_]
  case mapUpdate t a b v=>
   have h0_:=hev a (by simp)
   have h1_:=hev b (by simp)
   have h2_:=hev v (by simp)
   simp only[pureA,readA,lightA,allocA,heavyA,callA,ho,and_self,implies_true,h0_,h1_,h2_]
  case insert t a b v=>
   have h0_:=hev a (by simp)
   have h1_:=hev b (by simp)
   have h2_:=hev v (by simp)
   simp only[pureA,readA,lightA,allocA,heavyA,callA,ho,and_self,implies_true,h0_,h1_,h2_]
  case build t parts=>
   have h0_:=hevs (parts.toList.map (·.2)) (fun x hx=>by simp at hx ⊢;grind)
   simp only[pureA,readA,lightA,allocA,heavyA,callA,ho,and_self,implies_true,h0_]
  case buildSlice t n parts=>
   have h0_:=hevs (parts.toList.map (·.2)) (fun x hx=>by simp at hx ⊢;grind)
   simp only[pureA,readA,lightA,allocA,heavyA,callA,ho,and_self,implies_true,h0_]
  case makeFunc fn first caps=>
   have h0_:=hevs first.toList (fun x hx=>by simp at hx ⊢;grind)
   have h1_:=hevs caps.toList (fun x hx=>by simp at hx ⊢;grind)
   simp only[pureA,readA,lightA,allocA,heavyA,callA,ho,and_self,implies_true,h0_,h1_]
  case slice t x lo hi mx=>
   have h0_:=hev x (by simp)
   have h1_:=hevo lo (fun x hx=>by subst hx;simp)
   have h2_:=hevo hi (fun x hx=>by subst hx;simp)
   have h3_:=hevo mx (fun x hx=>by subst hx;simp)
   simp only[pureA,readA,lightA,allocA,heavyA,callA,ho,and_self,implies_true,h0_,h1_,h2_,h3_]
  case makeMap t r=>cases r<;>simp only[pureA,readA,lightA,allocA,heavyA,callA,ho,and_self,implies_true]
  all_goals simp only[pureA,readA,lightA,allocA,heavyA,callA,ho,and_self,implies_true]
 unfold opA;obtain⟨h1,h2,h3,h4,h5,h6⟩:=key;rw[h1,h2,h3,h4,h5,h6]
end
end Go.Proofs.YtcocmlmligjjcaaGreatDoor.AM
namespace Go.Proofs.YtcocmlmligjjcaaGreatDoor.AM
set_option linter.unusedSectionVars false
set_option linter.unusedVariables false
set_option linter.unusedSimpArgs false
section
variable {E:Env} {f:FuncId} {call:CallF} {N:Nat} {ops:Array Oper}
theorem trace_spec: ∀{os:List Oper} {id:Nat} {τ:Fr} {h:H} {tr:List (Fr×H)} {lt:Fr} {lh:H},traceA E f call N ops os id τ h= .ok (tr,(lt,lh))→
  tr.length=os.length∧frameAt tr lt 0=τ∧heapAt tr lh 0=h∧(∀i o,os[i]?=some o→stepD E f call N ops (id+alsOf E (os.take i)) (frameAt tr lt i) (heapAt tr lh i) o= .ok (frameAt tr lt (i+1),heapAt tr lh (i+1)))
 | [],id,τ,h,tr,lt,lh,ht=>by cases ht;exact⟨rfl,rfl,rfl,fun i o h=>by simp at h⟩
 |o::os,id,τ,h,tr,lt,lh,ht=>by
  obtain⟨⟨τ1,h1⟩,hs,ht⟩:=R.bind_ok ht;obtain⟨⟨l,r⟩,hr,ht⟩:=R.bind_ok ht;cases ht;obtain⟨k1,k2,k3,k4⟩:=trace_spec hr;refine⟨by simp[k1],rfl,rfl,fun i o' ho=>?_⟩
  cases i with
  |zero=>
   simp at ho;subst ho
   have e1:frameAt ((τ,h)::l) lt 1=frameAt l lt 0:=by simp[frameAt]
   have e2:heapAt ((τ,h)::l) lh 1=heapAt l lh 0:=by simp[heapAt]
   show stepD E f call N ops id τ h o= .ok (frameAt ((τ,h)::l) lt 1,heapAt ((τ,h)::l) lh 1);rw[e1,e2,k2,k3];exact hs
  |succ i=>
   have:=k4 i o' (by simpa using ho)
   have he:id+alsOf E ((o::os).take (i+1))=(if isAl E o then id+1 else id)+alsOf E (os.take i):=by
    simp only[alsOf,List.take_succ_cons,List.filter_cons]
    split<;>simp<;>omega
   rw[he]
   simpa [frameAt,heapAt]using this
theorem frameAt_last{tr:List (Fr×H)}{lt:Fr}{n:Nat}(h:tr.length=n):frameAt tr lt n=lt:=by simp[frameAt,←h]
theorem heapAt_last{tr:List (Fr×H)}{lh:H}{n:Nat}(h:tr.length=n):heapAt tr lh n=lh:=by simp[heapAt,←h]
theorem foldl_bits(acc:List Nat)(i:Nat): ∀(es:List Edge) (s:Nat),(es.foldl (fun s e=>if Region.binds .any e then s|||2 ^ e.on|||acc.getD e.on 0 else s) s).testBit i=true→
  s.testBit i=true∨ ∃e∈es,Region.binds .any e=true∧(e.on=i∨(acc.getD e.on 0).testBit i=true)
 | [],s,h=> .inl h
 |e::es,s,h=>by
  rw[List.foldl_cons]at h
  rcases foldl_bits acc i es _ h with h1|⟨e',he,h1⟩
  ·split at h1
   ·rename_i hb
    simp only[Nat.testBit_or,Bool.or_eq_true,Nat.testBit_two_pow,decide_eq_true_eq]at h1
    rcases h1 with(h1|h1)|h1
    ·exact .inl h1
    ·exact .inr ⟨e,List.mem_cons_self ..,hb, .inl h1⟩
    ·exact .inr ⟨e,List.mem_cons_self ..,hb, .inr h1⟩
   ·exact .inl h1
  ·exact .inr ⟨e',List.mem_cons_of_mem _ he,h1⟩
theorem maskOf_bits{acc:List Nat}{o:Oper}{i:Nat}(h:(maskOf acc o).testBit i=true): ∃e∈o.after,Region.binds .any e=true∧(e.on=i∨(acc.getD e.on 0).testBit i=true):=by
 rcases foldl_bits acc i o.after.toList 0 h with h|⟨e,he,h⟩
 ·simp at h
 ·exact⟨e,Array.mem_toList_iff.1 he,h⟩
theorem masks_spec: ∀(os:List Oper) (acc:List Nat),(masksA os acc).length=acc.length+os.length∧(masksA os acc).take acc.length=acc∧
  ∀k o,os[k]?=some o→(masksA os acc)[acc.length+k]?=some (maskOf ((masksA os acc).take (acc.length+k)) o)
 | [],acc=>⟨rfl,by simp[masksA],fun k o h=>by simp at h⟩
 |o::os,acc=>by
  obtain⟨h1,h2,h3⟩:=masks_spec os (acc++ [maskOf acc o]);simp only[List.length_append,List.length_cons,List.length_nil]at h1 h2 h3
  have h4:(masksA (o::os) acc).take acc.length=acc:=by
   have:=congrArg (List.take acc.length) h2;rw[List.take_take,Nat.min_eq_left (by omega)]at this;simp only[masksA];rw[this];simp
  refine⟨by simp only[masksA,List.length_cons];omega,h4,fun k o' ho=>?_⟩
  cases k with
  |zero=>
   simp at ho;subst ho;rw[Nat.add_zero,h4];simp only[masksA]
   have:((masksA os (acc++ [maskOf acc o])).take (acc.length+1))[acc.length]?=some (maskOf acc o):=by rw[h2];simp
   rw[List.getElem?_take,if_pos (by omega)]at this;exact this
  |succ k=>
   have:=h3 k o' (by simpa using ho);simp only[masksA];rw[show acc.length+(k+1)=acc.length+1+k by omega];exact this
theorem opAt_get{i:Nat}(h:i<ops.size):ops[i]?=some (opAt ops i):=by
 simp[opAt,Array.getD_eq_getD_getElem?,Array.getElem?_eq_getElem h]
def Closed(ops:Array Oper)(D:Nat→Prop):Prop:= ∀j,j<ops.size→D j→ ∀e∈(opAt ops j).after,Region.binds .any e=true→D e.on
structure Masked (ops:Array Oper) (ms:List Nat):Prop where
 bit: ∀j,j<ops.size→ ∀i,(ms.getD j 0).testBit i=true→ ∃e∈(opAt ops j).after,Region.binds .any e=true∧e.on<j∧(e.on=i∨(ms.getD e.on 0).testBit i=true)
 low: ∀j,j<ops.size→ ∀e∈(opAt ops j).after,Region.binds .any e=true→e.on<j
theorem masked_of(h4: ∀j,j<ops.size→ ∀e∈(opAt ops j).after,Region.binds .any e=true→e.on<j):Masked ops (masksA ops.toList []):=by
 refine⟨fun j hj i hb=>?_,h4⟩;obtain⟨h1,h2,h3⟩:=masks_spec ops.toList []
 have h5:=h3 j (opAt ops j) (by rw[Array.getElem?_toList];exact opAt_get hj)
 simp only[List.length_nil,Nat.zero_add]at h5
 have hg:(masksA ops.toList []).getD j 0=maskOf ((masksA ops.toList []).take j) (opAt ops j):=by rw[List.getD_eq_getElem?_getD,h5];rfl
 rw[hg]at hb;obtain⟨e,he,hbi,hcase⟩:=maskOf_bits hb
 have hlt:=h4 j hj e he hbi
 refine⟨e,he,hbi,hlt,hcase.imp id fun h=>?_⟩;rw[List.getD_eq_getElem?_getD,List.getElem?_take,if_pos hlt,←List.getD_eq_getElem?_getD]at h;exact h
theorem Masked.closed{ms:List Nat}(hm:Masked ops ms){D:Nat→Prop}(hc:Closed ops D): ∀j,j<ops.size→D j→ ∀i,(ms.getD j 0).testBit i=true→D i:=by
 intro j
 induction j using Nat.strongRecOn with
 |_ j ih=>
  intro hj hd i hb;obtain⟨e,he,hbi,hlt,hcase⟩:=hm.bit j hj i hb;have:=hc j hj hd e he hbi
  rcases hcase with rfl|h
  ·exact this
  ·exact ih e.on hlt (by omega) this i h
theorem Masked.ready{ms:List Nat}(hm:Masked ops ms){D:Nat→Prop}(hc:Closed ops D){j:Nat}(hj:j<ops.size)(hr: ∀e∈(opAt ops j).after,Region.binds .any e=true→D e.on){i:Nat}(hb:(ms.getD j 0).testBit i=true):D i:=by
 obtain⟨e,he,hbi,hlt,hcase⟩:=hm.bit j hj i hb
 rcases hcase with rfl|h
 ·exact hr e he hbi
 ·exact hm.closed hc e.on (by omega) (hr e he hbi) i h
def mentions(ops:Array Oper)(o:Oper)(t:Tmp):Prop:=t∈o.looksAt ops∨o.dst=some t
structure DrawOk (E:Env) (ops:Array Oper) (ms:List Nat):Prop where
 msk:Masked ops ms
 oo: ∀i j,i<j→j<ops.size→isO E (opAt ops i)=true→isO E (opAt ops j)=true→isAl E (opAt ops j)=false→(ms.getD j 0).testBit i=true
 tt: ∀i j t,i<j→j<ops.size→((opAt ops i).dst=some t∧mentions ops (opAt ops j) t∨(opAt ops j).dst=some t∧mentions ops (opAt ops i) t)→(ms.getD j 0).testBit i=true
theorem drawS_ok(h:drawS E ops (masksA ops.toList [])=true):DrawOk E ops (masksA ops.toList []):=by
 have key: ∀j,j<ops.size→((opAt ops j).after.toList.all fun e=>!Region.binds .any e||decide (e.on<j))=true∧
   ∀i,i<j→(((masksA ops.toList []).getD j 0).testBit i||(freeB E (opAt ops i) (opAt ops j)&&apartB ops (opAt ops i) (opAt ops j)))=true:=by
  intro j hj;have:=List.all_eq_true.1 h j (List.mem_range.2 hj);rw[Bool.and_eq_true]at this;exact⟨this.1,fun i hi=>List.all_eq_true.1 this.2 i (List.mem_range.2 hi)⟩
 refine⟨masked_of fun j hj e he hb=>?_,fun i j hij hj hi ho hal=>?_,fun i j t hij hj hc=>?_⟩
 ·have:=List.all_eq_true.1 (key j hj).1 e (Array.mem_toList_iff.2 he)
  simpa [hb]using this
 ·have:=(key j hj).2 i hij
  rw[freeB,hi,ho,hal]at this
  simpa using this
 ·have:=(key j hj).2 i hij
  rw[Bool.or_eq_true,Bool.and_eq_true]at this
  rcases this with h1|⟨_,h1⟩
  ·exact h1
  ·exfalso
   rw[apartB,Bool.and_eq_true]at h1
   rcases hc with⟨hd,hm⟩|⟨hd,hm⟩
   ·have h2:=h1.1
    rw[hd]at h2;simp only[Bool.and_eq_true,Bool.not_eq_true',bne_iff_ne,ne_eq]at h2
    rcases hm with hm|hm
    ·have:=List.contains_iff_mem.2 hm;rw[h2.1]at this;cases this
    ·exact h2.2 hm
   ·rcases hm with hm|hm
    ·have h2:=h1.2
     rw[hd]at h2;simp only[Bool.not_eq_true']at h2;have:=List.contains_iff_mem.2 hm;rw[h2]at this;cases this
    ·have h2:=h1.1
     rw[hm]at h2;simp only[Bool.and_eq_true,Bool.not_eq_true',bne_iff_ne,ne_eq]at h2;exact h2.2 hd
theorem bytes_eq{a b:ByteArray}(h:(a==b)=true):a=b:=by
 rw[beq_toListBytes]at h;have:=eq_of_beq h;rw[ByteArray.toList_eq,ByteArray.toList_eq]at this;obtain⟨⟨x⟩⟩:=a;obtain⟨⟨y⟩⟩:=b;simp at this;rw[this]
theorem sames_eq: ∀l:List AV,(∀x,x∈l→ ∀y,same x y=true→x=y)→ ∀l',sames l l'=true→l=l'
 | [],_,l',h=>by cases l'<;>simp [sames]at h;rfl
 |x::xs,ih,l',h=>by
  cases l' with
  |nil=>simp [sames]at h
  |cons y ys=>
   simp only[sames,Bool.and_eq_true]at h;rw[ih x (List.mem_cons_self ..) y h.1,sames_eq xs (fun z hz=>ih z (List.mem_cons_of_mem _ hz)) ys h.2]
theorem same_eq(x:AV): ∀y,same x y=true→x=y:=by
 refine AV.rec (motive_1:=fun x=> ∀y,same x y=true→x=y) (motive_2:=fun l=> ∀l',sames l l'=true→l=l') ?_ ?_ ?_ ?_ ?_ ?_ ?_ ?_ ?_ ?_ ?_ ?_ ?_ ?_ ?_ ?_ ?_ ?_ ?_ ?_ ?_ x
 all_goals intros
 all_goals first
  |(rename_i y h;cases y<;>simp [same]at h<;>simp_all;done)
  |skip
 ·rename_i l o ih y h;cases y<;>simp [same]at h;rw[ih _ h.1,h.2]
 ·rename_i s l t ih y h;cases y<;>simp [same]at h;rw[h.1.1,ih _ h.1.2,h.2]
 ·rename_i s l ih y h;cases y<;>simp [same]at h;rw[h.1,ih _ h.2]
 ·rename_i g l m ih1 ih2 y h;cases y<;>simp [same]at h;rw[h.1.1,ih1 _ h.1.2,ih2 _ h.2]
 ·rename_i l ih y h;cases y<;>simp [same]at h;rw[ih _ h]
 ·rename_i l ih y h;cases y<;>simp [same]at h;rw[ih _ h]
 ·rename_i l' h;cases l'<;>simp [sames]at h;rfl
 ·rename_i x xs h1 h2 l' h
  cases l' with
  |nil=>simp [sames]at h
  |cons y ys=>simp only[sames,Bool.and_eq_true]at h;rw[h1 _ h.1,h2 _ h.2]
theorem sames_eq'{l l':List AV}(h:sames l l'=true):l=l':=sames_eq l (fun x _=>same_eq x) l' h
theorem samePairs_eq: ∀{l l':List (AV×AV)},samePairs l l'=true→l=l'
 | [],[],h=>rfl
 |x::xs,y::ys,h=>by
  simp only[samePairs,Bool.and_eq_true]at h;rw[Prod.ext (same_eq _ _ h.1.1) (same_eq _ _ h.1.2),samePairs_eq h.2]
 | [],_::_,h=>by simp[samePairs]at h
 |_::_,[],h=>by simp[samePairs]at h
theorem sameBlk_eq{x y:Option Blk}(h:sameBlk x y=true):x=y:=by
 unfold sameBlk at h;split at h
 ·rfl
 ·rw[sames_eq' h]
 ·simp only[Bool.and_eq_true,decide_eq_true_eq]at h;rw[h.1,sames_eq' h.2]
 ·rw[samePairs_eq h]
 ·rfl
 ·rfl
 ·rfl
 ·cases h
end
end Go.Proofs.YtcocmlmligjjcaaGreatDoor.AM
namespace Go.Proofs.YtcocmlmligjjcaaGreatDoor.AM
set_option linter.unusedSectionVars false
set_option linter.unusedVariables false
set_option linter.unusedSimpArgs false
section
variable {E:Env} {s0 nn:Nat} {rd:Option Nat} {f:FuncId} {call:CallF} {N:Nat} {ops:Array Oper}
theorem quiet_wp(hS:Smet E.P E.S)(hC:COK E){τ:Fr}{h h':H}{o:Oper}{y:AV}(ho:opA E f call τ h o= .ok (y,h'))(hk:isO E o=false){A:Area}{ρ:Rho}{w:World}{a:Act}{hp:H}(hr:HR E.G A ρ w (view hp))(hf:FRel (Forb A ρ (view hp)) ρ w a.tmps τ)
  (hd:kindOf E o.op= .read→ ∀b,readDep E τ o=some b→hp[b]?=h[b]?) {K:Act→World→Prop} {Q:Exit→Act→World→Prop}
  (hK:h'=h→ ∀v w' ρ',Ext (Own ρ (view hp)) ρ w (Own ρ' (view hp)) ρ' w'→HR E.G A ρ' w' (view hp)→CR (Forb A ρ' (view hp)) ρ' w' v y→K (a.put o.dst v) w'):o.wpIn (fw rd) nn E.P a w K Q:=by
 have ho0:=ho
 unfold opA at ho
 cases hkk:kindOf E o.op with
 |pure=>
  simp only[hkk]at ho;obtain⟨v,hv,ho⟩:=R.bind_ok ho;cases ho;obtain⟨u,hu,hc⟩:=pureA_run hS hf hr.glob' hv hkk;exact gives_wp (opA_nd ho0) (.inl hu) (hK rfl u w ρ (Ext.refl _ _ _) hr hc)
 |read=>
  simp only[hkk]at ho;obtain⟨v,hv,ho⟩:=R.bind_ok ho;cases ho;obtain⟨u,hu,hc⟩:=readA_run hS hr hf hv (fun b hb=>hd hkk b hb);exact gives_wp (opA_nd ho0) (.inl hu) (hK rfl u w ρ (Ext.refl _ _ _) hr hc)
 |light=>
  simp only[hkk]at ho;obtain⟨v,hv,ho⟩:=R.bind_ok ho;cases ho
  cases hop:o.op with
  |call c=>
   obtain⟨callee,args,ats⟩:=c
   cases callee with
   |value g=>
    cases g with
    |func g=>
     simp only[lightA,hop]at hv;obtain⟨as,has,hv⟩:=R.bind_ok hv
     have hca:=evs_cr hf hr.glob' has
     split at hv
     ·rename_i r hrr
      split at hv
      ·rename_i hnf
       cases hv
       have hargs:CRs (Forb A ρ (view hp)) ρ w (args.map a.eval).toList as:=by rw[Array.toList_map];exact hca
       obtain⟨hen,hcalls⟩:=hC g as hp y hp (by simp only[hrr,noF_thaw y hnf hp]) A ρ w _ hr hargs
       have hrun:(execOp a.eval o).run E.P w= .ok (.enter g (args.map a.eval)) w:=by
        unfold execOp;have:=hen w;simp[hop,resolve,Act.eval,Deferred.ofValue,invoke,this]
       refine enters_wp (opA_nd ho0) hrun hcalls ?_
       rintro e w' ⟨v,ρ',rfl,h1,h2,h3⟩;exact⟨v,rfl,hK rfl v w' ρ' h1 h2 h3⟩
      ·cases hv
     ·cases hv
    |_=>simp only[lightA,hop]at hv;cases hv
   |builtin b=>simp only[lightA,hop]at hv;cases hv
   |invoke r m=>simp only[lightA,hop]at hv;cases hv
  |_=>simp only[lightA,hop]at hv;cases hv
 |alloc=>simp [isO,hkk]at hk
 |heavy=>simp [isO,hkk]at hk
 |call=>simp [isO,hkk]at hk
theorem putA_other{τ τ':Fr}{dst:Option Nat}{v:AV}(h:putA N τ dst v= .ok τ'){t:Nat}(ht:dst≠some t):τ' t=τ t:=by
 cases dst with
 |none=>cases h;rfl
 |some d=>
  simp only[putA_some]at h
  split at h<;>cases h
  simp only[upd_eq];rw[if_neg];intro e;exact ht (by rw[e])
theorem stepA_other{E:Env}{f:FuncId}{call:CallF}{N:Nat}{ops:Array Oper}{τ τ':Fr}{g g':H}{o:Oper}(h:stepA E f call N ops τ g o= .ok (τ',g')){t:Nat}(ht:o.dst≠some t):τ' t=τ t:=by
 unfold stepA at h;split at h
 ·cases h
 ·split at h
  ·split at h
   ·obtain⟨a,h1,h2⟩:=R.bind_ok h
    cases h2;exact putA_other h1 ht
   ·cases h
  ·obtain⟨a,h1,h2⟩:=R.bind_ok h
   cases h2;exact putA_other h1 ht
theorem opsA_other{E:Env}{f:FuncId}{call:CallF}{N:Nat}{ops:Array Oper}{τ':Fr}{g':H}{t:Nat}: ∀{l:List Oper} {τ:Fr} {g:H},opsA E f call N ops l τ g= .ok (τ',g')→(∀o,o∈l→o.dst≠some t)→τ' t=τ t:=by
 intro l
 induction l with
 |nil=>intro τ g h _;cases h;rfl
 |cons o l ih=>
  intro τ g h ht;simp only[opsA]at h;obtain⟨⟨τ1,g1⟩,h1,h2⟩:=R.bind_ok h;exact(ih h2 fun x hx=>ht x (List.mem_cons_of_mem _ hx)).trans (stepA_other h1 (ht o (List.mem_cons_self ..)))
theorem stepD_other{E:Env}{f:FuncId}{call:CallF}{N:Nat}{ops:Array Oper}{id:Nat}{τ τ':Fr}{g g':H}{o:Oper}(h:stepD E f call N ops id τ g o= .ok (τ',g')){t:Nat}(ht:o.dst≠some t):τ' t=τ t:=by
 unfold stepD at h;split at h
 ·split at h
  ·cases h
  ·split at h
   ·split at h
    ·split at h
     ·obtain⟨a,h1,h2⟩:=R.bind_ok h
      cases h2;exact putA_other h1 ht
     ·cases h
    ·cases h
   ·obtain⟨a,h1,h2⟩:=R.bind_ok h
    cases h2;exact putA_other h1 ht
 ·exact stepA_other h ht
theorem traceA_other{E:Env}{f:FuncId}{call:CallF}{N:Nat}{ops:Array Oper}{tr:List (Fr×H)}{τ':Fr}{g':H}{t:Nat}: ∀{l:List Oper} {id:Nat} {τ:Fr} {g:H} {tr:List (Fr×H)},traceA E f call N ops l id τ g= .ok (tr,(τ',g'))→(∀o,o∈l→o.dst≠some t)→τ' t=τ t:=by
 intro l
 induction l with
 |nil=>intro id τ g tr h _;cases h;rfl
 |cons o l ih=>
  intro id τ g tr h ht;simp only[traceA]at h;obtain⟨⟨τ1,g1⟩,h1,h2⟩:=R.bind_ok h;obtain⟨⟨tr1,r⟩,h3,h4⟩:=R.bind_ok h2;cases h4;exact(ih h3 fun x hx=>ht x (List.mem_cons_of_mem _ hx)).trans (stepD_other h1 (ht o (List.mem_cons_self ..)))
theorem regionA_other{E:Env}{f:FuncId}{call:CallF}{N:Nat}{ops:Array Oper}{draw:Bool}{τ τ':Fr}{g g':H}(h:regionA E f call N ops draw τ g= .ok (τ',g')){t:Nat}(ht: ∀o,o∈ops.toList→o.dst≠some t):τ' t=τ t:=by
 cases draw with
 |false=>exact opsA_other h ht
 |true=>
  simp only[regionA]at h;obtain⟨⟨tr,τ1,g1⟩,h1,h2⟩:=R.bind_ok h;have h3:=traceA_other (tr:=tr) h1 ht;simp only at h2;split at h2
  ·split at h2
   ·split at h2
    ·split at h2
     ·cases h2;exact h3
     ·cases h2
    ·cases h2
   ·cases h2
  ·cases h2
theorem lo_le{l:List Oper}{o:Oper}{d:Nat}(ho:o∈l)(hd:o.dst=some d):l.foldr (fun o m=>match o.dst with
 |some d=>min d m
 |none=>m) 1000000000≤d∧d≤l.foldr (fun o m=>match o.dst with
 |some d=>max d m
 |none=>m) 0:=by
 induction l with
 |nil=>cases ho
 |cons a l ih=>
  simp only[List.foldr_cons]
  rcases List.mem_cons.1 ho with rfl|h
  ·rw[hd];exact⟨Nat.min_le_left _ _,Nat.le_max_left _ _⟩
  ·obtain⟨h1,h2⟩:=ih h
   cases a.dst with
   |none=>exact⟨h1,h2⟩
   |some e=>exact⟨Nat.le_trans (Nat.min_le_right _ _) h1,Nat.le_trans h2 (Nat.le_max_right _ _)⟩
theorem regionP_eq(E:Env)(f:FuncId)(call:CallF)(N:Nat)(ops:Array Oper)(draw:Bool)(τ:Fr)(g:H):regionP E f call N ops draw τ g=regionA E f call N ops draw τ g:=by
 unfold regionP
 cases h:regionA E f call N ops draw τ g with
 |no s=>rfl
 |ok p=>
  obtain⟨τ',g'⟩:=p
  have hp:packF ops τ τ'=τ':=by
   funext i
   have out:(¬(loOf ops≤i∧i≤hiOf ops))→τ' i=τ i:=fun hn=>regionA_other h fun o ho hd=>hn (lo_le ho hd)
   unfold packF
   cases h1:Nat.ble (loOf ops) i with
   |false=>exact(out fun hh=>by rw[Nat.ble_eq_true_of_le hh.1]at h1;cases h1).symm
   |true=>cases h2:Nat.ble i (hiOf ops)with
    |false=>exact(out fun hh=>by rw[Nat.ble_eq_true_of_le hh.2]at h2;cases h2).symm
    |true=>rfl
  show R.ok (packF ops τ τ',g')=R.ok (τ',g');rw[hp]
theorem putA_self{τ τ':Fr}{t:Nat}{v:AV}(h:putA N τ (some t) v= .ok τ'):τ' t=v∧t<N:=by
 simp only[putA_some]at h
 split at h<;>cases h
 rename_i hlt;exact⟨by simp[upd_eq],hlt⟩
theorem wantA_congr{τ σ:Fr}{o:Oper}(h: ∀t,t∈o.looksAt ops→τ t=σ t):wantA ops τ o=wantA ops σ o:=by
 unfold wantA
 cases hg:o.guard with
 |none=>rfl
 |some p=>
  obtain⟨j,want⟩:=p;simp only
  cases hd:(ops[j]?).bind (·.dst)with
  |none=>rfl
  |some d=>
   simp only;rw[h d (by simp[Oper.looksAt,hg,hd])]
theorem gtop_congr{τ σ:Fr}{o:Oper}(h: ∀t,t∈o.looksAt ops→τ t=σ t):gtop ops τ o=gtop ops σ o:=by
 unfold gtop
 cases hg:o.guard with
 |none=>rfl
 |some p=>
  obtain⟨j,want⟩:=p;simp only
  cases hd:(ops[j]?).bind (·.dst)with
  |none=>rfl
  |some d=>
   simp only;rw[h d (by simp[Oper.looksAt,hg,hd])]
theorem agree_of{τ σ:Fr}{o:Oper}(h: ∀t,t∈o.looksAt ops→τ t=σ t):Agree τ σ o:=fun t ht=>h t (by
 unfold Oper.looksAt
 refine List.mem_append_left _ (List.mem_filterMap.2 ⟨.tmp t,Array.mem_toList_iff.2 ht,rfl⟩))
theorem stepA_inv{τ τ':Fr}{h h':H}{o:Oper}(hs:stepA E f call N ops τ h o= .ok (τ',h')):
  (wantA ops τ o=true∧ ∃v,opA E f call τ h o= .ok (v,h')∧putA N τ o.dst v= .ok τ')∨(wantA ops τ o=false∧h'=h∧putA N τ o.dst undef= .ok τ'):=by
 unfold stepA at hs;split at hs
 ·cases hs
 split at hs
 ·rename_i hw
  split at hs
  ·rename_i v h2 hop
   obtain⟨τ2,hp,hs⟩:=R.bind_ok hs;cases hs;exact .inl ⟨hw,v,hop,hp⟩
  ·cases hs
 ·rename_i hw
  obtain⟨τ2,hp,hs⟩:=R.bind_ok hs;cases hs;exact .inr ⟨by simpa using hw,rfl,hp⟩
theorem stepA_quiet{τ τ':Fr}{h h':H}{o:Oper}(hs:stepA E f call N ops τ h o= .ok (τ',h'))(hk:isO E o=false):h'=h:=by
 rcases stepA_inv hs with⟨_,v,hop,_⟩|⟨_,rfl,_⟩
 ·unfold opA at hop
  cases hkk:kindOf E o.op<;>simp only[hkk]at hop<;>first|(simp[isO,hkk]at hk;done)|(obtain⟨u,_,hop⟩:=R.bind_ok hop;cases hop;rfl)
 ·rfl
theorem read_wp(hS:Smet E.P E.S){τ:Fr}{h:H}{o:Oper}{y:AV}(ho:readA E τ h o= .ok y){A:Area}{ρ:Rho}{w:World}{a:Act}{hp:H}(hr:HR E.G A ρ w (view hp))(hf:FRel (Forb A ρ (view hp)) ρ w a.tmps τ)
  (hd: ∀b,readDep E τ o=some b→hp[b]?=h[b]?) {K:Act→World→Prop} {Q:Exit→Act→World→Prop}
  (hK: ∀v,CR (Forb A ρ (view hp)) ρ w v y→K (a.put o.dst v) w):o.wpIn (fw rd) nn E.P a w K Q:=by
 obtain⟨u,hu,hc⟩:=readA_run hS hr hf ho (fun b hb=>hd b hb);refine gives_wp (fun c hc=>?_) (.inl hu) (hK u hc);simp[readA,hc]at ho
theorem isAl_isO{o:Oper}(h:isAl E o=true):isO E o=true:=by
 unfold isAl at h;unfold isO
 cases hk:kindOf E o.op<;>simp [hk]at h ⊢
theorem isO_isAl{o:Oper}(h:isO E o=false):isAl E o=false:=by
 cases ha:isAl E o
 ·rfl
 ·rw[isAl_isO ha]at h;cases h
theorem isAl_kind{o:Oper}(h:isAl E o=true):kindOf E o.op= .alloc:=by
 unfold isAl at h
 cases hk:kindOf E o.op<;>simp [hk]at h ⊢
theorem stepD_al{id:Nat}{τ τ':Fr}{h h':H}{o:Oper}(hs:stepD E f call N ops id τ h o= .ok (τ',h'))(ha:isAl E o=true):
  (wantA ops τ o=true∧h[id]?=some .hole∧ ∃v b,allocA E f τ id o= .ok (v,b)∧h'=h.set id b∧putA N τ o.dst v= .ok τ')∨(wantA ops τ o=false∧h'=h∧putA N τ o.dst undef= .ok τ'):=by
 unfold stepD at hs;rw[if_pos ha]at hs;split at hs
 ·cases hs
 split at hs
 ·rename_i hw
  split at hs
  ·rename_i hh
   split at hs
   ·rename_i v b hal
    obtain⟨τ2,hp,hs⟩:=R.bind_ok hs;cases hs;exact .inl ⟨hw,hh,v,b,hal,rfl,hp⟩
   ·cases hs
  ·cases hs
 ·rename_i hw
  obtain⟨τ2,hp,hs⟩:=R.bind_ok hs;cases hs;exact .inr ⟨by simpa using hw,rfl,hp⟩
theorem stepD_ot{id:Nat}{τ τ':Fr}{h h':H}{o:Oper}(hs:stepD E f call N ops id τ h o= .ok (τ',h'))(ha:isAl E o=false):stepA E f call N ops τ h o= .ok (τ',h'):=by
 unfold stepD at hs
 simpa [ha]using hs
theorem stepD_gtop{id:Nat}{τ τ':Fr}{h h':H}{o:Oper}(hs:stepD E f call N ops id τ h o= .ok (τ',h')):gtop ops τ o=false:=by
 unfold stepD at hs;split at hs
 ·split at hs
  ·cases hs
  ·rename_i h1;simpa using h1
 ·unfold stepA at hs
  split at hs
  ·cases hs
  ·rename_i h1;simpa using h1
theorem stepD_put{id:Nat}{τ τ':Fr}{h h':H}{o:Oper}(hs:stepD E f call N ops id τ h o= .ok (τ',h')): ∃y,putA N τ o.dst y= .ok τ':=by
 cases ha:isAl E o
 ·rcases stepA_inv (stepD_ot hs ha)with⟨_,v,_,hp⟩|⟨_,_,hp⟩<;>exact⟨_,hp⟩
 ·rcases stepD_al hs ha with⟨_,_,v,b,_,_,hp⟩|⟨_,_,hp⟩<;>exact⟨_,hp⟩
theorem alsOf_succ{i:Nat}(hi:i<ops.size):alsOf E (ops.toList.take (i+1))=alsOf E (ops.toList.take i)+(if isAl E (opAt ops i)then 1 else 0):=by
 have hg:ops.toList[i]?=some (opAt ops i):=by rw[Array.getElem?_toList];exact opAt_get hi
 have hl:i<ops.toList.length:=by simpa using hi
 rw[List.take_succ_eq_append_getElem hl]
 have he:ops.toList[i]=opAt ops i:=by rw[List.getElem?_eq_getElem hl]at hg;exact Option.some.inj hg
 rw[he];simp only[alsOf,List.filter_append,List.length_append,List.filter_cons,List.filter_nil]
 split<;>simp
theorem alsOf_mono{i j:Nat}(hij:i≤j)(hj:j≤ops.size):alsOf E (ops.toList.take i)≤alsOf E (ops.toList.take j):=by
 induction j with
 |zero=>obtain rfl:i=0:=by omega
        exact Nat.le_refl _
 |succ j ih=>
  by_cases h:i=j+1
  ·rw[h];exact Nat.le_refl _
  ·rw[alsOf_succ (by omega)];have:=ih (by omega) (by omega);omega
theorem idAt_lt{base i j:Nat}(hij:i<j)(hj:j<ops.size)(ha:isAl E (opAt ops i)=true):idAt E ops base i<idAt E ops base j:=by
 have h1:=alsOf_mono (E:=E) (ops:=ops) (show i+1≤j by omega) (by omega);rw[alsOf_succ (by omega),ha]at h1;unfold idAt;simp at h1;omega
theorem idAt_ne{base i j:Nat}(hij:i≠j)(hi:i<ops.size)(hj:j<ops.size)(ha:isAl E (opAt ops i)=true)(hb:isAl E (opAt ops j)=true):idAt E ops base i≠idAt E ops base j:=by
 rcases Nat.lt_or_ge i j with h|h
 ·exact Nat.ne_of_lt (idAt_lt h hj ha)
 ·exact Nat.ne_of_gt (idAt_lt (by omega) hi hb)
section region
variable {T:Nat→Fr} {Hh:Nat→H} {ms:List Nat} {base:Nat}
structure Run (E:Env) (f:FuncId) (call:CallF) (N:Nat) (ops:Array Oper) (base:Nat) (T:Nat→Fr) (Hh:Nat→H):Prop where
 step: ∀i,i<ops.size→stepD E f call N ops (idAt E ops base i) (T i) (Hh i) (opAt ops i)= .ok (T (i+1),Hh (i+1))
 kept: ∀i m,i<ops.size→isAl E (opAt ops i)=true→m≤i→(Hh m)[idAt E ops base i]?=some .hole
theorem Run.slot(hR:Run E f call N ops base T Hh){t:Nat}: ∀{p q:Nat},p≤q→q≤ops.size→(∀i,p≤i→i<q→(opAt ops i).dst≠some t)→T p t=T q t:=by
 intro p q
 induction q with
 |zero=>intro h _ _;obtain rfl:p=0:=by omega
        rfl
 |succ q ih=>
  intro h hq hk
  by_cases hpq:p=q+1
  ·rw[hpq]
  ·rw[ih (by omega) (by omega) (fun i h1 h2=>hk i h1 (by omega))]
   obtain⟨y,hp⟩:=stepD_put (hR.step q (by omega));exact(putA_other hp (hk q (by omega) (by omega))).symm
theorem Run.quiet(hR:Run E f call N ops base T Hh){q:Nat}(hq:q<ops.size)(ho:isO E (opAt ops q)=false):Hh (q+1)=Hh q:=
 stepA_quiet (stepD_ot (hR.step q hq) (isO_isAl ho)) ho
theorem Run.other(hR:Run E f call N ops base T Hh){q b:Nat}(hq:q<ops.size)(ha:isAl E (opAt ops q)=true)(hb:b≠idAt E ops base q):(Hh q)[b]?=(Hh (q+1))[b]?:=by
 rcases stepD_al (hR.step q hq) ha with⟨_,_,v,x,_,he,_⟩|⟨_,he,_⟩
 ·rw[he,List.getElem?_set_ne (fun h=>hb h.symm)]
 ·rw[he]
def Done(listed:Array Bool)(i:Nat):Prop:=listed[i]?=some true
def Early(E:Env)(ops:Array Oper)(T:Nat→Fr)(listed:Array Bool)(p i:Nat):Prop:=
 p≤i∧i<ops.size∧isAl E (opAt ops i)=true∧Done listed i∧wantA ops (T i) (opAt ops i)=true
def EA(E:Env)(ops:Array Oper)(base:Nat)(D:Nat→Prop)(ρ:Rho):Area:=fun B off=> ∃i k,D i∧ρ (idAt E ops base i)=some (B,k)∧k≤off
def Plus(A X:Area):Area:=fun B off=>A B off∨X B off
structure Inv (E:Env) (f:FuncId) (N s0:Nat) (ops:Array Oper) (base:Nat) (T:Nat→Fr) (Hh:Nat→H) (A:Area) (listed:Array Bool) (ρ0:Rho) (w0:World) (ρ:Rho) (w:World) (a:Act) (p:Nat):Prop where
 size:listed.size=ops.size
 closed:Closed ops (Done listed)
 le:p≤ops.size
 chain: ∀i,i<ops.size→isO E (opAt ops i)=true→isAl E (opAt ops i)=false→(Done listed i↔i<p)
 als: ∀i,i<p→isAl E (opAt ops i)=true→Done listed i
 hr:HR E.G (Plus A (EA E ops base (Early E ops T listed p) ρ)) ρ w (view (Hh p))
 nyet: ∀i,p≤i→i<ops.size→isAl E (opAt ops i)=true→ ¬Early E ops T listed p i→ρ (idAt E ops base i)=none
 early: ∀i,Early E ops T listed p i→ ∃B k v x,ρ (idAt E ops base i)=some (B,k)∧allocA E f (T i) (idAt E ops base i) (opAt ops i)= .ok (v,x)∧x.alive=true∧B<w.heap.size∧
  BR (Forb (Plus A (EA E ops base (Early E ops T listed p) ρ)) ρ (view (Hh p))) ρ w B k x∧ ∀off,¬A B off
 sep: ∀i b B k k1,Early E ops T listed p i→ρ (idAt E ops base i)=some (B,k)→ρ b=some (B,k1)→b=idAt E ops base i
 ext:Ext (Own ρ0 (view (Hh 0))) ρ0 w0 (Plus (Own ρ (view (Hh p))) (EA E ops base (Early E ops T listed p) ρ)) ρ w
 slots: ∀t q,q≤ops.size→(∀i,i<q→(opAt ops i).dst=some t→Done listed i)→(∀i,q≤i→i<ops.size→(opAt ops i).dst=some t→ ¬Done listed i)→
  TR (Forb (Plus A (EA E ops base (Early E ops T listed p) ρ)) ρ (view (Hh p))) ρ w (a.tmps.getD t Go.undef) (T q t)
 sz:a.tmps.size=N
 de:DeOK s0 a.defers w (Plus (Own ρ (view (Hh p))) (EA E ops base (Early E ops T listed p) ρ))
theorem done_set{listed:Array Bool}{j:Nat}(hj:j<listed.size)(i:Nat):Done (listed.setIfInBounds j true) i↔i=j∨Done listed i:=by
 unfold Done
 by_cases h:j=i
 ·subst h;simp[Array.getElem?_setIfInBounds_self_of_lt hj]
 ·rw[Array.getElem?_setIfInBounds_ne h]
  constructor
  ·exact .inr
  ·rintro(h'|h')
   ·exact absurd h'.symm h
   ·exact h'
theorem Inv.least{A:Area}{listed:Array Bool}{ρ0 ρ:Rho}{w0 w:World}{a:Act}{p:Nat}(hI:Inv E f N s0 ops base T Hh A listed ρ0 w0 ρ w a p)(hD:DrawOk E ops ms)(t:Nat):
  ∃q,q≤ops.size∧(∀i,i<q→(opAt ops i).dst=some t→Done listed i)∧(∀i,q≤i→i<ops.size→(opAt ops i).dst=some t→ ¬Done listed i):=by
 by_cases hex: ∃k,k<ops.size∧(opAt ops k).dst=some t∧ ¬Done listed k
 ·obtain⟨k,⟨hk1,hk2,hk3⟩,hmin⟩: ∃k,(k<ops.size∧(opAt ops k).dst=some t∧ ¬Done listed k)∧ ∀i,i<k→ ¬(i<ops.size∧(opAt ops i).dst=some t∧ ¬Done listed i):=by
   obtain⟨k,hk⟩:=hex
   induction k using Nat.strongRecOn with
   |_ k ih=>
    by_cases hlt: ∃i,i<k∧(i<ops.size∧(opAt ops i).dst=some t∧ ¬Done listed i)
    ·obtain⟨i,hi,h⟩:=hlt;exact ih i hi h
    ·exact⟨k,hk,fun i hi h=>hlt ⟨i,hi,h⟩⟩
  refine⟨k,by omega,fun i hi hd=>?_,fun i hi hn hd hdone=>?_⟩
  ·exact Classical.byContradiction fun hnd=>hmin i hi ⟨by omega,hd,hnd⟩
  ·rcases Nat.lt_or_ge k i with hlt|hge
   ·exact hk3 (hD.msk.closed hI.closed i hn hdone k (hD.tt k i t hlt hn (.inl ⟨hk2, .inr hd⟩)))
   ·obtain rfl:i=k:=by omega
    exact hk3 hdone
 ·exact⟨ops.size,Nat.le_refl _,fun i hi hd=>Classical.byContradiction fun hnd=>hex ⟨i,hi,hd,hnd⟩,fun i h1 h2=>by omega⟩
theorem mem_ready{listed:Array Bool}(hsz:listed.size=ops.size){j:Nat}(h:j∈Region.ready .any ops listed):j<ops.size∧ ¬Done listed j∧ ∀e∈(opAt ops j).after,Region.binds .any e=true→Done listed e.on:=by
 unfold Region.ready at h;rw[List.mem_filter,List.mem_range]at h;obtain⟨hj,h⟩:=h;rw[Bool.and_eq_true,opAt_get hj]at h;simp only[Option.map_some,Option.getD_some]at h;refine⟨hj,fun hd=>?_,fun e he hb=>?_⟩
 ·unfold Done at hd
  have:=h.1;simp[Array.getD_eq_getD_getElem?,hd]at this
 ·have:=Array.all_eq_true_iff_forall_mem.1 h.2 e he
  rw[hb]at this;simp only[Bool.not_true,Bool.false_or]at this;unfold Done;rw[Array.getD_eq_getD_getElem?]at this
  cases hl:listed[e.on]? with
  |none=>rw [hl]at this;simp at this
  |some b=>rw [hl]at this;simp at this;rw[this]
theorem all_done{listed:Array Bool}(hsz:listed.size=ops.size)(hm:Masked ops ms)(hr:Region.ready .any ops listed= []): ∀i,i<ops.size→Done listed i:=by
 intro i
 induction i using Nat.strongRecOn with
 |_ i ih=>
  intro hi
  refine Classical.byContradiction fun hnd=>?_
  have:i∈Region.ready .any ops listed:=by
   unfold Region.ready;rw[List.mem_filter,List.mem_range];refine⟨hi,?_⟩;rw[Bool.and_eq_true,opAt_get hi];constructor
   ·rw[Array.getD_eq_getD_getElem?]
    cases hl:listed[i]? with
    |none=>
     have:i<listed.size:=by omega
     simp[Array.getElem?_eq_getElem this]at hl
    |some b=>
     cases b
     ·rfl
     ·exact absurd hl hnd
   ·simp only[Option.map_some,Option.getD_some]
    rw[Array.all_eq_true_iff_forall_mem];intro e he;cases hb:Region.binds .any e
    ·rfl
    ·have hlt:=hm.low i hi e he hb
     have:=ih e.on hlt (by omega);unfold Done at this;simp[Array.getD_eq_getD_getElem?,this]
  rw[hr]at this;simp at this
end region
end
end Go.Proofs.YtcocmlmligjjcaaGreatDoor.AM
namespace Go.Proofs.YtcocmlmligjjcaaGreatDoor.AM
set_option linter.unusedSectionVars false
set_option linter.unusedVariables false
set_option linter.unusedSimpArgs false
section
variable {G:Nat→Option (List AV)} {A A':Area} {ρ ρ':Rho} {w w':World} {g:View}
theorem HR.hide(hr:HR G A ρ w g){b B k:Nat}{x:Blk}(hρ:ρ b=some (B,k))(hg:g b=some x)(hal:x.alive=true)(hA: ∀B' off,A' B' off↔(A B' off∨(B'=B∧k≤off))):
  HR G A' ρ w (setG g b .hole)∧Forb A' ρ (setG g b .hole)=Forb A ρ g:=by
 have hown: ∀B' off,Own ρ g B' off↔(Own ρ (setG g b .hole) B' off∨(B'=B∧k≤off)):=by
  intro B' off;constructor
  ·rintro⟨b',k',y,h1,h2,h3,h4⟩
   by_cases hb:b'=b
   ·subst hb;rw[hρ]at h1;cases h1;exact .inr ⟨rfl,h4⟩
   ·exact .inl ⟨b',k',y,h1,by simp[setG,hb,h2],h3,h4⟩
  ·rintro(⟨b',k',y,h1,h2,h3,h4⟩|⟨rfl,h⟩)
   ·simp only[setG]at h2
    split at h2
    ·cases h2;cases h3
    ·exact⟨b',k',y,h1,h2,h3,h4⟩
   ·exact⟨b,k,x,hρ,hg,hal,h⟩
 have hF:Forb A' ρ (setG g b .hole)=Forb A ρ g:=by
  funext B' off
  apply propext;unfold Forb;rw[hown,hA];constructor
  ·rintro(h|h|h)
   ·exact .inl (.inl h)
   ·exact .inr h
   ·exact .inl (.inr h)
  ·rintro((h|h)|h)
   ·exact .inl h
   ·exact .inr (.inr h)
   ·exact .inr (.inl h)
 refine⟨⟨fun b' h=>?_,fun b' y h hy=>?_,fun b' h B' k' hk=>?_,fun b1 b2 B' k1 k2 x1 x2 h1 h2 h3 h4 h5 h6=>?_,fun B' off ha=>?_,fun i cs h=>by rw[hF];exact hr.glob i cs h⟩,hF⟩
 ·simp only[setG]at h
  split at h
  ·cases h
  ·exact hr.dom b' h
 ·simp only[setG]at h
  split at h
  ·cases h;exact absurd rfl hy
  ·rw[hF];exact hr.blk b' y h hy
 ·simp only[setG]at h
  split at h
  ·rename_i e;subst e;rw[hρ]at hk;cases hk;exact(hA _ _).2 (.inr ⟨rfl,Nat.le_refl _⟩)
  ·exact(hA _ _).2 (.inl (hr.hole b' h B' k' hk))
 ·simp only[setG]at h3 h4
  split at h3
  ·cases h3;cases h5
  ·split at h4
   ·cases h4;cases h6
   ·exact hr.sep b1 b2 B' k1 k2 x1 x2 h1 h2 h3 h4 h5 h6
 ·rcases(hA B' off).1 ha with h|⟨rfl,h⟩
  ·have:=hr.avo B' off h
   exact⟨this.1,fun ho=>this.2 ((hown _ _).2 (.inl ho))⟩
  ·refine⟨hr.lt hρ,?_⟩
   rintro⟨b',k',y,h1,h2,h3,h4⟩;simp only[setG]at h2;split at h2
   ·cases h2;cases h3
   ·rename_i hb;exact hb (hr.sep b' b B' k' k y x h1 hρ h2 hg h3 hal)
theorem HR.apart(hr:HR G A ρ w g){B k:Nat}(hA: ∀off,k≤off→A B off): ∀off,¬Own ρ g B off:=by
 rintro off ⟨b,k',y,h1,h2,h3,h4⟩;exact(hr.avo B (max k k') (hA _ (Nat.le_max_left ..))).2 ⟨b,k',y,h1,h2,h3,Nat.le_max_right ..⟩
theorem HR.shown(hr:HR G A' ρ w g){b B k:Nat}{x:Blk}(hρ:ρ b=some (B,k))(hal:x.alive=true)(hB:B<w.heap.size)(hg:g b=some .hole)(hbr:BR (Forb A' ρ g) ρ w B k x)
  (hA: ∀B' off,A' B' off↔(A B' off∨(B'=B∧k≤off))) (hd: ∀off,k≤off→ ¬A B off) (hs: ∀b' k',ρ b'=some (B,k')→b'=b):
  HR G A ρ w (setG g b x)∧Forb A ρ (setG g b x)=Forb A' ρ g:=by
 have hap:=hr.apart (B:=B) (k:=k) (fun off h=>(hA _ _).2 (.inr ⟨rfl,h⟩))
 have hown: ∀B' off,Own ρ (setG g b x) B' off↔(Own ρ g B' off∨(B'=B∧k≤off)):=by
  intro B' off;constructor
  ·rintro⟨b',k',y,h1,h2,h3,h4⟩
   simp only[setG]at h2;split at h2
   ·rename_i hb;subst hb;rw[hρ]at h1;cases h1;exact .inr ⟨rfl,h4⟩
   ·exact .inl ⟨b',k',y,h1,h2,h3,h4⟩
  ·rintro(⟨b',k',y,h1,h2,h3,h4⟩|⟨rfl,h⟩)
   ·refine⟨b',k',y,h1,?_,h3,h4⟩
    simp only[setG];split
    ·rename_i hb;rw[hb,hg]at h2;cases h2;cases h3
    ·exact h2
   ·exact⟨b,k,x,hρ,by simp[setG],hal,h⟩
 have hF:Forb A ρ (setG g b x)=Forb A' ρ g:=by
  funext B' off
  apply propext;unfold Forb;rw[hown,hA];constructor
  ·rintro((h|h)|h)
   ·exact .inl h
   ·exact .inr (.inr h)
   ·exact .inr (.inl h)
  ·rintro(h|h|h)
   ·exact .inl (.inl h)
   ·exact .inr h
   ·exact .inl (.inr h)
 refine⟨⟨fun b' h=>?_,fun b' y h hy=>?_,fun b' h B' k' hk=>?_,fun b1 b2 B' k1 k2 x1 x2 h1 h2 h3 h4 h5 h6=>?_,fun B' off ha=>?_,fun i cs h=>by rw[hF];exact hr.glob i cs h⟩,hF⟩
 ·simp only[setG]at h
  split at h
  ·cases h
  ·exact hr.dom b' h
 ·simp only[setG]at h
  rw[hF];split at h
  ·rename_i hb;cases h;exact⟨B,k,by rw[hb];exact hρ,hB,hbr⟩
  ·exact hr.blk b' y h hy
 ·simp only[setG]at h
  split at h
  ·cases h;cases hal
  ·rename_i hb
   rcases(hA _ _).1 (hr.hole b' h B' k' hk)with h1|⟨rfl,_⟩
   ·exact h1
   ·exact absurd (hs b' k' hk) hb
 ·simp only[setG]at h3 h4
  split at h3
  ·rename_i e1
   split at h4
   ·rename_i e2;rw[e1,e2]
   ·subst e1
    rw[hρ]at h1;cases h1;exact(hs b2 k2 h2).symm
  ·split at h4
   ·rename_i e2
    subst e2;rw[hρ]at h2;cases h2;exact hs b1 k1 h1
   ·exact hr.sep b1 b2 B' k1 k2 x1 x2 h1 h2 h3 h4 h5 h6
 ·have h1:=hr.avo B' off ((hA _ _).2 (.inl ha))
  refine⟨h1.1,fun ho=>?_⟩
  rcases(hown _ _).1 ho with h|⟨rfl,h⟩
  ·exact h1.2 h
  ·exact hd off h ha
theorem Ext.widen{O O' O1 O1':Area}(h:Ext O ρ w O' ρ' w')(h1: ∀B off,O B off→O1 B off)(h2: ∀B off,O1' B off→O1 B off∨w.heap.size≤B):Ext O1 ρ w O1' ρ' w':=
 ⟨h.sub,h2,fun b B k hb=>by rcases h.newρ b B k hb with h'|h'|h'; · exact .inl h'
                            ·exact .inr (.inl (h1 _ _ h'))
                            ·exact .inr (.inr h'),h.st,h.size,
  fun B cs e fz hb=>by
   obtain⟨cs',fz',k1,k2,k3⟩:=h.keep B cs e fz hb
   exact⟨cs',fz',k1,k2,fun off ho hn=>k3 off ho (fun hh=>hn (h1 _ _ hh))⟩,
  fun B hB hn=>h.keepo B hB (fun off hh=>hn off (h1 _ _ hh))⟩
end
section
variable {E:Env} {s0 nn:Nat} {rd:Option Nat} {f:FuncId} {call:CallF} {N:Nat} {ops:Array Oper} {base:Nat} {T:Nat→Fr} {Hh:Nat→H} {ms:List Nat}
theorem allocA_congr{τ σ:Fr}{id:Nat}{o:Oper}(hk:kindOf E o.op= .alloc)(ha:Agree τ σ o){v:AV}{b:Blk}(h:allocA E f τ id o= .ok (v,b)):allocA E f σ id o= .ok (v,b):=by
 have h1:=opA_congr (E:=E) (f:=f) (call:=fun _ _ _=> .no "") (h:=List.replicate id .dead) ha;unfold opA at h1;simp only[hk,List.length_replicate,h]at h1
 cases hs:allocA E f σ id o with
 |no s=>rw [hs]at h1;cases h1
 |ok p=>
  obtain⟨v',b'⟩:=p;rw[hs]at h1
  have h2:=R.ok.inj h1
  simp only[Prod.mk.injEq,List.append_cancel_left_eq,List.cons.injEq,and_true]at h2;rw[h2.1,h2.2]
theorem loadA_dep{P:Program}{h h':H}{t:TypeId}{p:AV}(hd: ∀b,depOf p=some b→h[b]?=h'[b]?):loadA P h t p=loadA P h' t p:=by
 cases p<;>first|rfl|(simp only[loadA,hd _ rfl])
theorem elemsA_dep{h h':H}{p:AV}(hd: ∀b,depOf p=some b→h[b]?=h'[b]?):elemsA h p=elemsA h' p:=by
 cases p<;>first|rfl|(simp only[elemsA,hd _ rfl])
theorem mapOf_dep{h h':H}{p:AV}(hd: ∀b,depOf p=some b→h[b]?=h'[b]?):mapOf h p=mapOf h' p:=by
 cases p<;>first|rfl|(simp only[mapOf,hd _ rfl])
theorem readA_dep{τ:Fr}{h h':H}{o:Oper}(hd: ∀b,readDep E τ o=some b→h[b]?=h'[b]?):readA E τ h o=readA E τ h' o:=by
 unfold readDep at hd;unfold readA;split
 ·rename_i t a ho
  rw[ho]at hd;simp only at hd
  cases he:ev E τ a with
  |no s=>rfl
  |ok p=>rw [he]at hd;simp only[R.bind];exact loadA_dep hd
 ·rename_i src dst x ho
  rw[ho]at hd;simp only at hd
  cases he:ev E τ x with
  |no s=>rfl
  |ok p=>rw [he]at hd;simp only[R.bind,elemsA_dep hd]
 ·rename_i t m k ok ho
  rw[ho]at hd;simp only at hd
  cases he:ev E τ m with
  |no s=>rfl
  |ok p=>rw [he]at hd;simp only[R.bind,mapOf_dep hd]
 ·rename_i args ats ho
  rw[ho]at hd;simp only at hd
  cases ha:args.toList with
  |nil=>rfl
  |cons x xs=>
   cases xs with
   |nil=>
    rw[ha]at hd;simp only at hd;simp only[evs]
    cases he:ev E τ x with
    |no s=>rfl
    |ok p=>rw [he]at hd;simp only[R.bind,mapOf_dep hd]
   |cons y ys=>
    simp only[evs]
    cases ev E τ x with
    |no s=>rfl
    |ok p=>
     simp only[R.bind]
     cases ev E τ y with
     |no s=>rfl
     |ok q=>
      simp only
      cases evs E τ ys<;>rfl
 ·rfl
theorem sameR_eq{x y:R AV}(h:sameR x y=true):x=y:=by
 cases x<;>cases y<;>simp [sameR]at h
 rw[same_eq _ _ h]
theorem newSl_alive{dst:Option Nat}{id sz:Nat}{l:List AV}:(newSl E f dst id sz l).2.alive=true:=by
 unfold newSl
 split<;>rfl
theorem allocA_alive{τ:Fr}{id:Nat}{o:Oper}{v:AV}{b:Blk}(h:allocA E f τ id o= .ok (v,b)):b.alive=true:=by
 unfold allocA at h;split at h
 ·obtain⟨z,hz,h⟩:=R.bind_ok h;cases h;rfl
 ·obtain⟨z,hz,h⟩:=R.bind_ok h;split at h<;>cases h;rfl
 ·obtain⟨vs,hvs,h⟩:=R.bind_ok h
  obtain⟨d,hd,h⟩:=R.bind_ok h;split at h
  ·obtain⟨sz,hsz,h⟩:=R.bind_ok h
   obtain⟨z,hz,h⟩:=R.bind_ok h;split at h
   ·obtain⟨l,hl,h⟩:=R.bind_ok h
    have h:=R.ok.inj h
    have:=congrArg Prod.snd h;simp only at this;rw[←this];exact newSl_alive
   ·cases h
  ·cases h
 ·cases h;rfl
 ·obtain⟨d,hd,h⟩:=R.bind_ok h
  split at h
  ·obtain⟨i,hi,h⟩:=R.bind_ok h
   obtain⟨z,hz,h⟩:=R.bind_ok h;obtain⟨l,hl,h⟩:=R.bind_ok h;obtain⟨c,hc,h⟩:=R.bind_ok h;obtain⟨n,hn,h⟩:=R.bind_ok h;obtain⟨m,hm,h⟩:=R.bind_ok h;split at h
   ·have h:=R.ok.inj h
    have:=congrArg Prod.snd h;simp only at this;rw[←this];exact newSl_alive
   ·cases h
  ·cases h
 ·obtain⟨u,hu,h⟩:=R.bind_ok h
  obtain⟨us,hus,h⟩:=R.bind_ok h;obtain⟨ud,hud,h⟩:=R.bind_ok h;split at h
  ·obtain⟨ue,hue,h⟩:=R.bind_ok h
   split at h
   ·obtain⟨sz,hsz,h⟩:=R.bind_ok h
    split at h
    ·have h:=R.ok.inj h
     have:=congrArg Prod.snd h;simp only at this;rw[←this];exact newSl_alive
    ·cases h
   ·cases h
  ·cases h
 ·cases h
theorem ea_congr{D:Nat→Prop}{ρ ρ':Rho}(h: ∀i,D i→ρ' (idAt E ops base i)=ρ (idAt E ops base i)):EA E ops base D ρ'=EA E ops base D ρ:=by
 funext B off
 apply propext
 constructor<;>rintro⟨i,k,h1,h2,h3⟩
 ·exact⟨i,k,h1,by rw[←h i h1];exact h2,h3⟩
 ·exact⟨i,k,h1,by rw[h i h1];exact h2,h3⟩
variable {A:Area} {listed:Array Bool} {ρ0 ρ:Rho} {w0 w:World} {a:Act} {p:Nat}
theorem area_one{D D':Nat→Prop}{i0 B k:Nat}(hD: ∀i,D i↔(D' i∨i=i0))(hρ:ρ (idAt E ops base i0)=some (B,k)): ∀B' off,Plus A (EA E ops base D ρ) B' off↔(Plus A (EA E ops base D' ρ) B' off∨(B'=B∧k≤off)):=by
 intro B' off;constructor
 ·rintro(h|⟨i,k',h1,h2,h3⟩)
  ·exact .inl (.inl h)
  ·rcases(hD i).1 h1 with h|rfl
   ·exact .inl (.inr ⟨i,k',h,h2,h3⟩)
   ·rw[hρ]at h2;cases h2;exact .inr ⟨rfl,h3⟩
 ·rintro((h|⟨i,k',h1,h2,h3⟩)|⟨rfl,h⟩)
  ·exact .inl h
  ·exact .inr ⟨i,k',(hD i).2 (.inl h1),h2,h3⟩
  ·exact .inr ⟨i0,k,(hD i0).2 (.inr rfl),hρ,h⟩
theorem Inv.show1(hI:Inv E f N s0 ops base T Hh A listed ρ0 w0 ρ w a p){K:H}{D:Nat→Prop}(hDE: ∀i,D i→Early E ops T listed p i){i0:Nat}(hi0:Early E ops T listed p i0)(hD0: ¬D i0)
  (hr:HR E.G (Plus A (EA E ops base (fun i=>D i∨i=i0) ρ)) ρ w (view K)) (hF:Forb (Plus A (EA E ops base (fun i=>D i∨i=i0) ρ)) ρ (view K)=Forb (Plus A (EA E ops base (Early E ops T listed p) ρ)) ρ (view (Hh p)))
  (hg:K[idAt E ops base i0]?=some .hole) {v:AV} {x:Blk} (hx:allocA E f (T i0) (idAt E ops base i0) (opAt ops i0)= .ok (v,x)):
  HR E.G (Plus A (EA E ops base D ρ)) ρ w (view (K.set (idAt E ops base i0) x))∧Forb (Plus A (EA E ops base D ρ)) ρ (view (K.set (idAt E ops base i0) x))=Forb (Plus A (EA E ops base (Early E ops T listed p) ρ)) ρ (view (Hh p)):=by
 obtain⟨B,k,v',x',h1,h2,h3,h4,h5,h6⟩:=hI.early i0 hi0;rw[hx]at h2;cases h2
 obtain⟨q1,q2⟩:=hr.shown (A:=Plus A (EA E ops base D ρ)) h1 h3 h4 hg (by rw[hF];exact h5) (area_one (fun i=>Iff.rfl) h1)
  (fun off _ ha=>by
   rcases ha with ha|⟨i,k',e1,e2,_⟩
   ·exact h6 off ha
   ·have:=hI.sep i0 _ B k k' hi0 h1 e2
    have hne:i≠i0:=fun e=>hD0 (e▸e1)
    have he:=hDE i e1
    exact idAt_ne hne he.2.1 hi0.2.1 he.2.2.1 hi0.2.2.1 this)
  (fun b' k' hb'=>hI.sep i0 b' B k k' hi0 h1 hb')
 rw[view_set hg];exact⟨q1,q2.trans hF⟩
theorem Inv.all(hR:Run E f call N ops base T Hh)(hI:Inv E f N s0 ops base T Hh A listed ρ0 w0 ρ w a p): ∀n,n≤ops.size→ ∃K:H,HR E.G (Plus A (EA E ops base (fun i=>Early E ops T listed p i∧n≤i) ρ)) ρ w (view K)∧
  Forb (Plus A (EA E ops base (fun i=>Early E ops T listed p i∧n≤i) ρ)) ρ (view K)=Forb (Plus A (EA E ops base (Early E ops T listed p) ρ)) ρ (view (Hh p))∧
  (∀i,Early E ops T listed p i→i<n→ ∃v x,allocA E f (T i) (idAt E ops base i) (opAt ops i)= .ok (v,x)∧K[idAt E ops base i]?=some x)∧
  (∀b,(∀i,Early E ops T listed p i→i<n→b≠idAt E ops base i)→K[b]?=(Hh p)[b]?):=by
 intro n
 induction n with
 |zero=>
  intro _
  have he:(fun i=>Early E ops T listed p i∧0≤i)=Early E ops T listed p:=funext fun i=>propext ⟨fun h=>h.1,fun h=>⟨h,Nat.zero_le _⟩⟩
  exact⟨Hh p,by rw[he];exact hI.hr,by rw[he],fun i _ h=>by omega,fun b _=>rfl⟩
 |succ n ih=>
  intro hn;obtain⟨K,k1,k2,k3,k4⟩:=ih (by omega)
  by_cases hE:Early E ops T listed p n
  ·have he:(fun i=>Early E ops T listed p i∧n≤i)=fun i=>(Early E ops T listed p i∧n+1≤i)∨i=n:=funext fun i=>propext ⟨fun h=>by
     rcases Nat.lt_or_ge n i with h'|h'
     ·exact .inl ⟨h.1,h'⟩
     ·exact .inr (by omega),fun h=>by
     rcases h with h|rfl
     ·exact⟨h.1,by omega⟩
     ·exact⟨hE,Nat.le_refl _⟩⟩
   rw[he]at k1 k2
   have hg:K[idAt E ops base n]?=some .hole:=by
    rw[k4 _ (fun i hi hin=>fun e=>idAt_ne (Nat.ne_of_lt hin) hi.2.1 hE.2.1 hi.2.2.1 hE.2.2.1 e.symm)];exact hR.kept n p hE.2.1 hE.2.2.1 hE.1
   obtain⟨B,k,v,x,e1,e2,_⟩:=hI.early n hE;obtain⟨q1,q2⟩:=hI.show1 (fun i h=>h.1) hE (fun h=>by omega) k1 k2 hg e2;refine⟨K.set (idAt E ops base n) x,q1,q2,fun i hi hin=>?_,fun b hb=>?_⟩
   ·by_cases hi':i=n
    ·subst hi'
     exact⟨v,x,e2,by rw[List.getElem?_set_self (lt_of_getl hg)]⟩
    ·obtain⟨v',x',f1,f2⟩:=k3 i hi (by omega)
     refine⟨v',x',f1,?_⟩;rw[List.getElem?_set_ne (fun e=>idAt_ne hi' hi.2.1 hE.2.1 hi.2.2.1 hE.2.2.1 e.symm)];exact f2
   ·rw[List.getElem?_set_ne (fun e=>hb n hE (by omega) e.symm)]
    exact k4 b (fun i hi hin=>hb i hi (by omega))
  ·have he:(fun i=>Early E ops T listed p i∧n+1≤i)=fun i=>Early E ops T listed p i∧n≤i:=funext fun i=>propext ⟨fun h=>⟨h.1,by omega⟩,fun h=>⟨h.1,by
     rcases Nat.lt_or_ge n i with h'|h'
     ·exact h'
     ·have:i=n:=by omega
      subst this;exact absurd h.1 hE⟩⟩
   rw[←he]at k1 k2;refine⟨K,k1,k2,fun i hi hin=>?_,fun b hb=>k4 b (fun i hi hin=>hb i hi (by omega))⟩
   by_cases hi':i=n
   ·subst hi';exact absurd hi hE
   ·exact k3 i hi (by omega)
theorem Inv.adv(hR:Run E f call N ops base T Hh)(hI:Inv E f N s0 ops base T Hh A listed ρ0 w0 ρ w a p)(hp:p<ops.size)(h:isO E (opAt ops p)=false∨(isAl E (opAt ops p)=true∧Done listed p)):Inv E f N s0 ops base T Hh A listed ρ0 w0 ρ w a (p+1):=by
 have hch: ∀i,i<ops.size→isO E (opAt ops i)=true→isAl E (opAt ops i)=false→(Done listed i↔i<p+1):=fun i hi ho ha=>by
  rw[hI.chain i hi ho ha];constructor
  ·omega
  ·intro h1
   rcases Nat.lt_or_ge i p with h2|h2
   ·exact h2
   ·have:i=p:=by omega
    subst this
    rcases h with h|h
    ·rw[ho]at h;cases h
    ·rw[ha]at h;cases h.1
 have hal: ∀i,i<p+1→isAl E (opAt ops i)=true→Done listed i:=fun i hi ha=>by
  rcases Nat.lt_or_ge i p with h2|h2
  ·exact hI.als i h2 ha
  ·have:i=p:=by omega
   subst this
   rcases h with h|h
   ·rw[isO_isAl h]at ha;cases ha
   ·exact h.2
 by_cases hE:Early E ops T listed p p
 ·--it made memory
  obtain⟨B,k,v,x,e1,e2,e3,e4,e5,e6⟩:=hI.early p hE
  have hH:Hh (p+1)=(Hh p).set (idAt E ops base p) x:=by
   rcases stepD_al (hR.step p hp) hE.2.2.1 with⟨_,_,v',b',h1,h2,_⟩|⟨hw,_⟩
   ·rw[e2]at h1;cases h1;exact h2
   ·rw[hE.2.2.2.2]at hw;cases hw
  have hEq: ∀i,Early E ops T listed p i↔(Early E ops T listed (p+1) i∨i=p):=fun i=>⟨fun h=>by
    rcases Nat.lt_or_ge p i with h1|h1
    ·exact .inl ⟨h1,h.2⟩
    ·exact .inr (by have:=h.1;omega),fun h=>by
    rcases h with h|rfl
    ·exact⟨by have:=h.1;omega,h.2⟩
    ·exact hE⟩
  have hEf:Early E ops T listed p=fun i=>Early E ops T listed (p+1) i∨i=p:=funext fun i=>propext (hEq i)
  have hle: ∀i,Early E ops T listed (p+1) i→Early E ops T listed p i:=fun i hi=>(hEq i).2 (.inl hi)
  have hg:=hR.kept p p hp hE.2.2.1 (Nat.le_refl p)
  obtain⟨q1,q2⟩:=hI.show1 (D:=Early E ops T listed (p+1)) hle hE (fun h=>by have:=h.1;omega) (by rw[←hEf];exact hI.hr) (by rw[←hEf]) hg e2;rw[←hH]at q1 q2
  have hO:Plus (Own ρ (view (Hh (p+1)))) (EA E ops base (Early E ops T listed (p+1)) ρ)=Plus (Own ρ (view (Hh p))) (EA E ops base (Early E ops T listed p) ρ):=by
   funext B' off
   apply propext;have hg':view (Hh p) (idAt E ops base p)=some .hole:=hg;constructor
   ·rintro(⟨b,k',y,h1,h2,h3,h4⟩|⟨i,k',h1,h2,h3⟩)
    ·rw[hH,view_set hg]at h2
     simp only[setG]at h2;split at h2
     ·rename_i hb;subst hb;exact .inr ⟨p,k',hE,h1,h4⟩
     ·exact .inl ⟨b,k',y,h1,h2,h3,h4⟩
    ·exact .inr ⟨i,k',hle i h1,h2,h3⟩
   ·rintro(⟨b,k',y,h1,h2,h3,h4⟩|⟨i,k',h1,h2,h3⟩)
    ·refine .inl ⟨b,k',y,h1,?_,h3,h4⟩
     rw[hH,view_set hg];simp only[setG];split
     ·rename_i hb;rw[hb,hg']at h2;cases h2;cases h3
     ·exact h2
    ·rcases(hEq i).1 h1 with h|rfl
     ·exact .inr ⟨i,k',h,h2,h3⟩
     ·refine .inl ⟨_,k',x,h2,?_,e3,h3⟩
      rw[hH,view_set hg];simp[setG]
  refine⟨hI.size,hI.closed,hp,hch,hal,q1,fun i hi his hia hne=>hI.nyet i (by omega) his hia (fun h=>?_),fun i hi=>?_,fun i b B' k' k1 hi=>hI.sep i b B' k' k1 (hle i hi),by rw[hO];exact hI.ext,by rw[q2];exact hI.slots,hI.sz,by rw[hO];exact hI.de⟩
  ·rcases(hEq i).1 h with h'|h'
   ·exact hne h'
   ·omega
  ·obtain⟨B',k',v',x',f1,f2,f3,f4,f5,f6⟩:=hI.early i (hle i hi)
   exact⟨B',k',v',x',f1,f2,f3,f4,by rw[q2];exact f5,f6⟩
 ·--it made nothing
  have hEq:Early E ops T listed (p+1)=Early E ops T listed p:=funext fun i=>propext ⟨fun h=>⟨by have:=h.1;omega,h.2⟩,fun h=>⟨by
    rcases Nat.lt_or_ge p i with h1|h1
    ·exact h1
    ·have:i=p:=by have:=h.1;omega
     subst this;exact absurd h hE,h.2⟩⟩
  have hH:Hh (p+1)=Hh p:=by
   rcases h with h|⟨h1,h2⟩
   ·exact hR.quiet hp h
   ·rcases stepD_al (hR.step p hp) h1 with⟨hw,_⟩|⟨_,h3,_⟩
    ·exact absurd ⟨Nat.le_refl p,hp,h1,h2,hw⟩ hE
    ·exact h3
  exact⟨hI.size,hI.closed,hp,hch,hal,by rw[hEq,hH];exact hI.hr,fun i hi his hia hne=>hI.nyet i (by omega) his hia (by rw[←hEq];exact hne),by rw[hEq,hH];exact hI.early,by rw[hEq];exact hI.sep,by rw[hEq,hH];exact hI.ext,by rw[hEq,hH];exact hI.slots,hI.sz,by rw[hEq,hH];exact hI.de⟩
theorem Inv.advTo(hR:Run E f call N ops base T Hh): ∀{q:Nat},q≤ops.size→p≤q→Inv E f N s0 ops base T Hh A listed ρ0 w0 ρ w a p→(∀i,p≤i→i<q→isO E (opAt ops i)=false∨(isAl E (opAt ops i)=true∧Done listed i))→Inv E f N s0 ops base T Hh A listed ρ0 w0 ρ w a q:=by
 intro q
 induction q with
 |zero=>intro _ hpq hI _;obtain rfl:p=0:=by omega
        exact hI
 |succ q ih=>
  intro hq hpq hI h
  by_cases he:p=q+1
  ·rw[←he];exact hI
  ·exact(ih (by omega) (by omega) hI (fun i h1 h2=>h i h1 (by omega))).adv hR (by omega) (h q (by omega) (by omega))
theorem Inv.carry(hR:Run E f call N ops base T Hh)(hI:Inv E f N s0 ops base T Hh A listed ρ0 w0 ρ w a p){listed':Array Bool}{p':Nat}(hpp:p≤p')(hp':p'≤ops.size)(hE:Early E ops T listed' p'=Early E ops T listed p){ρ':Rho}{w':World}
  (hx:Ext (Own ρ (view (Hh p))) ρ w (Own ρ' (view (Hh p'))) ρ' w') (hr:HR E.G (Plus A (EA E ops base (Early E ops T listed p) ρ)) ρ' w' (view (Hh p')))
  (hsz:listed'.size=ops.size) (hcl:Closed ops (Done listed')) (hch: ∀i,i<ops.size→isO E (opAt ops i)=true→isAl E (opAt ops i)=false→(Done listed' i↔i<p')) (hal: ∀i,i<p'→isAl E (opAt ops i)=true→Done listed' i) {a':Act}
  (hsl: ∀t q,q≤ops.size→(∀i,i<q→(opAt ops i).dst=some t→Done listed' i)→(∀i,q≤i→i<ops.size→(opAt ops i).dst=some t→ ¬Done listed' i)→
   TR (Forb (Plus A (EA E ops base (Early E ops T listed p) ρ)) ρ' (view (Hh p'))) ρ' w' (a'.tmps.getD t Go.undef) (T q t)) (hN:a'.tmps.size=N) (hde:a'.defers=a.defers):
  Inv E f N s0 ops base T Hh A listed' ρ0 w0 ρ' w' a' p':=by
 have hsome: ∀i,Early E ops T listed p i→ρ' (idAt E ops base i)=ρ (idAt E ops base i):=fun i hi=>by
  obtain⟨B,k,v,x,e1,_⟩:=hI.early i hi;rw[e1,hx.sub _ _ e1]
 have hEA:=ea_congr (E:=E) (ops:=ops) (base:=base) hsome
 have hap: ∀i,Early E ops T listed p i→ ∀B k,ρ (idAt E ops base i)=some (B,k)→ ∀off,¬Own ρ (view (Hh p)) B off:=fun i hi B k hb=>hI.hr.apart (k:=k) (fun off h=> .inr ⟨i,k,hi,hb,h⟩)
 have hxt:Ext (Plus (Own ρ (view (Hh p))) (EA E ops base (Early E ops T listed p) ρ)) ρ w (Plus (Own ρ' (view (Hh p'))) (EA E ops base (Early E ops T listed p) ρ)) ρ' w':=hx.widen (fun B off h=> .inl h) (fun B off h=>by
  rcases h with h|h
  ·rcases hx.new B off h with h'|h'
   ·exact .inl (.inl h')
   ·exact .inr h'
  ·exact .inl (.inr h))
 refine⟨hsz,hcl,hp',hch,hal,by rw[hE,hEA];exact hr,fun i hi his hia hne=>?_,fun i hi=>?_,fun i b B k k1 hi h1 h2=>?_,?_,by rw[hE,hEA];exact hsl,hN,by rw[hde,hE,hEA];exact hI.de.ext hxt⟩
 ·have h0:=hI.nyet i (by omega) his hia (by rw[←hE];exact hne)
  cases hρ:ρ' (idAt E ops base i)with
  |none=>rfl
  |some z=>
   obtain⟨B,k⟩:=z
   have h1:=hr.hole _ (hR.kept i p' his hia hi) B k hρ
   have h2:=hI.hr.avo B k h1
   rcases hx.newρ _ B k hρ with h3|h3|h3
   ·rw[h0]at h3;cases h3
   ·exact absurd h3 h2.2
   ·omega
 ·rw[hE]at hi
  obtain⟨B,k,v,x,e1,e2,e3,e4,e5,e6⟩:=hI.early i hi;refine⟨B,k,v,x,hx.sub _ _ e1,e2,e3,Nat.lt_of_lt_of_le e4 hx.size,?_,e6⟩;rw[hE,hEA];exact e5.mono hx.sub hx.keeps (hx.keepo B e4 (hap i hi B k e1))
 ·rw[hE]at hi
  rw[hsome i hi]at h1
  rcases hx.newρ b B k1 h2 with h3|h3|h3
  ·exact hI.sep i b B k k1 hi h1 h3
  ·exact absurd h3 (hap i hi B k h1 k1)
  ·have:=hI.hr.lt h1;omega
 ·rw[hE,hEA];exact hI.ext.trans hxt
end
end Go.Proofs.YtcocmlmligjjcaaGreatDoor.AM
